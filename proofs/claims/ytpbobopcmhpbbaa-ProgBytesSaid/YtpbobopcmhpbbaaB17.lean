/- Functions of the program, each with what it computes; no further conditions. -/
import Derived.Test.YtpbobopcmhpbbaaB05
import Derived.Test.YtpbobopcmhpbbaaB16
import Derived.Test.YtpbobopcmhpbbaaB14
set_option linter.unusedVariables false
set_option linter.unusedSimpArgs false
namespace Go.Ev
attribute [local go_sem] eq_self bindW_some bindW_map bindW_ite bindW_iteN W_seq W_region W_draw W_cond W_condK W_ret W_skip W_exit W_scope W_label W_block blockK_norm blockK_ret blockK_exit WO_nil WO_cons WO_guard WD_nil WD_cons WD_guard guardV guardW_boolT guardW_boolF guardW_tup fpL_some fpL_none footprint thenK_norm thenK_ret thenK_exit put_some put_none ev_tmp ev_con ev_func ofK_int ofK_bool ofK_str ofK_nil evOp evBuiltin evCall evLen getElem_16 getElem_4 List.length_cons List.length_nil List.cons_append List.nil_append List.append_nil if_false if_true Bool.false_eq_true Bool.true_eq_false Option.map_some Option.map_none List.map_cons List.map_nil evBinOp evBin evUn asB_bool splitB_decide splitB_true splitB_false splitB_beq splitB_bne splitB_not endK_ret endK_norm List.getElem?_cons_zero List.getElem?_cons_succ evResults evResult packRes retK_norm retK_ret cellsAt mkVal evFieldAddr evField evIndexAddr evPart evStore evBuild evBuildSlice fillC fillE evSlice evMakeSlice evConvert getRow AV.cells List.head?_cons List.drop_zero List.drop_succ_cons List.take_zero List.take_succ_cons List.drop_nil List.take_nil List.all_cons List.all_nil AV.ok Bool.and_self Bool.and_true Bool.true_and and_self and_true true_and Nat.zero_add Nat.add_zero setCells splice pairsOk pairsX altW_none altW_some cfg_al WI_nil WI_cons FP.apart heapEq_refl sameAt_refl Bool.or_true Bool.true_or Bool.or_false srcElems elemsOf mutDst roundK_norm roundK_exit roundK_ret List.length_map List.getElem?_map Int.toNat_natCast decide_true decide_false Bool.not_true Bool.not_false List.set set_0 set_1 set_2 set_3 set_4 look_hit look lookD_hit lookD_cons lookD_nil ins_hit ins upd_hit upd rem1_hit rem1 dropT dropSt_eq initT cfg_dd cfg_bd cfg_ra actL_nil actL_cons act1 updT_hit updT frzB retE_norm retE_ret bndO bnd evEq eqCells not_false_eq_true not_true_eq_false toList_some Array.size_empty List.length_append List.map_append tySzE List.head?_drop Nat.mul_one sameAt_zero sameAt_two sameAt_three sameAt_four sameAt_five endE_norm endE_ret head_take1 List.contains_nil List.contains_cons Bool.or_self dlt_t dlt_f dle_t dle_f dgt_t dgt_f dge_t dge_f beq_t beq_f bne_t bne_f lt_T le_T nle_T nle_F Go.IntWalk.i64_in Go.IntWalk.i64_quo Go.IntWalk.rem_in room_ok
section
attribute [local go_sem] evAppend ty0 ty3 ty4 ty24 ty26 ty100 ty137
open Go.Proofs Go.RowKit Go.IntWalk
set_option maxRecDepth 100000
set_option linter.unusedSimpArgs false
set_option linter.unusedVariables false
set_option maxHeartbeats 8000000

theorem whole_facts {caps top op : Int} {set : List (Int × Int)} {kids : List Re} {mn mx md n : Int} {neg : Bool} (h : wholeG caps top (.mk op set kids mn mx md n neg) = true) :
    (∀ k ∈ kids, wholeG caps top k = true) ∧ kidsG op kids.length = true ∧ (op = 4 → repG mn mx md = true) ∧ (op = 5 ∨ op = 6 ∨ op = 10 → 1 ≤ n ∧ n ≤ caps) ∧ 0 ≤ op ∧ op ≤ 11 := by
  rw [wholeG, Bool.and_eq_true, wholeL_iff] at h
  obtain ⟨h1, h2⟩ := h
  simp only [formedG, Bool.and_eq_true, decide_eq_true_eq] at h1
  obtain ⟨⟨⟨⟨⟨⟨a1, a2⟩, a3⟩, a4⟩, a5⟩, a6⟩, a7⟩ := h1
  refine ⟨h2, a3, fun e => ?_, fun e => ?_, a1, a2⟩
  · rw [if_pos e] at a5; exact a5
  · rw [if_pos e] at a6; simpa using a6

theorem f133 (b0 : MB) (caps top : Int) : ∀ (N : Nat) (r : Re), r.wt ≤ N → r.wt ≤ 1000000 → wholeG caps top r = true → call Try.prog pol1 133 [.pt (reC r), .rf 1 1 0 0] [b0, .row 1 [.clo 133 [.rf 1 1 0 0]] 0] = some (.bool (nullG r), [b0, .row 1 [.clo 133 [.rf 1 1 0 0]] 0])
  | 0, r, h, _, _ => by have := r.wt_pos; omega
  | N + 1, .mk op set kids mn mx md n neg, h, hN, hw => by
    have hkl := Re.wtL_len kids
    have hwt : 1 + set.length + Re.wtL kids = (Re.mk op set kids mn mx md n neg).wt := by simp [Re.wt]
    obtain ⟨hwk, hkd, hrp, _, ho1, ho2⟩ := whole_facts hw
    have ih := fun k (hk : k ∈ kids) => f133 b0 caps top N k (by have := Re.wtL_mem hk; omega) (by have := Re.wtL_mem hk; omega) (hwk k hk)
    rw [show (.pt (reC (.mk op set kids mn mx md n neg)) : AV) = .pt (nodeL op set kids mn mx md n neg) from congrArg AV.pt reC_mk]
    have fr : frzArgs pol1 133 0 [.pt (nodeL op set kids mn mx md n neg), .rf 1 1 0 0] [b0, .row 1 [.clo 133 [.rf 1 1 0 0]] 0] = some ([.pt (nodeL op set kids mn mx md n neg), .rf 1 1 0 0], [b0, .row 1 [.clo 133 [.rf 1 1 0 0]] 0]) :=
      frzArgs_mix _ _ _ (by simp [mixOk, show pol1.byref 133 1 = true from rfl, AV.plain, AV.plainL, plain_span, plain_kids])
    have rt : ∀ x : Bool, retPol pol1 133 [b0, .row 1 [.clo 133 [.rf 1 1 0 0]] 0] (.bool x) [b0, .row 1 [.clo 133 [.rf 1 1 0 0]] 0] = some (.bool x, [b0, .row 1 [.clo 133 [.rf 1 1 0 0]] 0]) := fun x =>
      retPol_keep rfl rfl rfl (by simp [keptOk, MB.beq_refl]) rfl
    refine call_run2 (pol := pol1) Try.func133 rfl rfl rfl rfl fr ?_
    have any : ∀ r' : Bool, r' = nullAny kids → ∀ i, i < kids.length → ∀ k, kids[i]? = some k → (∀ j q, j < i → kids[j]? = some q → nullG q = false) → nullG k = true → r' = true := fun r' hr i _ k hk _ hn => by rw [hr, nullAny_true (List.mem_of_getElem? hk) hn]
    have hop : op = 0 ∨ op = 1 ∨ op = 2 ∨ op = 3 ∨ op = 4 ∨ op = 5 ∨ op = 6 ∨ op = 7 ∨ op = 8 ∨ op = 9 ∨ op = 10 ∨ op = 11 := by omega
    have hone : op = 4 ∨ op = 5 ∨ op = 9 → nullHd kids = nullAny kids := fun e => by
      have : kids.length = 1 := by rcases e with rfl | rfl | rfl <;> simpa [kidsG] using hkd
      match kids, this with
      | [k], _ => simp [nullHd, nullAny]
    by_cases hloop : op = 3 ∨ op = 10 ∨ op = 5 ∨ op = 9 ∨ (op = 4 ∧ mn ≠ 0)
    · have hres : nullG (.mk op set kids mn mx md n neg) = nullAny kids := by
        rw [nullG]
        rcases hloop with rfl | rfl | rfl | rfl | ⟨rfl, hmn⟩
        · simp
        · simp
        · simp [hone (.inr (.inl rfl))]
        · simp [hone (.inr (.inr rfl))]
        · have hr := hrp rfl
          simp only [repG, Bool.and_eq_true, decide_eq_true_eq] at hr
          have : ¬ mn ≤ 0 := by omega
          simp [hone (.inl rfl), this]
      rw [hres]
      clear hres hone any
      rcases hloop with rfl | rfl | rfl | rfl | ⟨rfl, hmn⟩
      all_goals (
        simp +contextual (disch := omega) only [Try.f133, dd133, go_sem, ↓reduceIte, List.reduceReplicate, Nat.reduceAdd, Nat.reduceSub, reduceCtorEq, Nat.reduceLeDiff, Nat.reduceMul, Nat.reduceLT, Nat.reduceEqDiff, Int.reduceBNe, Int.reduceBEq, Int.reduceEq, Int.reduceLT, Int.reduceLE, Int.reduceGT, Int.reduceGE, mu133, Nat.reduceBEq, ↓wrap_up, ↓wrap_down, ↓wrap_pred, ↓wrap_sub_nat, Int.reduceToNat]
        refine W_count (M := (mskOf (pol1.mask 133) (pol1.gc 133) (pol1.acts 133) 0 25)) rfl kids.length (fun i => (⟨65, [(53, I i), (52, I kids.length), (1, .rf 1 1 0 0), (0, .pt (nodeL _ set kids mn mx md n neg))], [b0, .row 1 [.clo 133 [.rf 1 1 0 0]] 0]⟩ : St)) (fun i => ∀ j k, j < i → kids[j]? = some k → nullG k = false) ?_ ?_ (fun j k h => by omega) _ rfl
        · intro i hi hg
          obtain ⟨k, hk⟩ : ∃ k, kids[i]? = some k := ⟨_, List.getElem?_eq_getElem hi⟩
          have ihk := ih k (List.mem_of_getElem? hk)
          have hl8 := reC_len k
          have ht8 := reC_take k
          cases hn : nullG k with
          | true =>
            rw [hn] at ihk
            rw [nullAny_true (List.mem_of_getElem? hk) hn]
            simp +contextual (disch := omega) only [Try.f133, dd133, go_sem, ↓reduceIte, List.reduceReplicate, Nat.reduceAdd, Nat.reduceSub, reduceCtorEq, Nat.reduceLeDiff, Nat.reduceMul, Nat.reduceLT, Nat.reduceEqDiff, Int.reduceBNe, Int.reduceBEq, Int.reduceEq, Int.reduceLT, Int.reduceLE, Int.reduceGT, Int.reduceGE, mu133, Nat.reduceBEq, ↓wrap_up, ↓wrap_down, ↓wrap_pred, ↓wrap_sub_nat, Int.reduceToNat, hk, ihk, hl8, ht8, rt]
            repeat' (first | intro _ | apply And.intro | (unfold dOk; kernel_rfl) | exact St.beq_refl _ | (show altO _ _ _ _ = true; kernel_rfl) | (show (_ || _) = true; kernel_rfl) | (show (_ && _) = true; kernel_rfl))
          | false =>
            rw [hn] at ihk
            simp +contextual (disch := omega) only [Try.f133, dd133, go_sem, ↓reduceIte, List.reduceReplicate, Nat.reduceAdd, Nat.reduceSub, reduceCtorEq, Nat.reduceLeDiff, Nat.reduceMul, Nat.reduceLT, Nat.reduceEqDiff, Int.reduceBNe, Int.reduceBEq, Int.reduceEq, Int.reduceLT, Int.reduceLE, Int.reduceGT, Int.reduceGE, mu133, Nat.reduceBEq, ↓wrap_up, ↓wrap_down, ↓wrap_pred, ↓wrap_sub_nat, Int.reduceToNat, hk, ihk, hl8, ht8]
            repeat' (first | intro _ | apply And.intro | (unfold dOk; kernel_rfl) | exact St.beq_refl _ | (show altO _ _ _ _ = true; kernel_rfl) | (show (_ || _) = true; kernel_rfl) | (show (_ && _) = true; kernel_rfl))
            · rename_i j q hj hq
              rcases Nat.lt_or_ge j i with h | h
              · exact hg j q h hq
              · obtain rfl : j = i := by omega
                rw [hk] at hq; obtain rfl := Option.some.inj hq
                exact hn
            · rfl
        · intro hg
          rw [nullAny_false fun j k hj hk => hg j k hj hk]
          simp +contextual (disch := omega) only [Try.f133, dd133, go_sem, ↓reduceIte, List.reduceReplicate, Nat.reduceAdd, Nat.reduceSub, reduceCtorEq, Nat.reduceLeDiff, Nat.reduceMul, Nat.reduceLT, Nat.reduceEqDiff, Int.reduceBNe, Int.reduceBEq, Int.reduceEq, Int.reduceLT, Int.reduceLE, Int.reduceGT, Int.reduceGE, mu133, Nat.reduceBEq, ↓wrap_up, ↓wrap_down, ↓wrap_pred, ↓wrap_sub_nat, Int.reduceToNat, rt])
    · clear any hone
      have hop : op = 2 ∨ op = 1 ∨ (op = 4 ∧ mn = 0) ∨ op = 0 ∨ op = 6 ∨ op = 7 ∨ op = 8 ∨ op = 11 := by omega
      clear hloop
      rcases hop with rfl | hop
      · rw [nullG, if_neg (by omega), if_pos rfl]
        simp +contextual (disch := omega) only [Try.f133, dd133, go_sem, ↓reduceIte, List.reduceReplicate, Nat.reduceAdd, Nat.reduceSub, reduceCtorEq, Nat.reduceLeDiff, Nat.reduceMul, Nat.reduceLT, Nat.reduceEqDiff, Int.reduceBNe, Int.reduceBEq, Int.reduceEq, Int.reduceLT, Int.reduceLE, Int.reduceGT, Int.reduceGE, mu133, Nat.reduceBEq, ↓wrap_up, ↓wrap_down, ↓wrap_pred, ↓wrap_sub_nat, Int.reduceToNat]
        refine W_count (M := (mskOf (pol1.mask 133) (pol1.gc 133) (pol1.acts 133) 0 11)) rfl kids.length (fun i => (⟨65, [(23, I i), (22, I kids.length), (1, .rf 1 1 0 0), (0, .pt (nodeL _ set kids mn mx md n neg))], [b0, .row 1 [.clo 133 [.rf 1 1 0 0]] 0]⟩ : St)) (fun i => ∀ j k, j < i → kids[j]? = some k → nullG k = true) ?_ ?_ (fun j k h => by omega) _ rfl
        · intro i hi hg
          obtain ⟨k, hk⟩ : ∃ k, kids[i]? = some k := ⟨_, List.getElem?_eq_getElem hi⟩
          have ihk := ih k (List.mem_of_getElem? hk)
          have hl8 := reC_len k
          have ht8 := reC_take k
          cases hn : nullG k with
          | false =>
            rw [hn] at ihk
            rw [nullAll_false (List.mem_of_getElem? hk) hn]
            simp +contextual (disch := omega) only [Try.f133, dd133, go_sem, ↓reduceIte, List.reduceReplicate, Nat.reduceAdd, Nat.reduceSub, reduceCtorEq, Nat.reduceLeDiff, Nat.reduceMul, Nat.reduceLT, Nat.reduceEqDiff, Int.reduceBNe, Int.reduceBEq, Int.reduceEq, Int.reduceLT, Int.reduceLE, Int.reduceGT, Int.reduceGE, mu133, Nat.reduceBEq, ↓wrap_up, ↓wrap_down, ↓wrap_pred, ↓wrap_sub_nat, Int.reduceToNat, hk, ihk, hl8, ht8, rt]
            repeat' (first | intro _ | apply And.intro | (unfold dOk; kernel_rfl) | exact St.beq_refl _ | (show altO _ _ _ _ = true; kernel_rfl) | (show (_ || _) = true; kernel_rfl) | (show (_ && _) = true; kernel_rfl))
          | true =>
            rw [hn] at ihk
            simp +contextual (disch := omega) only [Try.f133, dd133, go_sem, ↓reduceIte, List.reduceReplicate, Nat.reduceAdd, Nat.reduceSub, reduceCtorEq, Nat.reduceLeDiff, Nat.reduceMul, Nat.reduceLT, Nat.reduceEqDiff, Int.reduceBNe, Int.reduceBEq, Int.reduceEq, Int.reduceLT, Int.reduceLE, Int.reduceGT, Int.reduceGE, mu133, Nat.reduceBEq, ↓wrap_up, ↓wrap_down, ↓wrap_pred, ↓wrap_sub_nat, Int.reduceToNat, hk, ihk, hl8, ht8]
            repeat' (first | intro _ | apply And.intro | (unfold dOk; kernel_rfl) | exact St.beq_refl _ | (show altO _ _ _ _ = true; kernel_rfl) | (show (_ || _) = true; kernel_rfl) | (show (_ && _) = true; kernel_rfl))
            · rename_i j q hj hq
              rcases Nat.lt_or_ge j i with h | h
              · exact hg j q h hq
              · obtain rfl : j = i := by omega
                rw [hk] at hq; obtain rfl := Option.some.inj hq
                exact hn
            · rfl
        · intro hg
          rw [nullAll_true fun j k hj hk => hg j k hj hk]
          simp +contextual (disch := omega) only [Try.f133, dd133, go_sem, ↓reduceIte, List.reduceReplicate, Nat.reduceAdd, Nat.reduceSub, reduceCtorEq, Nat.reduceLeDiff, Nat.reduceMul, Nat.reduceLT, Nat.reduceEqDiff, Int.reduceBNe, Int.reduceBEq, Int.reduceEq, Int.reduceLT, Int.reduceLE, Int.reduceGT, Int.reduceGE, mu133, Nat.reduceBEq, ↓wrap_up, ↓wrap_down, ↓wrap_pred, ↓wrap_sub_nat, Int.reduceToNat, rt]
      · have hres : nullG (.mk op set kids mn mx md n neg) = (if op = 1 then false else true) := by
          rw [nullG]
          rcases hop with rfl | ⟨rfl, rfl⟩ | rfl | rfl | rfl | rfl | rfl <;> simp
        rw [hres]
        rcases hop with rfl | ⟨rfl, rfl⟩ | rfl | rfl | rfl | rfl | rfl
        all_goals (
          first | rw [if_pos rfl] | rw [if_neg (by omega)]
          simp +contextual (disch := omega) only [Try.f133, dd133, go_sem, ↓reduceIte, List.reduceReplicate, Nat.reduceAdd, Nat.reduceSub, reduceCtorEq, Nat.reduceLeDiff, Nat.reduceMul, Nat.reduceLT, Nat.reduceEqDiff, Int.reduceBNe, Int.reduceBEq, Int.reduceEq, Int.reduceLT, Int.reduceLE, Int.reduceGT, Int.reduceGE, mu133, Nat.reduceBEq, ↓wrap_up, ↓wrap_down, ↓wrap_pred, ↓wrap_sub_nat, Int.reduceToNat, rt])

theorem f105 (r : Re) (hN : r.wt ≤ 1000000) (caps top : Int) (hw : wholeG caps top r = true) (H : List MB) : call Try.prog pol1 105 [reAV r] H = some (.bool (nullG r), H) := by
  refine call_run Try.func105 rfl rfl rfl rfl rfl rfl (fun _ => rfl) (by simp [AV.plain, AV.plainL, plain_reC]) rfl ?_ H
  have hz : fz (.rf 0 1 0 0) [.row 8 [.agg (reC r)] 0] = some (.pt (reC r), [.row 8 [.agg (reC r)] 1]) := fz_rf (x := .agg (reC r)) (k := 8) (z := 0) rfl rfl rfl (plain_reC r)
  have hc := fun b0 => f133 b0 caps top r.wt r (Nat.le_refl _) hN hw
  have hl8 := reC_len r
  have hal := reC_ok r
  simp +contextual (disch := omega) only [Try.f105, dd105, go_sem, ↓reduceIte, List.reduceReplicate, Nat.reduceAdd, Nat.reduceSub, reduceCtorEq, Nat.reduceLeDiff, Nat.reduceMul, Nat.reduceLT, Nat.reduceEqDiff, Int.reduceBNe, Int.reduceBEq, Int.reduceEq, Int.reduceLT, Int.reduceLE, Int.reduceGT, Int.reduceGE, mu105, Nat.reduceBEq, ↓wrap_up, ↓wrap_down, ↓wrap_pred, ↓wrap_sub_nat, Int.reduceToNat, hl8, hz, hc, hal, lookD, look]
  exact fzEq rfl rfl
end
section
attribute [local go_sem] evAppend ty0 ty3 ty4 ty24 ty26 ty100
open Go.Proofs Go.RowKit Go.IntWalk
set_option maxRecDepth 100000
set_option linter.unusedSimpArgs false
set_option linter.unusedVariables false
set_option maxHeartbeats 8000000

mutual
/-- How many instructions the code of a tree has. -/
def lenG : Re → Nat
  | .mk op set kids mn mx md n neg =>
    if op = 1 ∨ op = 11 then 1 else if op = 3 then lenL kids + 2 * (kids.length - 1) else if op = 5 then lenL kids + 2
    else if op = 4 then (if mx = -1 then (mn.toNat + 1) * lenL kids + 2 else mx.toNat * lenL kids + (mx.toNat - mn.toNat)) else lenL kids
def lenL : List Re → Nat
  | [] => 0
  | k :: ks => lenG k + lenL ks
end
theorem lenL_append : ∀ (a b : List Re), lenL (a ++ b) = lenL a + lenL b
  | [], b => by simp [lenL]
  | k :: ks, b => by simp [lenL, lenL_append ks b, Nat.add_assoc]
theorem lenL_take {l : List Re} {i : Nat} {k : Re} (h : l[i]? = some k) : lenL (l.take (i + 1)) = lenL (l.take i) + lenG k := by
  rw [List.take_add_one, h, lenL_append]; simp [lenL]

theorem f50 (caps top : Int) : ∀ (N : Nat) (r : Re), r.wt ≤ N → r.wt ≤ 1000000 → wholeG caps top r = true → ∀ H, call Try.prog pol1 50 [.pt (reC r)] H = some (I ((min (lenG r) 8193 : Nat) : Int), H)
  | 0, r, h, _, _, _ => by have := r.wt_pos; omega
  | N + 1, .mk op set kids mn mx md n neg, h, hN, hw, H => by
    have hkl := Re.wtL_len kids
    have hwt : 1 + set.length + Re.wtL kids = (Re.mk op set kids mn mx md n neg).wt := by simp [Re.wt]
    obtain ⟨hwk, hkd, hrp, _, ho1, ho2⟩ := whole_facts hw
    have ih := fun k (hk : k ∈ kids) => f50 caps top N k (by have := Re.wtL_mem hk; omega) (by have := Re.wtL_mem hk; omega) (hwk k hk)
    rw [show (.pt (reC (.mk op set kids mn mx md n neg)) : AV) = .pt (nodeL op set kids mn mx md n neg) from congrArg AV.pt reC_mk]
    refine call_run Try.func50 rfl rfl rfl rfl rfl rfl (fun _ => rfl) (by simp [AV.plain, AV.plainL, plain_span, plain_kids]) rfl ?_ H
    simp +contextual (disch := omega) only [Try.f50, dd50, go_sem, ↓reduceIte, List.reduceReplicate, Nat.reduceAdd, Nat.reduceSub, reduceCtorEq, Nat.reduceLeDiff, Nat.reduceMul, Nat.reduceLT, Nat.reduceEqDiff, Int.reduceBNe, Int.reduceBEq, Int.reduceEq, Int.reduceLT, Int.reduceLE, Int.reduceGT, Int.reduceGE, mu50, Nat.reduceBEq, ↓wrap_up, ↓wrap_down, ↓wrap_pred, ↓wrap_sub_nat, Int.reduceToNat]
    refine W_count (M := (mskOf (pol1.mask 50) (pol1.gc 50) (pol1.acts 50) 0 3)) rfl kids.length (fun i => (⟨81, [(11, I i), (10, I kids.length), (3, I ((min (lenL (kids.take i)) 8193 : Nat) : Int)), (0, .pt (nodeL op set kids mn mx md n neg))], []⟩ : St)) (fun _ => True) ?_ ?_ trivial _ (by first | rfl | (simp [keepT, AV.underL, AV.under, MB.under, underL_plain, under_plain, underL_append, plain_ints, plain_span, plain_ins, plain_prg, -List.map_take, -List.map_replicate, -List.map_set, lenL, plain_kids]; done))
    · intro i hi _
      obtain ⟨k, hk⟩ : ∃ k, kids[i]? = some k := ⟨_, List.getElem?_eq_getElem hi⟩
      have ihk := ih k (List.mem_of_getElem? hk)
      have hl8 := reC_len k
      have ht8 := reC_take k
      have e1 := lenL_take hk
      have hm : (if (8193 : Int) < ((min (lenL (kids.take i)) 8193 : Nat) : Int) + ((min (lenG k) 8193 : Nat) : Int) then (8193 : Int) else ((min (lenL (kids.take i)) 8193 : Nat) : Int) + ((min (lenG k) 8193 : Nat) : Int)) = ((min (lenL (kids.take (i + 1))) 8193 : Nat) : Int) := by
        rw [e1]; split <;> omega
      simp +contextual (disch := omega) only [Try.f50, dd50, go_sem, ↓reduceIte, List.reduceReplicate, Nat.reduceAdd, Nat.reduceSub, reduceCtorEq, Nat.reduceLeDiff, Nat.reduceMul, Nat.reduceLT, Nat.reduceEqDiff, Int.reduceBNe, Int.reduceBEq, Int.reduceEq, Int.reduceLT, Int.reduceLE, Int.reduceGT, Int.reduceGE, mu50, Nat.reduceBEq, ↓wrap_up, ↓wrap_down, ↓wrap_pred, ↓wrap_sub_nat, Int.reduceToNat, hk, ihk, evMin, hm, hl8, ht8]
      exact (by first | rfl | (simp [keepT, AV.underL, AV.under, MB.under, underL_plain, under_plain, underL_append, plain_ints, plain_span, plain_ins, plain_prg, -List.map_take, -List.map_replicate, -List.map_set, plain_kids]; done))
    · intro _
      rw [List.take_length]
      have hop : op = 0 ∨ op = 1 ∨ op = 2 ∨ op = 3 ∨ op = 4 ∨ op = 5 ∨ op = 6 ∨ op = 7 ∨ op = 8 ∨ op = 9 ∨ op = 10 ∨ op = 11 := by omega
      rw [lenG]
      generalize lenL kids = L at *
      by_cases h1 : op = 1 ∨ op = 11
      · rw [if_pos h1]
        rcases h1 with rfl | rfl
        all_goals (
          simp +contextual (disch := omega) only [Try.f50, dd50, go_sem, ↓reduceIte, List.reduceReplicate, Nat.reduceAdd, Nat.reduceSub, reduceCtorEq, Nat.reduceLeDiff, Nat.reduceMul, Nat.reduceLT, Nat.reduceEqDiff, Int.reduceBNe, Int.reduceBEq, Int.reduceEq, Int.reduceLT, Int.reduceLE, Int.reduceGT, Int.reduceGE, mu50, Nat.reduceBEq, ↓wrap_up, ↓wrap_down, ↓wrap_pred, ↓wrap_sub_nat, Int.reduceToNat, evMin]
          exact fzEq rfl rfl)
      rw [if_neg h1]
      by_cases h3 : op = 3
      · subst h3
        rw [if_pos rfl]
        have hk2 : 2 ≤ kids.length := by simpa [kidsG] using hkd
        have hw1 : IntKind.i64.wrap (((kids.length : Nat) : Int) - 1) = ((kids.length - 1 : Nat) : Int) := wrap_pred ⟨by omega, by omega⟩
        simp +contextual (disch := omega) only [Try.f50, dd50, go_sem, ↓reduceIte, List.reduceReplicate, Nat.reduceAdd, Nat.reduceSub, reduceCtorEq, Nat.reduceLeDiff, Nat.reduceMul, Nat.reduceLT, Nat.reduceEqDiff, Int.reduceBNe, Int.reduceBEq, Int.reduceEq, Int.reduceLT, Int.reduceLE, Int.reduceGT, Int.reduceGE, mu50, Nat.reduceBEq, ↓wrap_up, ↓wrap_down, ↓wrap_pred, ↓wrap_sub_nat, Int.reduceToNat, evMin]
        refine fzEq rfl (congrArg (AV.int .i64) ?_)
        split <;> omega
      rw [if_neg h3]
      by_cases h5 : op = 5
      · subst h5
        rw [if_pos rfl]
        simp +contextual (disch := omega) only [Try.f50, dd50, go_sem, ↓reduceIte, List.reduceReplicate, Nat.reduceAdd, Nat.reduceSub, reduceCtorEq, Nat.reduceLeDiff, Nat.reduceMul, Nat.reduceLT, Nat.reduceEqDiff, Int.reduceBNe, Int.reduceBEq, Int.reduceEq, Int.reduceLT, Int.reduceLE, Int.reduceGT, Int.reduceGE, mu50, Nat.reduceBEq, ↓wrap_up, ↓wrap_down, ↓wrap_pred, ↓wrap_sub_nat, Int.reduceToNat, evMin]
        refine fzEq rfl (congrArg (AV.int .i64) ?_)
        split <;> omega
      rw [if_neg h5]
      by_cases h4 : op = 4
      · subst h4
        rw [if_pos rfl]
        have hr := hrp rfl
        simp only [repG, Bool.and_eq_true, Bool.or_eq_true, decide_eq_true_eq, beq_iff_eq] at hr
        obtain ⟨mn', rfl⟩ : ∃ m : Nat, mn = m := ⟨mn.toNat, by omega⟩
        have hmn : mn' ≤ 32 := by omega
        have hmul : ∀ a : Nat, a ≤ 33 → a * (min L 8193) ≤ 33 * 8193 := fun a ha => Nat.mul_le_mul ha (by omega)
        have hml := hmul mn' (by omega)
        have hc1 : (mn' : Int) * ((min L 8193 : Nat) : Int) = ((mn' * min L 8193 : Nat) : Int) := by simp
        by_cases hmx : mx = -1
        · subst hmx
          rw [if_pos rfl]
          simp +contextual (disch := omega) only [Try.f50, dd50, go_sem, ↓reduceIte, List.reduceReplicate, Nat.reduceAdd, Nat.reduceSub, reduceCtorEq, Nat.reduceLeDiff, Nat.reduceMul, Nat.reduceLT, Nat.reduceEqDiff, Int.reduceBNe, Int.reduceBEq, Int.reduceEq, Int.reduceLT, Int.reduceLE, Int.reduceGT, Int.reduceGE, mu50, Nat.reduceBEq, ↓wrap_up, ↓wrap_down, ↓wrap_pred, ↓wrap_sub_nat, Int.reduceToNat, evMin, hc1]
          refine fzEq rfl (congrArg (AV.int .i64) ?_)
          rw [Nat.succ_mul]
          by_cases hL : L ≤ 8193
          · rw [Nat.min_eq_left hL] at *
            split <;> omega
          · have hle : L ≤ mn' * L + L := Nat.le_add_left _ _
            rw [Nat.min_eq_right (by omega)] at *
            split <;> omega
        · rw [if_neg hmx]
          obtain ⟨mx', rfl⟩ : ∃ m : Nat, mx = m := ⟨mx.toNat, by omega⟩
          obtain ⟨e, rfl⟩ : ∃ e, mx' = mn' + e := ⟨mx' - mn', by omega⟩
          have hsub : ((mn' + e : Nat) : Int) - (mn' : Int) = (e : Int) := by omega
          have hme : e * (min L 8193 + 1) ≤ 33 * 8194 := Nat.mul_le_mul (by omega) (by omega)
          have hc2 : (e : Int) * ((min L 8193 + 1 : Nat) : Int) = ((e * (min L 8193 + 1) : Nat) : Int) := by simp
          have hnn : mn' + e - mn' = e := by omega
          simp +contextual (disch := omega) only [Try.f50, dd50, go_sem, ↓reduceIte, List.reduceReplicate, Nat.reduceAdd, Nat.reduceSub, reduceCtorEq, Nat.reduceLeDiff, Nat.reduceMul, Nat.reduceLT, Nat.reduceEqDiff, Int.reduceBNe, Int.reduceBEq, Int.reduceEq, Int.reduceLT, Int.reduceLE, Int.reduceGT, Int.reduceGE, mu50, Nat.reduceBEq, ↓wrap_up, ↓wrap_down, ↓wrap_pred, ↓wrap_sub_nat, Int.reduceToNat, evMin, hc1, hc2, hnn, hsub]
          refine ⟨by unfold dOk; kernel_rfl, ?_⟩
          refine fzEq rfl (congrArg (AV.int .i64) ?_)
          rw [Nat.mul_add, Nat.add_mul, Nat.mul_one] at *
          by_cases hL : L ≤ 8193
          · rw [Nat.min_eq_left hL] at *
            split <;> omega
          · rw [Nat.min_eq_right (by omega)] at *
            have h1 : mn' = 0 ∨ L ≤ mn' * L := by
              rcases Nat.eq_zero_or_pos mn' with h | h
              · exact .inl h
              · exact .inr (Nat.le_mul_of_pos_left _ h)
            have h2 : e = 0 ∨ L ≤ e * L := by
              rcases Nat.eq_zero_or_pos e with h | h
              · exact .inl h
              · exact .inr (Nat.le_mul_of_pos_left _ h)
            split <;> omega
      rw [if_neg h4]
      simp +contextual (disch := omega) only [Try.f50, dd50, go_sem, ↓reduceIte, List.reduceReplicate, Nat.reduceAdd, Nat.reduceSub, reduceCtorEq, Nat.reduceLeDiff, Nat.reduceMul, Nat.reduceLT, Nat.reduceEqDiff, Int.reduceBNe, Int.reduceBEq, Int.reduceEq, Int.reduceLT, Int.reduceLE, Int.reduceGT, Int.reduceGE, mu50, Nat.reduceBEq, ↓wrap_up, ↓wrap_down, ↓wrap_pred, ↓wrap_sub_nat, Int.reduceToNat, evMin]
      refine fzEq rfl (congrArg (AV.int .i64) ?_)
      split <;> omega


end
section
attribute [local go_sem] evAppend ty0 ty3 ty4 ty22 ty24 ty26
open Go.Proofs Go.RowKit Go.IntWalk
set_option maxRecDepth 100000
set_option linter.unusedSimpArgs false
set_option linter.unusedVariables false
set_option maxHeartbeats 8000000

theorem compL_iff (ins : List Int) : ∀ l : List Re, compL ins l = true ↔ ∀ k ∈ l, compG ins k = true
  | [] => by simp [compL]
  | k :: ks => by simp [compL, compL_iff ins ks]
theorem compL_false {ins : List Int} {l : List Re} {k : Re} (h : k ∈ l) (hk : compG ins k = false) : compL ins l = false := by
  rw [Bool.eq_false_iff]
  intro hw
  rw [compL_iff] at hw
  rw [hw k h] at hk; cases hk
theorem compL_true {ins : List Int} {l : List Re} (h : ∀ (i : Nat) (k : Re), i < l.length → l[i]? = some k → compG ins k = true) : compL ins l = true := by
  rw [compL_iff]
  intro k hk
  obtain ⟨i, hi, e⟩ := List.getElem_of_mem hk
  exact h i k hi (by rw [← e]; exact List.getElem?_eq_getElem hi)


theorem f134 (l : List Int) (x : Int) (hl : l.length ≤ 10000000) : ∃ r : Int, (0 ≤ r ↔ x ∈ l) ∧ ∀ H, call Try.prog pol1 134 [.sl false (l.map I), I x] H = some (I r, H) := by
  have h : ∃ r, (∃ i : Int, (0 ≤ i ↔ x ∈ l) ∧ r = I i) ∧ ∀ H, call Try.prog pol1 134 [.sl false (l.map I), I x] H = some (r, H) := by
    refine call_runA Try.func134 rfl rfl rfl rfl rfl rfl (fun _ => rfl) (by simp [AV.plain, AV.plainL, plain_ints]) ?_ ?_
    · rintro _ ⟨i, _, rfl⟩; rfl
    simp +contextual (disch := omega) only [Try.f134, dd134, go_sem, ↓reduceIte, List.reduceReplicate, Nat.reduceAdd, Nat.reduceSub, reduceCtorEq, Nat.reduceLeDiff, Nat.reduceMul, Nat.reduceLT, Nat.reduceEqDiff, Int.reduceBNe, Int.reduceBEq, Int.reduceEq, Int.reduceLT, Int.reduceLE, Int.reduceGT, Int.reduceGE, mu134, Nat.reduceBEq, ↓wrap_up, ↓wrap_down, ↓wrap_pred, ↓wrap_sub_nat, Int.reduceToNat]
    refine W_count (M := (mskOf (pol1.mask 134) (pol1.gc 134) (pol1.acts 134) 0 2)) rfl l.length (fun i => (⟨19, [(8, I i), (7, I l.length), (1, I x), (0, .sl false (l.map I))], []⟩ : St)) (fun i => ∀ k p, k < i → l[k]? = some p → p ≠ x) ?_ ?_ (fun k p h => by omega) _ (by first | rfl | (simp [keepT, AV.underL, AV.under, MB.under, underL_plain, under_plain, underL_append, plain_ints, plain_span, plain_ins, plain_prg, -List.map_take, -List.map_replicate, -List.map_set]; done))
    · intro i hi hg
      obtain ⟨p, hp⟩ : ∃ p, l[i]? = some p := ⟨_, List.getElem?_eq_getElem hi⟩
      by_cases hpx : p = x
      · subst hpx
        simp +contextual (disch := omega) only [Try.f134, dd134, go_sem, ↓reduceIte, List.reduceReplicate, Nat.reduceAdd, Nat.reduceSub, reduceCtorEq, Nat.reduceLeDiff, Nat.reduceMul, Nat.reduceLT, Nat.reduceEqDiff, Int.reduceBNe, Int.reduceBEq, Int.reduceEq, Int.reduceLT, Int.reduceLE, Int.reduceGT, Int.reduceGE, mu134, Nat.reduceBEq, ↓wrap_up, ↓wrap_down, ↓wrap_pred, ↓wrap_sub_nat, Int.reduceToNat, hp]
        exact ⟨_, ⟨i, ⟨fun _ => List.mem_of_getElem? hp, fun _ => by omega⟩, rfl⟩, _, rfl⟩
      · simp +contextual (disch := omega) only [Try.f134, dd134, go_sem, ↓reduceIte, List.reduceReplicate, Nat.reduceAdd, Nat.reduceSub, reduceCtorEq, Nat.reduceLeDiff, Nat.reduceMul, Nat.reduceLT, Nat.reduceEqDiff, Int.reduceBNe, Int.reduceBEq, Int.reduceEq, Int.reduceLT, Int.reduceLE, Int.reduceGT, Int.reduceGE, mu134, Nat.reduceBEq, ↓wrap_up, ↓wrap_down, ↓wrap_pred, ↓wrap_sub_nat, Int.reduceToNat, hp]
        refine ⟨fun k q hk hq => ?_, (by first | rfl | (simp [keepT, AV.underL, AV.under, MB.under, underL_plain, under_plain, underL_append, plain_ints, plain_span, plain_ins, plain_prg, -List.map_take, -List.map_replicate, -List.map_set]; done))⟩
        rcases Nat.lt_or_ge k i with h | h
        · exact hg k q h hq
        · obtain rfl : k = i := by omega
          rw [hp] at hq; obtain rfl := Option.some.inj hq
          exact hpx
    · intro hg
      have : ¬ x ∈ l := fun hm => by
        obtain ⟨i, hi, e⟩ := List.getElem_of_mem hm
        exact hg i x hi (by rw [← e]; exact List.getElem?_eq_getElem hi) rfl
      simp +contextual (disch := omega) only [Try.f134, dd134, go_sem, ↓reduceIte, List.reduceReplicate, Nat.reduceAdd, Nat.reduceSub, reduceCtorEq, Nat.reduceLeDiff, Nat.reduceMul, Nat.reduceLT, Nat.reduceEqDiff, Int.reduceBNe, Int.reduceBEq, Int.reduceEq, Int.reduceLT, Int.reduceLE, Int.reduceGT, Int.reduceGE, mu134, Nat.reduceBEq, ↓wrap_up, ↓wrap_down, ↓wrap_pred, ↓wrap_sub_nat, Int.reduceToNat]
      exact ⟨_, ⟨-1, ⟨fun h => by omega, fun h => absurd h this⟩, rfl⟩, _, rfl⟩
  obtain ⟨_, ⟨i, h1, rfl⟩, h2⟩ := h
  exact ⟨i, h1, h2⟩
theorem f106 (l : List Int) (x : Int) (hl : l.length ≤ 10000000) (H : List MB) : call Try.prog pol1 106 [.sl false (l.map I), I x] H = some (.bool (decide (x ∈ l)), H) := by
  refine call_run Try.func106 rfl rfl rfl rfl rfl rfl (fun _ => rfl) (by simp [AV.plain, AV.plainL, plain_ints]) rfl ?_ H
  obtain ⟨r, h1, h2⟩ := f134 l x hl
  simp +contextual (disch := omega) only [Try.f106, dd106, go_sem, ↓reduceIte, List.reduceReplicate, Nat.reduceAdd, Nat.reduceSub, reduceCtorEq, Nat.reduceLeDiff, Nat.reduceMul, Nat.reduceLT, Nat.reduceEqDiff, Int.reduceBNe, Int.reduceBEq, Int.reduceEq, Int.reduceLT, Int.reduceLE, Int.reduceGT, Int.reduceGE, mu106, Nat.reduceBEq, ↓wrap_up, ↓wrap_down, ↓wrap_pred, ↓wrap_sub_nat, Int.reduceToNat, h2]
  refine fzEq rfl (congrArg AV.bool ?_)
  rw [decide_eq_decide]
  exact h1


end
section
attribute [local go_sem] evAppend
open Go.Proofs Go.RowKit Go.IntWalk
set_option maxRecDepth 100000
set_option linter.unusedSimpArgs false
set_option linter.unusedVariables false
set_option maxHeartbeats 8000000

def insSplit (md next other : Int) : Ins := if md = 1 then ⟨2, other, next, 0, []⟩ else ⟨2, next, other, 0, []⟩
mutual
/-- The code of a tree, whose first instruction has a number. -/
def codeG : Re → Nat → List Ins
  | .mk op set kids mn mx md n neg, f =>
    if op = 1 then [⟨1, 0, 0, 0, set⟩] else if op = 11 then [⟨5, 0, 0, n, []⟩] else if op = 2 then codeCat kids f else if op = 3 then codeAlt kids f
    else if op = 5 then ⟨4, 0, 0, 2 * n - 2, []⟩ :: (codeHd kids (f + 1) ++ [⟨4, 0, 0, 2 * n - 1, []⟩])
    else if op = 4 then
      let L := lenL kids
      let copies := (List.range mn.toNat).flatMap fun i => codeHd kids (f + i * L)
      let p := f + mn.toNat * L
      if mx = -1 then copies ++ (insSplit md ((p + 1 : Nat) : Int) ((p + L + 2 : Nat) : Int) :: (codeHd kids (p + 1) ++ [⟨3, (p : Int), 0, 0, []⟩]))
      else copies ++ (List.range (mx.toNat - mn.toNat)).flatMap fun j => insSplit md ((p + j * (L + 1) + 1 : Nat) : Int) ((f + mx.toNat * L + (mx.toNat - mn.toNat) : Nat) : Int) :: codeHd kids (p + j * (L + 1) + 1)
    else []
def codeCat : List Re → Nat → List Ins
  | [], _ => []
  | k :: ks, f => codeG k f ++ codeCat ks (f + lenG k)
def codeAlt : List Re → Nat → List Ins
  | [], _ => []
  | k :: ks, f => if ks.length = 0 then codeG k f else
      ⟨2, ((f + 1 : Nat) : Int), ((f + lenG k + 2 : Nat) : Int), 0, []⟩ :: (codeG k (f + 1) ++ (⟨3, ((f + lenL (k :: ks) + 2 * ks.length : Nat) : Int), 0, 0, []⟩ :: codeAlt ks (f + lenG k + 2)))
def codeHd : List Re → Nat → List Ins
  | [], _ => []
  | k :: _, f => codeG k f
end

mutual
/-- No node that the code has no instruction for. -/
def codable : Re → Bool
  | .mk op set kids mn mx md n neg => (decide (op ≤ 5) || op == 11) && codableL kids
def codableL : List Re → Bool
  | [] => true
  | k :: ks => codable k && codableL ks
end
theorem codableL_iff : ∀ l : List Re, codableL l = true ↔ ∀ k ∈ l, codable k = true
  | [] => by simp [codableL]
  | k :: ks => by simp [codableL, codableL_iff ks]
mutual
theorem codable_of : ∀ (r : Re) (ins : List Int), compG ins r = true → codable r = true
  | .mk op set kids mn mx md n neg, ins, h => by
    rw [compG] at h
    rw [codable, Bool.and_eq_true, Bool.or_eq_true, decide_eq_true_eq, beq_iff_eq]
    split at h
    · cases h
    · split at h
      · split at h
        · cases h
        · exact ⟨.inl (by omega), codableL_of kids _ h⟩
      · split at h
        · cases h
        · exact ⟨by omega, codableL_of kids _ h⟩
theorem codableL_of : ∀ (l : List Re) (ins : List Int), compL ins l = true → codableL l = true
  | [], _, _ => rfl
  | k :: ks, ins, h => by
    rw [compL, Bool.and_eq_true] at h
    rw [codableL, codable_of k ins h.1, codableL_of ks ins h.2]; rfl
end
structure GoodC (caps top : Int) (r : Re) : Prop where
  whole : wholeG caps top r = true
  cod : codable r = true
theorem GoodC.kids {caps top op : Int} {set : List (Int × Int)} {kids : List Re} {mn mx md n : Int} {neg : Bool} (h : GoodC caps top (.mk op set kids mn mx md n neg)) : ∀ k ∈ kids, GoodC caps top k := by
  intro k hk
  have h2 := h.cod
  rw [codable, Bool.and_eq_true, codableL_iff] at h2
  exact ⟨(whole_facts h.whole).1 k hk, h2.2 k hk⟩
theorem GoodC.op {caps top op : Int} {set : List (Int × Int)} {kids : List Re} {mn mx md n : Int} {neg : Bool} (h : GoodC caps top (.mk op set kids mn mx md n neg)) : op = 0 ∨ op = 1 ∨ op = 2 ∨ op = 3 ∨ op = 4 ∨ op = 5 ∨ op = 11 := by
  have h2 := h.cod
  rw [codable, Bool.and_eq_true, Bool.or_eq_true, decide_eq_true_eq, beq_iff_eq] at h2
  have h3 := (whole_facts h.whole).2.2.2.2
  omega

theorem flat_len {α : Type} (g : Nat → List α) (L : Nat) : ∀ m, (∀ i, i < m → (g i).length = L) → ((List.range m).flatMap g).length = m * L
  | 0, _ => by simp
  | m + 1, h => by
    rw [List.range_succ, List.flatMap_append, List.length_append, flat_len g L m (fun i hi => h i (by omega))]
    simp only [List.flatMap_cons, List.flatMap_nil, List.append_nil, h m (by omega), Nat.succ_mul]
mutual
theorem codeG_len (caps top : Int) : ∀ (r : Re) (f : Nat), GoodC caps top r → (codeG r f).length = lenG r
  | .mk op set kids mn mx md n neg, f, hw => by
    have hop := hw.op
    obtain ⟨_, hkd, hrp, _, ho1, ho2⟩ := whole_facts hw.whole
    have hwk := hw.kids
    have hcat := codeCat_len caps top kids f hwk
    have halt := codeAlt_len caps top kids f hwk
    have hhd := fun f => codeHd_len caps top kids f hwk
    rw [codeG, lenG]
    by_cases h1 : op = 1
    · rw [if_pos h1, if_pos (.inl h1)]; rfl
    rw [if_neg h1]
    by_cases h11 : op = 11
    · rw [if_pos h11, if_pos (.inr h11)]; rfl
    rw [if_neg h11, if_neg (show ¬ (op = 1 ∨ op = 11) by omega)]
    by_cases h2 : op = 2
    · rw [if_pos h2, if_neg (show ¬ op = 3 by omega), if_neg (show ¬ op = 5 by omega), if_neg (show ¬ op = 4 by omega)]; exact hcat
    rw [if_neg h2]
    by_cases h3 : op = 3
    · subst h3
      rw [if_pos rfl, if_pos rfl]
      have : 2 ≤ kids.length := by simpa [kidsG] using hkd
      exact halt (by omega)
    rw [if_neg h3, if_neg h3]
    have hone : op = 4 ∨ op = 5 → kids.length = 1 := fun e => by rcases e with rfl | rfl <;> simpa [kidsG] using hkd
    by_cases h5 : op = 5
    · rw [if_pos h5, if_pos h5]
      simp [hhd _ (hone (.inr h5))]
    rw [if_neg h5, if_neg h5]
    by_cases h4 : op = 4
    · rw [if_pos h4, if_pos h4]
      have hh := fun f => hhd f (hone (.inl h4))
      have hr := hrp h4
      simp only [repG, Bool.and_eq_true, Bool.or_eq_true, decide_eq_true_eq, beq_iff_eq] at hr
      by_cases hm : mx = -1
      · simp only [if_pos hm, List.length_append, List.length_cons, List.length_nil]
        rw [flat_len _ (lenL kids) _ (fun i _ => hh _), hh, Nat.succ_mul]
        omega
      · simp only [if_neg hm, List.length_append]
        rw [flat_len _ (lenL kids) _ (fun i _ => hh _), flat_len _ (lenL kids + 1) _ (fun i _ => by simp [hh])]
        obtain ⟨e, he⟩ : ∃ e, mx.toNat = mn.toNat + e := ⟨mx.toNat - mn.toNat, by omega⟩
        rw [he, Nat.add_sub_cancel_left, Nat.add_mul, Nat.mul_add]
        omega
    rw [if_neg h4, if_neg h4]
    have hk0 : kids = [] := by
      have : op = 0 := by omega
      subst this
      exact List.length_eq_zero_iff.1 (by simpa [kidsG] using hkd)
    rw [hk0]; rfl
theorem codeCat_len (caps top : Int) : ∀ (l : List Re) (f : Nat), (∀ k ∈ l, GoodC caps top k) → (codeCat l f).length = lenL l
  | [], f, _ => rfl
  | k :: ks, f, h => by
    rw [codeCat, lenL, List.length_append, codeG_len caps top k f (h k (List.mem_cons_self ..)), codeCat_len caps top ks _ (fun k hk => h k (List.mem_cons_of_mem _ hk))]
theorem codeAlt_len (caps top : Int) : ∀ (l : List Re) (f : Nat), (∀ k ∈ l, GoodC caps top k) → 1 ≤ l.length → (codeAlt l f).length = lenL l + 2 * (l.length - 1)
  | [], f, _, h => by simp at h
  | k :: ks, f, h, _ => by
    have hk := fun f => codeG_len caps top k f (h k (List.mem_cons_self ..))
    rw [codeAlt]
    split
    · rename_i h0
      have : ks = [] := List.length_eq_zero_iff.1 h0
      subst this
      simp [hk, lenL]
    · rename_i h0
      have := codeAlt_len caps top ks (f + lenG k + 2) (fun k hk => h k (List.mem_cons_of_mem _ hk)) (by omega)
      simp only [List.length_cons, List.length_append, hk, this, lenL]
      omega
theorem codeHd_len (caps top : Int) : ∀ (l : List Re) (f : Nat), (∀ k ∈ l, GoodC caps top k) → l.length = 1 → (codeHd l f).length = lenL l
  | [], f, _, h => by simp at h
  | k :: ks, f, h, hl => by
    have : ks = [] := List.length_eq_zero_iff.1 (by simpa using hl)
    subst this
    rw [codeHd, codeG_len caps top k f (h k (List.mem_cons_self ..))]
    simp [lenL]
end
end
section
attribute [local go_sem] ty0 ty3 ty4 ty24 ty26 ty39 ty108
open Go.Proofs Go.RowKit Go.IntWalk
set_option maxRecDepth 100000
set_option linter.unusedSimpArgs false
set_option linter.unusedVariables false
set_option maxHeartbeats 8000000

theorem keep_ins {j : List AV → List MB → Option (List AV × List MB)} (l : List Ins) : KeepL j (l.map insAV) (l.map insAV) := KeepL.plain (plain_ins l)
/-- What is handed back: our own instructions. -/
theorem own_ins {f id n : Nat} {els : List AV} {c : List Ins} {H : List MB} (hk : pol1.keep f = false) (ho : pol1.own f = true) (hr : getRow H id = some (5, els, 0)) (hn : c.length = n) (hK : ∀ j, KeepL j els (c.map insAV)) :
    retPol pol1 f [] (.ms id 5 n 0 n) H = some (.ms 0 5 n 0 n, [.row 5 (c.map insAV) 0]) := by
  have hl := (hK (fun _ _ => none)).len
  rw [List.length_map] at hl
  exact retPol_own (els := els) hk ho hr (by omega) ((hK _).fz H) hr (plain_ins c) (by simp [hn])
theorem own_end {f id n : Nat} {els xs : List AV} {c : List Ins} {H : List MB} (hk : pol1.keep f = false) (ho : pol1.own f = true) (hr : getRow H id = some (5, els, 0)) (hn : c.length = n) (hx : xs = c.map insAV) (hK : ∀ j, KeepL j els (c.map insAV)) :
    retPol pol1 f [] (.ms id 5 n 0 n) H = some (.ms 0 5 n 0 n, [.row 5 xs 0]) := hx ▸ own_ins hk ho hr hn hK
def copiesG (k : Re) (f i : Nat) : List Ins := (List.range i).flatMap fun i => codeG k (f + i * lenG k)
theorem copies_succ (k : Re) (f i : Nat) : copiesG k f (i + 1) = copiesG k f i ++ codeG k (f + i * lenG k) := by
  simp [copiesG, List.range_succ, List.flatMap_append]
theorem copies_len {caps top : Int} {k : Re} (h : GoodC caps top k) (f i : Nat) : (copiesG k f i).length = i * lenG k := flat_len _ _ _ (fun i _ => codeG_len caps top k _ h)
def optsG (md : Int) (k : Re) (p e i : Nat) : List Ins := (List.range i).flatMap fun j => insSplit md ((p + j * (lenG k + 1) + 1 : Nat) : Int) (e : Nat) :: codeG k (p + j * (lenG k + 1) + 1)

def restG (md : Int) (k : Re) (f m e i : Nat) : List Ins := copiesG k f m ++ optsG md k (f + m * lenG k) e i

end
section
attribute [local go_sem] ty0 ty3 ty4 ty23 ty24 ty26 ty39 ty108
open Go.Proofs Go.RowKit Go.IntWalk
set_option maxRecDepth 100000
set_option linter.unusedSimpArgs false
set_option linter.unusedVariables false
set_option maxHeartbeats 8000000

/-- A call over an empty heap takes what its arguments come to when they are never changed. -/
theorem call_frz' {P : Program} {pol : Pol} {f : Nat} {args l : List AV} {H H1 : List MB} (hp : pol.pure f = true) (h : frzArgs pol f 0 args H = some (l, H1)) (ha : AV.plainL l = true) :
    call P pol f args H = call P pol f l H1 := by
  have hf : ∀ (l : List AV) (i : Nat), AV.plainL l = true → frzArgs pol f i l H1 = some (l, H1) := by
    intro l
    induction l with
    | nil => intro i _; rfl
    | cons x l ih =>
      intro i h
      simp only [AV.plainL, Bool.and_eq_true] at h
      simp only [frzArgs, fz_plain H1 h.1, ih (i + 1) h.2]
      split <;> simp_all
  rw [call_eq, call_eq]
  unfold evStep
  simp only [hp, if_true, h, hf l 0 ha]

theorem codeCat_append : ∀ (a b : List Re) (f : Nat), codeCat (a ++ b) f = codeCat a f ++ codeCat b (f + lenL a)
  | [], b, f => by simp [codeCat, lenL]
  | k :: ks, b, f => by simp [codeCat, lenL, codeCat_append ks b, Nat.add_assoc]
theorem codeCat_take {l : List Re} {i : Nat} {k : Re} (h : l[i]? = some k) (f : Nat) : codeCat (l.take (i + 1)) f = codeCat (l.take i) f ++ codeG k (f + lenL (l.take i)) := by
  rw [List.take_add_one, h, codeCat_append]; simp [codeCat]
theorem lenL_take_le : ∀ (l : List Re) (i : Nat), lenL (l.take i) ≤ lenL l := fun l i => by
  have := lenL_append (l.take i) (l.drop i)
  rw [List.take_append_drop] at this
  omega

end
section
attribute [local go_sem] evAppend ty0 ty3 ty4 ty24 ty26 ty28 ty36 ty100 ty167
open Go.Proofs Go.RowKit Go.IntWalk
set_option maxRecDepth 100000
set_option linter.unusedSimpArgs false
set_option linter.unusedVariables false
set_option maxHeartbeats 8000000

/-- The walk over a tree: how deep it is, how many nodes there were. -/
theorem f103 (b0 b3 : MB) (pc tc : List AV) (hp : AV.plainL pc = true) (htc : AV.plainL tc = true) (caps top : Int) (ht : top ≤ 1114111) (hpc : pc[8]? = some (I caps)) (htc2 : tc = [I top]) : ∀ (N : Nat) (r : Re), r.wt ≤ N → r.wt ≤ 1000000 →
    ∀ (d s : Nat) (g : Bool), s ≤ 256 → d ≤ 1000000 →
    ∃ (ok g' : Bool) (s' : Nat), call Try.prog pol1 103 [.pt (reC r), I d, .rf 1 1 0 0, .rf 2 1 0 0, .pt pc, .pt tc, .rf 4 1 0 0]
        [b0, .row 1 [I s] 0, .row 1 [.bool g] 0, b3, .row 1 [.clo 103 [.rf 1 1 0 0, .rf 2 1 0 0, .pt pc, .pt tc, .rf 4 1 0 0]] 0] =
      some (.bool ok, [b0, .row 1 [I s'] 0, .row 1 [.bool g'] 0, b3, .row 1 [.clo 103 [.rf 1 1 0 0, .rf 2 1 0 0, .pt pc, .pt tc, .rf 4 1 0 0]] 0]) ∧
      ok = decide (s + r.size ≤ 256 ∧ d + r.depth ≤ 25) ∧ (ok = true → s' = s + r.size ∧ g' = (g && wholeG caps top r))
  | 0, r, h, _, _, _, _, _, _ => by have := r.wt_pos; omega
  | N + 1, .mk op set kids mn mx md n neg, h, hN, d, s, g, hs, hd => by
    have hkl := Re.wtL_len kids
    have hwt : 1 + set.length + Re.wtL kids = (Re.mk op set kids mn mx md n neg).wt := by simp [Re.wt]
    have ih := fun k (hk : k ∈ kids) => f103 b0 b3 pc tc hp htc caps top ht hpc htc2 N k (by have := Re.wtL_mem hk; omega) (by have := Re.wtL_mem hk; omega)
    have f104' := f104 caps top ht op set kids mn mx md n neg (by omega) (by omega)
    rw [show (.pt (reC (.mk op set kids mn mx md n neg)) : AV) = .pt (nodeL op set kids mn mx md n neg) from congrArg AV.pt reC_mk]
    have hsz : (Re.mk op set kids mn mx md n neg).size = 1 + Re.sizeL kids := by simp [Re.size]
    have hdz : (Re.mk op set kids mn mx md n neg).depth = 1 + Re.depthL kids := by simp [Re.depth]
    have hwh : wholeG caps top (.mk op set kids mn mx md n neg) = (formedG caps top (.mk op set kids mn mx md n neg) && wholeL caps top kids) := by rw [wholeG]
    have fr : ∀ (s : Int) (g : Bool), frzArgs pol1 103 0 [.pt (nodeL op set kids mn mx md n neg), I d, .rf 1 1 0 0, .rf 2 1 0 0, .pt pc, .pt tc, .rf 4 1 0 0]
        [b0, .row 1 [I s] 0, .row 1 [.bool g] 0, b3, .row 1 [.clo 103 [.rf 1 1 0 0, .rf 2 1 0 0, .pt pc, .pt tc, .rf 4 1 0 0]] 0] =
        some ([.pt (nodeL op set kids mn mx md n neg), I d, .rf 1 1 0 0, .rf 2 1 0 0, .pt pc, .pt tc, .rf 4 1 0 0], [b0, .row 1 [I s] 0, .row 1 [.bool g] 0, b3, .row 1 [.clo 103 [.rf 1 1 0 0, .rf 2 1 0 0, .pt pc, .pt tc, .rf 4 1 0 0]] 0]) := fun s g =>
      frzArgs_mix _ _ _ (by simp [mixOk, show pol1.byref 103 2 = true from rfl, show pol1.byref 103 3 = true from rfl, show pol1.byref 103 4 = true from rfl, show pol1.byref 103 5 = true from rfl, show pol1.byref 103 6 = true from rfl, AV.plain, AV.plainL, plain_span, plain_kids])
    have rt : ∀ (x : Bool) (s s' : Int) (g g' : Bool), retPol pol1 103 [b0, .row 1 [I s] 0, .row 1 [.bool g] 0, b3, .row 1 [.clo 103 [.rf 1 1 0 0, .rf 2 1 0 0, .pt pc, .pt tc, .rf 4 1 0 0]] 0] (.bool x) [b0, .row 1 [I s'] 0, .row 1 [.bool g'] 0, b3, .row 1 [.clo 103 [.rf 1 1 0 0, .rf 2 1 0 0, .pt pc, .pt tc, .rf 4 1 0 0]] 0] =
        some (.bool x, [b0, .row 1 [I s'] 0, .row 1 [.bool g'] 0, b3, .row 1 [.clo 103 [.rf 1 1 0 0, .rf 2 1 0 0, .pt pc, .pt tc, .rf 4 1 0 0]] 0]) := fun x s s' g g' =>
      retPol_keep rfl rfl rfl (by simp [keptOk, MB.beq_refl, MB.under, AV.underL, AV.under]) rfl
    have hs1 : ((s : Int) + 1) = ((s + 1 : Nat) : Int) := rfl
    subst htc2
    by_cases hc : 256 < s + 1 ∨ 24 < d
    · refine ⟨false, g, s + 1, ?_, ?_, fun h => by cases h⟩
      · refine call_run2 (pol := pol1) Try.func103 rfl rfl rfl rfl (fr s g) ?_
        have hc' : 256 < s + 1 ∨ (¬ 256 < s + 1 ∧ 24 < d) := by omega
        rcases hc' with h1 | ⟨h1, h2⟩
        all_goals (
          simp +contextual (disch := omega) only [Try.f103, dd103, go_sem, ↓reduceIte, List.reduceReplicate, Nat.reduceAdd, Nat.reduceSub, reduceCtorEq, Nat.reduceLeDiff, Nat.reduceMul, Nat.reduceLT, Nat.reduceEqDiff, Int.reduceBNe, Int.reduceBEq, Int.reduceEq, Int.reduceLT, Int.reduceLE, Int.reduceGT, Int.reduceGE, mu103, Nat.reduceBEq, ↓wrap_up, ↓wrap_down, ↓wrap_pred, ↓wrap_sub_nat, Int.reduceToNat, hs1, rt]
          repeat' (first | intro _ | apply And.intro | (unfold dOk; kernel_rfl) | exact St.beq_refl _ | (show altO _ _ _ _ = true; kernel_rfl) | (show (_ || _) = true; kernel_rfl) | (show (_ && _) = true; kernel_rfl)))
      · rw [hsz, hdz]
        symm; rw [decide_eq_false_iff_not]
        omega
    · have key : ∃ r : AV × List MB, (∃ (ok g' : Bool) (s' : Nat), r = (.bool ok, [b0, .row 1 [I s'] 0, .row 1 [.bool g'] 0, b3, .row 1 [.clo 103 [.rf 1 1 0 0, .rf 2 1 0 0, .pt pc, .pt [I top], .rf 4 1 0 0]] 0]) ∧
          ok = decide (s + (Re.mk op set kids mn mx md n neg).size ≤ 256 ∧ d + (Re.mk op set kids mn mx md n neg).depth ≤ 25) ∧ (ok = true → s' = s + (Re.mk op set kids mn mx md n neg).size ∧ g' = (g && wholeG caps top (.mk op set kids mn mx md n neg)))) ∧
          call Try.prog pol1 103 [.pt (nodeL op set kids mn mx md n neg), I d, .rf 1 1 0 0, .rf 2 1 0 0, .pt pc, .pt [I top], .rf 4 1 0 0]
            [b0, .row 1 [I s] 0, .row 1 [.bool g] 0, b3, .row 1 [.clo 103 [.rf 1 1 0 0, .rf 2 1 0 0, .pt pc, .pt [I top], .rf 4 1 0 0]] 0] = some r := by
        rw [hsz, hdz, hwh]
        refine call_run2E (pol := pol1) Try.func103 rfl rfl rfl rfl (fr s g) ?_
        generalize formedG caps top (.mk op set kids mn mx md n neg) = fg at *
        clear hwh hsz hdz
        have hd0 : d ≤ 24 := by omega
        have hs0 : s + 1 ≤ 256 := by omega
        cases g
        · simp +contextual (disch := omega) only [Try.f103, dd103, go_sem, ↓reduceIte, List.reduceReplicate, Nat.reduceAdd, Nat.reduceSub, reduceCtorEq, Nat.reduceLeDiff, Nat.reduceMul, Nat.reduceLT, Nat.reduceEqDiff, Int.reduceBNe, Int.reduceBEq, Int.reduceEq, Int.reduceLT, Int.reduceLE, Int.reduceGT, Int.reduceGE, mu103, Nat.reduceBEq, ↓wrap_up, ↓wrap_down, ↓wrap_pred, ↓wrap_sub_nat, Int.reduceToNat, hs1]
          refine W_count (M := (mskOf (pol1.mask 103) (pol1.gc 103) (pol1.acts 103) 0 6)) rfl kids.length (fun i => (⟨47, [(32, I i), (31, I kids.length), (6, .rf 4 1 0 0), (1, I d), (0, .pt (nodeL op set kids mn mx md n neg))], [b0, .row 1 [I ((s + 1 + Re.sizeL (kids.take i) : Nat) : Int)] 0, .row 1 [.bool (false && wholeL caps top (kids.take i))] 0, b3, .row 1 [.clo 103 [.rf 1 1 0 0, .rf 2 1 0 0, .pt pc, .pt [I top], .rf 4 1 0 0]] 0]⟩ : St))
            (fun i => s + 1 + Re.sizeL (kids.take i) ≤ 256 ∧ d + 1 + Re.depthL (kids.take i) ≤ 25) ?_ ?_ ⟨by simp [Re.sizeL]; omega, by simp [Re.depthL]; omega⟩ _ ?_
          · rintro i hi ⟨hb1, hb2⟩
            obtain ⟨k, hk⟩ : ∃ k, kids[i]? = some k := ⟨_, List.getElem?_eq_getElem hi⟩
            obtain ⟨ok, g2, s2, hcall, hok, himp⟩ := ih k (List.mem_of_getElem? hk) (d + 1) (s + 1 + Re.sizeL (kids.take i)) (false && wholeL caps top (kids.take i)) (by omega) (by omega)
            have e1 := Re.sizeL_take hk
            have e2 := Re.depthL_take hk
            have e3 := wholeL_take (caps := caps) (top := top) hk
            have e4 := Re.sizeL_le (l := kids) (i := i + 1)
            have e5 := Re.depthL_le (l := kids) (i := i + 1)
            have hl8 := reC_len k
            have ht8 := reC_take k
            have hd1 : ((d : Int) + 1) = ((d + 1 : Nat) : Int) := rfl
            cases ok with
            | false =>
              have hcf := of_decide_eq_false hok.symm
              simp +contextual (disch := omega) only [Try.f103, dd103, go_sem, ↓reduceIte, List.reduceReplicate, Nat.reduceAdd, Nat.reduceSub, reduceCtorEq, Nat.reduceLeDiff, Nat.reduceMul, Nat.reduceLT, Nat.reduceEqDiff, Int.reduceBNe, Int.reduceBEq, Int.reduceEq, Int.reduceLT, Int.reduceLE, Int.reduceGT, Int.reduceGE, mu103, Nat.reduceBEq, ↓wrap_up, ↓wrap_down, ↓wrap_pred, ↓wrap_sub_nat, Int.reduceToNat, hk, hl8, ht8, hd1, hcall]
              repeat' (first | intro _ | apply And.intro | (unfold dOk; kernel_rfl) | exact St.beq_refl _ | (show altO _ _ _ _ = true; kernel_rfl) | (show (_ || _) = true; kernel_rfl) | (show (_ && _) = true; kernel_rfl))
              refine ⟨_, ⟨false, g2, s2, rfl, ?_, fun h => by cases h⟩, rt false _ _ _ _⟩
              symm; rw [decide_eq_false_iff_not]; omega
            | true =>
              have hct := of_decide_eq_true hok.symm
              obtain ⟨rfl, rfl⟩ := himp rfl
              rw [e1, e2, e3, ← Bool.and_assoc]
              simp +contextual (disch := omega) only [Try.f103, dd103, go_sem, ↓reduceIte, List.reduceReplicate, Nat.reduceAdd, Nat.reduceSub, reduceCtorEq, Nat.reduceLeDiff, Nat.reduceMul, Nat.reduceLT, Nat.reduceEqDiff, Int.reduceBNe, Int.reduceBEq, Int.reduceEq, Int.reduceLT, Int.reduceLE, Int.reduceGT, Int.reduceGE, mu103, Nat.reduceBEq, ↓wrap_up, ↓wrap_down, ↓wrap_pred, ↓wrap_sub_nat, Int.reduceToNat, hk, hl8, ht8, hd1, hcall]
              repeat' (first | intro _ | apply And.intro | (unfold dOk; kernel_rfl) | exact St.beq_refl _ | (show altO _ _ _ _ = true; kernel_rfl) | (show (_ || _) = true; kernel_rfl) | (show (_ && _) = true; kernel_rfl))
              rw [Nat.add_assoc (s + 1)]
              rfl
          · rintro ⟨hb1, hb2⟩
            rw [List.take_length] at hb1 hb2 ⊢
            simp +contextual (disch := omega) only [Try.f103, dd103, go_sem, ↓reduceIte, List.reduceReplicate, Nat.reduceAdd, Nat.reduceSub, reduceCtorEq, Nat.reduceLeDiff, Nat.reduceMul, Nat.reduceLT, Nat.reduceEqDiff, Int.reduceBNe, Int.reduceBEq, Int.reduceEq, Int.reduceLT, Int.reduceLE, Int.reduceGT, Int.reduceGE, mu103, Nat.reduceBEq, ↓wrap_up, ↓wrap_down, ↓wrap_pred, ↓wrap_sub_nat, Int.reduceToNat]
            refine ⟨_, ⟨true, (false && wholeL caps top kids), s + 1 + Re.sizeL kids, rfl, ?_, fun _ => ⟨by omega, by simp⟩⟩, rt true _ _ _ _⟩
            rfl
          · rfl
        · simp +contextual (disch := omega) only [Try.f103, dd103, go_sem, ↓reduceIte, List.reduceReplicate, Nat.reduceAdd, Nat.reduceSub, reduceCtorEq, Nat.reduceLeDiff, Nat.reduceMul, Nat.reduceLT, Nat.reduceEqDiff, Int.reduceBNe, Int.reduceBEq, Int.reduceEq, Int.reduceLT, Int.reduceLE, Int.reduceGT, Int.reduceGE, mu103, Nat.reduceBEq, ↓wrap_up, ↓wrap_down, ↓wrap_pred, ↓wrap_sub_nat, Int.reduceToNat, hs1, f104', hpc]
          refine W_count (M := (mskOf (pol1.mask 103) (pol1.gc 103) (pol1.acts 103) 0 6)) rfl kids.length (fun i => (⟨47, [(32, I i), (31, I kids.length), (6, .rf 4 1 0 0), (1, I d), (0, .pt (nodeL op set kids mn mx md n neg))], [b0, .row 1 [I ((s + 1 + Re.sizeL (kids.take i) : Nat) : Int)] 0, .row 1 [.bool (fg && wholeL caps top (kids.take i))] 0, b3, .row 1 [.clo 103 [.rf 1 1 0 0, .rf 2 1 0 0, .pt pc, .pt [I top], .rf 4 1 0 0]] 0]⟩ : St))
            (fun i => s + 1 + Re.sizeL (kids.take i) ≤ 256 ∧ d + 1 + Re.depthL (kids.take i) ≤ 25) ?_ ?_ ⟨by simp [Re.sizeL]; omega, by simp [Re.depthL]; omega⟩ _ ?_
          · rintro i hi ⟨hb1, hb2⟩
            obtain ⟨k, hk⟩ : ∃ k, kids[i]? = some k := ⟨_, List.getElem?_eq_getElem hi⟩
            obtain ⟨ok, g2, s2, hcall, hok, himp⟩ := ih k (List.mem_of_getElem? hk) (d + 1) (s + 1 + Re.sizeL (kids.take i)) (fg && wholeL caps top (kids.take i)) (by omega) (by omega)
            have e1 := Re.sizeL_take hk
            have e2 := Re.depthL_take hk
            have e3 := wholeL_take (caps := caps) (top := top) hk
            have e4 := Re.sizeL_le (l := kids) (i := i + 1)
            have e5 := Re.depthL_le (l := kids) (i := i + 1)
            have hl8 := reC_len k
            have ht8 := reC_take k
            have hd1 : ((d : Int) + 1) = ((d + 1 : Nat) : Int) := rfl
            cases ok with
            | false =>
              have hcf := of_decide_eq_false hok.symm
              simp +contextual (disch := omega) only [Try.f103, dd103, go_sem, ↓reduceIte, List.reduceReplicate, Nat.reduceAdd, Nat.reduceSub, reduceCtorEq, Nat.reduceLeDiff, Nat.reduceMul, Nat.reduceLT, Nat.reduceEqDiff, Int.reduceBNe, Int.reduceBEq, Int.reduceEq, Int.reduceLT, Int.reduceLE, Int.reduceGT, Int.reduceGE, mu103, Nat.reduceBEq, ↓wrap_up, ↓wrap_down, ↓wrap_pred, ↓wrap_sub_nat, Int.reduceToNat, hk, hl8, ht8, hd1, hcall]
              repeat' (first | intro _ | apply And.intro | (unfold dOk; kernel_rfl) | exact St.beq_refl _ | (show altO _ _ _ _ = true; kernel_rfl) | (show (_ || _) = true; kernel_rfl) | (show (_ && _) = true; kernel_rfl))
              refine ⟨_, ⟨false, g2, s2, rfl, ?_, fun h => by cases h⟩, rt false _ _ _ _⟩
              symm; rw [decide_eq_false_iff_not]; omega
            | true =>
              have hct := of_decide_eq_true hok.symm
              obtain ⟨rfl, rfl⟩ := himp rfl
              rw [e1, e2, e3, ← Bool.and_assoc]
              simp +contextual (disch := omega) only [Try.f103, dd103, go_sem, ↓reduceIte, List.reduceReplicate, Nat.reduceAdd, Nat.reduceSub, reduceCtorEq, Nat.reduceLeDiff, Nat.reduceMul, Nat.reduceLT, Nat.reduceEqDiff, Int.reduceBNe, Int.reduceBEq, Int.reduceEq, Int.reduceLT, Int.reduceLE, Int.reduceGT, Int.reduceGE, mu103, Nat.reduceBEq, ↓wrap_up, ↓wrap_down, ↓wrap_pred, ↓wrap_sub_nat, Int.reduceToNat, hk, hl8, ht8, hd1, hcall]
              repeat' (first | intro _ | apply And.intro | (unfold dOk; kernel_rfl) | exact St.beq_refl _ | (show altO _ _ _ _ = true; kernel_rfl) | (show (_ || _) = true; kernel_rfl) | (show (_ && _) = true; kernel_rfl))
              rw [Nat.add_assoc (s + 1)]
              rfl
          · rintro ⟨hb1, hb2⟩
            rw [List.take_length] at hb1 hb2 ⊢
            simp +contextual (disch := omega) only [Try.f103, dd103, go_sem, ↓reduceIte, List.reduceReplicate, Nat.reduceAdd, Nat.reduceSub, reduceCtorEq, Nat.reduceLeDiff, Nat.reduceMul, Nat.reduceLT, Nat.reduceEqDiff, Int.reduceBNe, Int.reduceBEq, Int.reduceEq, Int.reduceLT, Int.reduceLE, Int.reduceGT, Int.reduceGE, mu103, Nat.reduceBEq, ↓wrap_up, ↓wrap_down, ↓wrap_pred, ↓wrap_sub_nat, Int.reduceToNat]
            refine ⟨_, ⟨true, (fg && wholeL caps top kids), s + 1 + Re.sizeL kids, rfl, ?_, fun _ => ⟨by omega, by simp⟩⟩, rt true _ _ _ _⟩
            rfl
          · rw [show (fg && wholeL caps top (List.take 0 kids)) = fg by simp [wholeL]]
            rfl
      obtain ⟨r, ⟨ok, g', s', rfl, h1, h2⟩, h3⟩ := key
      exact ⟨ok, g', s', h3, h1, h2⟩

/-- A pattern. -/
structure Pat where
  re : Re
  caps : Int
  runes : Bool
abbrev patC (p : Pat) : List AV := reC p.re ++ [I p.caps, .bool p.runes]
abbrev patAV (p : Pat) : AV := .agg (patC p)
theorem plain_patC (p : Pat) : AV.plainL (patC p) = true := by
  rw [plainL_iff]
  intro x hx
  rcases List.mem_append.1 hx with h | h
  · exact (plainL_iff _).1 (plain_reC p.re) x h
  · simp at h; rcases h with rfl | rfl <;> rfl
def topI (r : Bool) : Int := if r then 1114111 else 255
theorem topI_le (r : Bool) : topI r ≤ 1114111 := by cases r <;> simp [topI]
/-- The error of a pattern. -/
def validP (p : Pat) : Int := if 256 < p.re.size ∨ 24 < p.re.depth then 4 else if p.caps < 0 ∨ 9 < p.caps ∨ wholeG p.caps (topI p.runes) p.re = false then 1 else 0

theorem f48 (p : Pat) (hw : p.re.wt ≤ 1000000) (H : List MB) : call Try.prog pol1 48 [patAV p] H = some (I (validP p), H) := by
  obtain ⟨re, caps, runes⟩ := p
  simp only at hw
  refine call_run Try.func48 rfl rfl rfl rfl rfl rfl (fun _ => rfl) (by simp [AV.plainL, AV.plain]; exact plain_patC _) rfl ?_ H
  have hl8 := reC_len re
  have hpl := plain_patC ⟨re, caps, runes⟩
  have hget8 : (reC re ++ [I caps, .bool runes])[8]? = some (I caps) := by rw [List.getElem?_append_right (by omega), hl8]; rfl
  have hget9 : (reC re ++ [I caps, .bool runes])[9]? = some (.bool runes) := by rw [List.getElem?_append_right (by omega), hl8]; rfl
  have hz : fz (.rf 0 1 0 0) [.row 10 [.agg (reC re ++ [I caps, .bool runes])] 0] = some (.pt (reC re ++ [I caps, .bool runes]), [.row 10 [.agg (reC re ++ [I caps, .bool runes])] 1]) :=
    fz_rf (x := .agg (reC re ++ [I caps, .bool runes])) (k := 10) (z := 0) rfl rfl rfl hpl
  have hlen : (reC re).length + (0 + 1 + 1) = 10 := by omega
  have h102 := f102 runes
  have hall := reC_ok re
  have hz2 : ∀ (b0 b1 b2 : MB) (t : Int), fz (.rf 3 1 0 0) [b0, b1, b2, .row 1 [I t] 0] = some (.pt [I t], [b0, b1, b2, .row 1 [I t] 1]) := fun b0 b1 b2 t => fz_rf (x := I t) (k := 1) (z := 0) rfl rfl rfl rfl
  have htk8 : ∀ l, List.take 8 (reC re ++ l) = reC re := fun l => by
    rw [List.take_append_of_le_length (by omega)]; exact List.take_of_length_le (by omega)
  rw [show (if runes = true then (1114111 : Int) else 255) = topI runes from rfl] at h102
  have ht := topI_le runes
  have h103 := fun (b0 b3 : MB) (g : Bool) => f103 b0 b3 (reC re ++ [I caps, .bool runes]) [I (topI runes)] hpl rfl caps (topI runes) ht hget8 rfl re.wt re (Nat.le_refl _) hw 1 0 g (by omega) (by omega)
  unfold validP
  simp only
  have hcp : (0 ≤ caps ∧ caps ≤ 9) ∨ (0 ≤ caps ∧ ¬ caps ≤ 9) ∨ ¬ 0 ≤ caps := by omega
  generalize topI runes = top at *
  rcases hcp with ⟨hc1, hc2⟩ | ⟨hc1, hc2⟩ | hc1
  · obtain ⟨ok, g', s', hcall, hok, himp⟩ := h103 (.row 10 [.agg (reC re ++ [I caps, .bool runes])] 1) (.row 1 [I top] 1) true
    rw [show ((1 : Nat) : Int) = 1 from rfl, show ((0 : Nat) : Int) = 0 from rfl] at hcall
    cases ok with
    | false =>
      have hcf := of_decide_eq_false hok.symm
      rw [if_pos (by omega)]
      simp +contextual (disch := omega) only [Try.f48, dd48, go_sem, ↓reduceIte, List.reduceReplicate, Nat.reduceAdd, Nat.reduceSub, reduceCtorEq, Nat.reduceLeDiff, Nat.reduceMul, Nat.reduceLT, Nat.reduceEqDiff, Int.reduceBNe, Int.reduceBEq, Int.reduceEq, Int.reduceLT, Int.reduceLE, Int.reduceGT, Int.reduceGE, mu48, Nat.reduceBEq, ↓wrap_up, ↓wrap_down, ↓wrap_pred, ↓wrap_sub_nat, Int.reduceToNat, hl8, hget8, hget9, hz, hz2, h102, hall, htk8, hcall, List.all_append, lookD, look]
      exact fzEq rfl rfl
    | true =>
      have hct := of_decide_eq_true hok.symm
      obtain ⟨_, hg'⟩ := himp rfl
      rw [if_neg (by omega)]
      cases hwg : wholeG caps top re with
      | true =>
        rw [if_neg (by simp; omega)]
        rw [hwg] at hg'
        simp only [Bool.and_true] at hg'
        subst hg'
        simp +contextual (disch := omega) only [Try.f48, dd48, go_sem, ↓reduceIte, List.reduceReplicate, Nat.reduceAdd, Nat.reduceSub, reduceCtorEq, Nat.reduceLeDiff, Nat.reduceMul, Nat.reduceLT, Nat.reduceEqDiff, Int.reduceBNe, Int.reduceBEq, Int.reduceEq, Int.reduceLT, Int.reduceLE, Int.reduceGT, Int.reduceGE, mu48, Nat.reduceBEq, ↓wrap_up, ↓wrap_down, ↓wrap_pred, ↓wrap_sub_nat, Int.reduceToNat, hl8, hget8, hget9, hz, hz2, h102, hall, htk8, hcall, List.all_append, lookD, look]
        exact fzEq rfl rfl
      | false =>
        rw [if_pos (by simp)]
        rw [hwg] at hg'
        simp only [Bool.and_false] at hg'
        subst hg'
        simp +contextual (disch := omega) only [Try.f48, dd48, go_sem, ↓reduceIte, List.reduceReplicate, Nat.reduceAdd, Nat.reduceSub, reduceCtorEq, Nat.reduceLeDiff, Nat.reduceMul, Nat.reduceLT, Nat.reduceEqDiff, Int.reduceBNe, Int.reduceBEq, Int.reduceEq, Int.reduceLT, Int.reduceLE, Int.reduceGT, Int.reduceGE, mu48, Nat.reduceBEq, ↓wrap_up, ↓wrap_down, ↓wrap_pred, ↓wrap_sub_nat, Int.reduceToNat, hl8, hget8, hget9, hz, hz2, h102, hall, htk8, hcall, List.all_append, lookD, look]
        exact fzEq rfl rfl
  · obtain ⟨ok, g', s', hcall, hok, himp⟩ := h103 (.row 10 [.agg (reC re ++ [I caps, .bool runes])] 1) (.row 1 [I top] 1) false
    rw [show ((1 : Nat) : Int) = 1 from rfl, show ((0 : Nat) : Int) = 0 from rfl] at hcall
    cases ok with
    | false =>
      have hcf := of_decide_eq_false hok.symm
      rw [if_pos (by omega)]
      simp +contextual (disch := omega) only [Try.f48, dd48, go_sem, ↓reduceIte, List.reduceReplicate, Nat.reduceAdd, Nat.reduceSub, reduceCtorEq, Nat.reduceLeDiff, Nat.reduceMul, Nat.reduceLT, Nat.reduceEqDiff, Int.reduceBNe, Int.reduceBEq, Int.reduceEq, Int.reduceLT, Int.reduceLE, Int.reduceGT, Int.reduceGE, mu48, Nat.reduceBEq, ↓wrap_up, ↓wrap_down, ↓wrap_pred, ↓wrap_sub_nat, Int.reduceToNat, hl8, hget8, hget9, hz, hz2, h102, hall, htk8, hcall, List.all_append, lookD, look]
      exact fzEq rfl rfl
    | true =>
      have hct := of_decide_eq_true hok.symm
      obtain ⟨_, hg'⟩ := himp rfl
      rw [if_neg (by omega)]
      rw [if_pos (by omega)]
      simp only [Bool.false_and] at hg'
      subst hg'
      simp +contextual (disch := omega) only [Try.f48, dd48, go_sem, ↓reduceIte, List.reduceReplicate, Nat.reduceAdd, Nat.reduceSub, reduceCtorEq, Nat.reduceLeDiff, Nat.reduceMul, Nat.reduceLT, Nat.reduceEqDiff, Int.reduceBNe, Int.reduceBEq, Int.reduceEq, Int.reduceLT, Int.reduceLE, Int.reduceGT, Int.reduceGE, mu48, Nat.reduceBEq, ↓wrap_up, ↓wrap_down, ↓wrap_pred, ↓wrap_sub_nat, Int.reduceToNat, hl8, hget8, hget9, hz, hz2, h102, hall, htk8, hcall, List.all_append, lookD, look]
      exact fzEq rfl rfl
  · obtain ⟨ok, g', s', hcall, hok, himp⟩ := h103 (.row 10 [.agg (reC re ++ [I caps, .bool runes])] 1) (.row 1 [I top] 1) false
    rw [show ((1 : Nat) : Int) = 1 from rfl, show ((0 : Nat) : Int) = 0 from rfl] at hcall
    cases ok with
    | false =>
      have hcf := of_decide_eq_false hok.symm
      rw [if_pos (by omega)]
      simp +contextual (disch := omega) only [Try.f48, dd48, go_sem, ↓reduceIte, List.reduceReplicate, Nat.reduceAdd, Nat.reduceSub, reduceCtorEq, Nat.reduceLeDiff, Nat.reduceMul, Nat.reduceLT, Nat.reduceEqDiff, Int.reduceBNe, Int.reduceBEq, Int.reduceEq, Int.reduceLT, Int.reduceLE, Int.reduceGT, Int.reduceGE, mu48, Nat.reduceBEq, ↓wrap_up, ↓wrap_down, ↓wrap_pred, ↓wrap_sub_nat, Int.reduceToNat, hl8, hget8, hget9, hz, hz2, h102, hall, htk8, hcall, List.all_append, lookD, look]
      exact fzEq rfl rfl
    | true =>
      have hct := of_decide_eq_true hok.symm
      obtain ⟨_, hg'⟩ := himp rfl
      rw [if_neg (by omega)]
      rw [if_pos (by omega)]
      simp only [Bool.false_and] at hg'
      subst hg'
      simp +contextual (disch := omega) only [Try.f48, dd48, go_sem, ↓reduceIte, List.reduceReplicate, Nat.reduceAdd, Nat.reduceSub, reduceCtorEq, Nat.reduceLeDiff, Nat.reduceMul, Nat.reduceLT, Nat.reduceEqDiff, Int.reduceBNe, Int.reduceBEq, Int.reduceEq, Int.reduceLT, Int.reduceLE, Int.reduceGT, Int.reduceGE, mu48, Nat.reduceBEq, ↓wrap_up, ↓wrap_down, ↓wrap_pred, ↓wrap_sub_nat, Int.reduceToNat, hl8, hget8, hget9, hz, hz2, h102, hall, htk8, hcall, List.all_append, lookD, look]
      exact fzEq rfl rfl
end
section
attribute [local go_sem] evAppend ty0 ty3 ty4 ty23 ty24 ty26 ty86 ty212
open Go.Proofs Go.RowKit Go.IntWalk
set_option maxRecDepth 100000
set_option linter.unusedSimpArgs false
set_option linter.unusedVariables false
set_option maxHeartbeats 8000000


end
section
attribute [local go_sem] evAppend ty0 ty3 ty4 ty24 ty26 ty28 ty36
open Go.Proofs Go.RowKit Go.IntWalk
set_option maxRecDepth 100000
set_option linter.unusedSimpArgs false
set_option linter.unusedVariables false
set_option maxHeartbeats 8000000


end
section
attribute [local go_sem] ty0 ty3 ty4 ty26 ty28 ty36 ty39 ty41 ty108
open Go.Proofs Go.RowKit Go.IntWalk
set_option maxRecDepth 100000
set_option linter.unusedSimpArgs false
set_option linter.unusedVariables false
set_option maxHeartbeats 8000000

/-- What Compile comes to, in both packages. -/
def compP (p : Pat) : Prg × Int :=
  if validP p = 0 then
    if compG [] p.re = true then
      if lenG p.re + 1 ≤ 8192 then (⟨codeG p.re 0 ++ [⟨0, 0, 0, 0, []⟩], p.caps, p.runes⟩, 0) else (⟨[], 0, false⟩, 4)
    else (⟨[], 0, false⟩, 10)
  else (⟨[], 0, false⟩, validP p)
theorem valid_facts {p : Pat} (h : validP p = 0) : p.re.size ≤ 256 ∧ p.re.depth ≤ 24 ∧ 0 ≤ p.caps ∧ p.caps ≤ 9 ∧ wholeG p.caps (topI p.runes) p.re = true := by
  unfold validP at h
  split at h
  · cases h
  · split at h
    · cases h
    · rename_i h1 h2
      cases hw : wholeG p.caps (topI p.runes) p.re with
      | true => exact ⟨by omega, by omega, by omega, by omega, rfl⟩
      | false => exact absurd (.inr (.inr hw)) h2

theorem fin_prg {H : List MB} {id n : Nat} {els : List AV} {c : List Ins} (caps : Int) (runes : Bool) (hl : els.length = n) (hk : ∀ j H, fzL j els H = some (c.map insAV, H)) (hr : getRow H id = some (5, els, 0)) :
    ∃ H', fz (.tup [.agg [.ms id 5 n 0 n, I caps, .bool runes], I 0]) H = some (.tup [prgAV ⟨c, caps, runes⟩, I 0], H') := by
  have h2 : fzA (fzJ 6) (.ms id 5 n 0 n) H = some (.sl false (c.map insAV), mark H id n) := by
    have := fzA_ms (n := 5) (off := 0) (len := n) (ys := c.map insAV) (H' := mark H id (0 + n)) hr hl (by omega) (by rw [List.drop_zero, List.take_of_length_le (by omega)]; exact hk _ _)
    rwa [Nat.zero_add] at this
  refine ⟨mark H id n, ?_⟩
  simp only [fz, fzA_tup, fzA_agg, fzL, h2, fzA_int]
  rfl

end
end Go.Ev
