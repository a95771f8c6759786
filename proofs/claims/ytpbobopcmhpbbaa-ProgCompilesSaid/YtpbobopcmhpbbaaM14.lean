/- Functions of the program, each with what it computes; no further conditions. -/
import Derived.Test.YtpbobopcmhpbbaaM05
import Derived.Test.YtpbobopcmhpbbaaM10
import Derived.Test.YtpbobopcmhpbbaaM11
import Derived.Test.YtpbobopcmhpbbaaM13
set_option linter.unusedVariables false
set_option linter.unusedSimpArgs false
namespace Go.Ev
attribute [local go_sem] eq_self bindW_some bindW_map bindW_ite bindW_iteN W_seq W_region W_draw W_cond W_condK W_ret W_skip W_exit W_scope W_label W_block blockK_norm blockK_ret blockK_exit WO_nil WO_cons WO_guard WD_nil WD_cons WD_guard guardV guardW_boolT guardW_boolF guardW_tup fpL_some fpL_none footprint thenK_norm thenK_ret thenK_exit put_some put_none ev_tmp ev_con ev_func ofK_int ofK_bool ofK_str ofK_nil evOp evBuiltin evCall evLen getElem_16 getElem_4 List.length_cons List.length_nil List.cons_append List.nil_append List.append_nil if_false if_true Bool.false_eq_true Bool.true_eq_false Option.map_some Option.map_none List.map_cons List.map_nil evBinOp evBin evUn asB_bool splitB_decide splitB_true splitB_false splitB_beq splitB_bne splitB_not endK_ret endK_norm List.getElem?_cons_zero List.getElem?_cons_succ evResults evResult packRes retK_norm retK_ret cellsAt mkVal evFieldAddr evField evIndexAddr evPart evStore evBuild evBuildSlice fillC fillE evSlice evMakeSlice evConvert getRow AV.cells List.head?_cons List.drop_zero List.drop_succ_cons List.take_zero List.take_succ_cons List.drop_nil List.take_nil List.all_cons List.all_nil AV.ok Bool.and_self Bool.and_true Bool.true_and and_self and_true true_and Nat.zero_add Nat.add_zero setCells splice pairsOk pairsX altW_none altW_some cfg_al WI_nil WI_cons FP.apart heapEq_refl sameAt_refl Bool.or_true Bool.true_or Bool.or_false srcElems elemsOf mutDst roundK_norm roundK_exit roundK_ret List.length_map List.getElem?_map Int.toNat_natCast decide_true decide_false Bool.not_true Bool.not_false List.set set_0 set_1 set_2 set_3 set_4 look_hit look lookD_hit lookD_cons lookD_nil ins_hit ins upd_hit upd rem1_hit rem1 dropT dropSt_eq initT cfg_dd cfg_bd cfg_ra actL_nil actL_cons act1 updT_hit updT frzB retE_norm retE_ret bndO bnd evEq eqCells not_false_eq_true not_true_eq_false toList_some Array.size_empty List.length_append List.map_append tySzE List.head?_drop Nat.mul_one sameAt_zero sameAt_two sameAt_three sameAt_four sameAt_five endE_norm endE_ret head_take1
section
attribute [local go_sem] evAppend
open Go.Proofs Go.RowKit Go.IntWalk
set_option maxRecDepth 100000
set_option linter.unusedSimpArgs false
set_option linter.unusedVariables false
set_option maxHeartbeats 8000000

theorem compL_iff (ins : List Int) : ∀ l : List Re, compL ins l = true ↔ ∀ k ∈ l, compG ins k = true
  | [] => by simp [compL]
  | k :: ks => by simp [compL, compL_iff ins ks]
theorem compL_false {ins : List Int} {l : List Re} {k : Re} (h : k ∈ l) (hk : compG ins k = false) : compL ins l = false := by
  rw [Bool.eq_false_iff]
  intro hw
  rw [compL_iff] at hw
  rw [hw k h] at hk; cases hk
theorem compL_true {ins : List Int} {l : List Re} (h : ∀ (i : Nat) (k : Re), i < l.length → l[i]? = some k → compG ins k = true) : compL ins l = true := by
  rw [compL_iff]
  intro k hk
  obtain ⟨i, hi, e⟩ := List.getElem_of_mem hk
  exact h i k hi (by rw [← e]; exact List.getElem?_eq_getElem hi)

theorem f115 (l : List Int) (x : Int) (hl : l.length ≤ 10000000) (H : List MB) : call Try.prog pol1 115 [.sl false (l.map I), I x] H = some (.bool (decide (x ∈ l)), H) := by
  refine call_run Try.func115 rfl rfl rfl rfl rfl rfl (fun _ => rfl) (by simp [AV.plain, AV.plainL, plain_ints]) rfl ?_ H
  simp +contextual (disch := omega) only [Try.f115, dd115, ty0, ty3, ty4, ty22, go_sem, ↓reduceIte, List.reduceReplicate, Nat.reduceAdd, Nat.reduceSub, reduceCtorEq, Nat.reduceLeDiff, Nat.reduceMul, Nat.reduceLT, Nat.reduceEqDiff, Int.reduceBNe, Int.reduceBEq, Int.reduceEq, Int.reduceLT, Int.reduceLE, Int.reduceGT, Int.reduceGE, mu115, List.contains_nil, List.contains_cons, Nat.reduceBEq, Bool.or_self, dlt_t, dlt_f, dle_t, dle_f, dgt_t, dgt_f, dge_t, dge_f, beq_t, beq_f, bne_t, bne_f, lt_T, le_T, nle_T, nle_F, ↓wrap_up, ↓wrap_down, ↓wrap_pred, ↓wrap_sub_nat, i64_in, i64_quo, rem_in, Int.reduceToNat, room_ok]
  refine W_count (M := (mskOf (pol1.mask 115) (pol1.gc 115) (pol1.acts 115) 0 2)) rfl l.length (fun i => (⟨18, [(5, I i), (1, I x), (0, .sl false (l.map I))], []⟩ : St)) (fun i => ∀ k p, k < i → l[k]? = some p → p ≠ x) ?_ ?_ (fun k p h => by omega) _ (by first | rfl | (simp [keepT, AV.underL, AV.under, MB.under, underL_plain, under_plain, underL_append, plain_ints, plain_span, plain_ins, plain_prg, -List.map_take, -List.map_replicate, -List.map_set]; done))
  · intro i hi hg
    obtain ⟨p, hp⟩ : ∃ p, l[i]? = some p := ⟨_, List.getElem?_eq_getElem hi⟩
    by_cases hpx : p = x
    · subst hpx
      rw [decide_eq_true (List.mem_of_getElem? hp)]
      simp +contextual (disch := omega) only [Try.f115, dd115, ty0, ty3, ty4, ty22, go_sem, ↓reduceIte, List.reduceReplicate, Nat.reduceAdd, Nat.reduceSub, reduceCtorEq, Nat.reduceLeDiff, Nat.reduceMul, Nat.reduceLT, Nat.reduceEqDiff, Int.reduceBNe, Int.reduceBEq, Int.reduceEq, Int.reduceLT, Int.reduceLE, Int.reduceGT, Int.reduceGE, mu115, List.contains_nil, List.contains_cons, Nat.reduceBEq, Bool.or_self, dlt_t, dlt_f, dle_t, dle_f, dgt_t, dgt_f, dge_t, dge_f, beq_t, beq_f, bne_t, bne_f, lt_T, le_T, nle_T, nle_F, ↓wrap_up, ↓wrap_down, ↓wrap_pred, ↓wrap_sub_nat, i64_in, i64_quo, rem_in, Int.reduceToNat, room_ok, hp]
      exact fzEq rfl rfl
    · simp +contextual (disch := omega) only [Try.f115, dd115, ty0, ty3, ty4, ty22, go_sem, ↓reduceIte, List.reduceReplicate, Nat.reduceAdd, Nat.reduceSub, reduceCtorEq, Nat.reduceLeDiff, Nat.reduceMul, Nat.reduceLT, Nat.reduceEqDiff, Int.reduceBNe, Int.reduceBEq, Int.reduceEq, Int.reduceLT, Int.reduceLE, Int.reduceGT, Int.reduceGE, mu115, List.contains_nil, List.contains_cons, Nat.reduceBEq, Bool.or_self, dlt_t, dlt_f, dle_t, dle_f, dgt_t, dgt_f, dge_t, dge_f, beq_t, beq_f, bne_t, bne_f, lt_T, le_T, nle_T, nle_F, ↓wrap_up, ↓wrap_down, ↓wrap_pred, ↓wrap_sub_nat, i64_in, i64_quo, rem_in, Int.reduceToNat, room_ok, hp]
      refine ⟨fun k q hk hq => ?_, (by first | rfl | (simp [keepT, AV.underL, AV.under, MB.under, underL_plain, under_plain, underL_append, plain_ints, plain_span, plain_ins, plain_prg, -List.map_take, -List.map_replicate, -List.map_set]; done))⟩
      rcases Nat.lt_or_ge k i with h | h
      · exact hg k q h hq
      · obtain rfl : k = i := by omega
        rw [hp] at hq; obtain rfl := Option.some.inj hq
        exact hpx
  · intro hg
    have : ¬ x ∈ l := fun hm => by
      obtain ⟨i, hi, e⟩ := List.getElem_of_mem hm
      exact hg i x hi (by rw [← e]; exact List.getElem?_eq_getElem hi) rfl
    rw [decide_eq_false this]
    simp +contextual (disch := omega) only [Try.f115, dd115, ty0, ty3, ty4, ty22, go_sem, ↓reduceIte, List.reduceReplicate, Nat.reduceAdd, Nat.reduceSub, reduceCtorEq, Nat.reduceLeDiff, Nat.reduceMul, Nat.reduceLT, Nat.reduceEqDiff, Int.reduceBNe, Int.reduceBEq, Int.reduceEq, Int.reduceLT, Int.reduceLE, Int.reduceGT, Int.reduceGE, mu115, List.contains_nil, List.contains_cons, Nat.reduceBEq, Bool.or_self, dlt_t, dlt_f, dle_t, dle_f, dgt_t, dgt_f, dge_t, dge_f, beq_t, beq_f, bne_t, bne_f, lt_T, le_T, nle_T, nle_F, ↓wrap_up, ↓wrap_down, ↓wrap_pred, ↓wrap_sub_nat, i64_in, i64_quo, rem_in, Int.reduceToNat, room_ok]
    exact fzEq rfl rfl

theorem f134 (l : List Int) (x : Int) (hl : l.length ≤ 10000000) : ∃ r : Int, (0 ≤ r ↔ x ∈ l) ∧ ∀ H, call Try.prog pol1 134 [.sl false (l.map I), I x] H = some (I r, H) := by
  have h : ∃ r, (∃ i : Int, (0 ≤ i ↔ x ∈ l) ∧ r = I i) ∧ ∀ H, call Try.prog pol1 134 [.sl false (l.map I), I x] H = some (r, H) := by
    refine call_runA Try.func134 rfl rfl rfl rfl rfl rfl (fun _ => rfl) (by simp [AV.plain, AV.plainL, plain_ints]) ?_ ?_
    · rintro _ ⟨i, _, rfl⟩; rfl
    simp +contextual (disch := omega) only [Try.f134, dd134, ty0, ty3, ty4, ty22, go_sem, ↓reduceIte, List.reduceReplicate, Nat.reduceAdd, Nat.reduceSub, reduceCtorEq, Nat.reduceLeDiff, Nat.reduceMul, Nat.reduceLT, Nat.reduceEqDiff, Int.reduceBNe, Int.reduceBEq, Int.reduceEq, Int.reduceLT, Int.reduceLE, Int.reduceGT, Int.reduceGE, mu134, List.contains_nil, List.contains_cons, Nat.reduceBEq, Bool.or_self, dlt_t, dlt_f, dle_t, dle_f, dgt_t, dgt_f, dge_t, dge_f, beq_t, beq_f, bne_t, bne_f, lt_T, le_T, nle_T, nle_F, ↓wrap_up, ↓wrap_down, ↓wrap_pred, ↓wrap_sub_nat, i64_in, i64_quo, rem_in, Int.reduceToNat, room_ok]
    refine W_count (M := (mskOf (pol1.mask 134) (pol1.gc 134) (pol1.acts 134) 0 2)) rfl l.length (fun i => (⟨19, [(8, I i), (7, I l.length), (1, I x), (0, .sl false (l.map I))], []⟩ : St)) (fun i => ∀ k p, k < i → l[k]? = some p → p ≠ x) ?_ ?_ (fun k p h => by omega) _ (by first | rfl | (simp [keepT, AV.underL, AV.under, MB.under, underL_plain, under_plain, underL_append, plain_ints, plain_span, plain_ins, plain_prg, -List.map_take, -List.map_replicate, -List.map_set]; done))
    · intro i hi hg
      obtain ⟨p, hp⟩ : ∃ p, l[i]? = some p := ⟨_, List.getElem?_eq_getElem hi⟩
      by_cases hpx : p = x
      · subst hpx
        simp +contextual (disch := omega) only [Try.f134, dd134, ty0, ty3, ty4, ty22, go_sem, ↓reduceIte, List.reduceReplicate, Nat.reduceAdd, Nat.reduceSub, reduceCtorEq, Nat.reduceLeDiff, Nat.reduceMul, Nat.reduceLT, Nat.reduceEqDiff, Int.reduceBNe, Int.reduceBEq, Int.reduceEq, Int.reduceLT, Int.reduceLE, Int.reduceGT, Int.reduceGE, mu134, List.contains_nil, List.contains_cons, Nat.reduceBEq, Bool.or_self, dlt_t, dlt_f, dle_t, dle_f, dgt_t, dgt_f, dge_t, dge_f, beq_t, beq_f, bne_t, bne_f, lt_T, le_T, nle_T, nle_F, ↓wrap_up, ↓wrap_down, ↓wrap_pred, ↓wrap_sub_nat, i64_in, i64_quo, rem_in, Int.reduceToNat, room_ok, hp]
        exact ⟨_, ⟨i, ⟨fun _ => List.mem_of_getElem? hp, fun _ => by omega⟩, rfl⟩, _, rfl⟩
      · simp +contextual (disch := omega) only [Try.f134, dd134, ty0, ty3, ty4, ty22, go_sem, ↓reduceIte, List.reduceReplicate, Nat.reduceAdd, Nat.reduceSub, reduceCtorEq, Nat.reduceLeDiff, Nat.reduceMul, Nat.reduceLT, Nat.reduceEqDiff, Int.reduceBNe, Int.reduceBEq, Int.reduceEq, Int.reduceLT, Int.reduceLE, Int.reduceGT, Int.reduceGE, mu134, List.contains_nil, List.contains_cons, Nat.reduceBEq, Bool.or_self, dlt_t, dlt_f, dle_t, dle_f, dgt_t, dgt_f, dge_t, dge_f, beq_t, beq_f, bne_t, bne_f, lt_T, le_T, nle_T, nle_F, ↓wrap_up, ↓wrap_down, ↓wrap_pred, ↓wrap_sub_nat, i64_in, i64_quo, rem_in, Int.reduceToNat, room_ok, hp]
        refine ⟨fun k q hk hq => ?_, (by first | rfl | (simp [keepT, AV.underL, AV.under, MB.under, underL_plain, under_plain, underL_append, plain_ints, plain_span, plain_ins, plain_prg, -List.map_take, -List.map_replicate, -List.map_set]; done))⟩
        rcases Nat.lt_or_ge k i with h | h
        · exact hg k q h hq
        · obtain rfl : k = i := by omega
          rw [hp] at hq; obtain rfl := Option.some.inj hq
          exact hpx
    · intro hg
      have : ¬ x ∈ l := fun hm => by
        obtain ⟨i, hi, e⟩ := List.getElem_of_mem hm
        exact hg i x hi (by rw [← e]; exact List.getElem?_eq_getElem hi) rfl
      simp +contextual (disch := omega) only [Try.f134, dd134, ty0, ty3, ty4, ty22, go_sem, ↓reduceIte, List.reduceReplicate, Nat.reduceAdd, Nat.reduceSub, reduceCtorEq, Nat.reduceLeDiff, Nat.reduceMul, Nat.reduceLT, Nat.reduceEqDiff, Int.reduceBNe, Int.reduceBEq, Int.reduceEq, Int.reduceLT, Int.reduceLE, Int.reduceGT, Int.reduceGE, mu134, List.contains_nil, List.contains_cons, Nat.reduceBEq, Bool.or_self, dlt_t, dlt_f, dle_t, dle_f, dgt_t, dgt_f, dge_t, dge_f, beq_t, beq_f, bne_t, bne_f, lt_T, le_T, nle_T, nle_F, ↓wrap_up, ↓wrap_down, ↓wrap_pred, ↓wrap_sub_nat, i64_in, i64_quo, rem_in, Int.reduceToNat, room_ok]
      exact ⟨_, ⟨-1, ⟨fun h => by omega, fun h => absurd h this⟩, rfl⟩, _, rfl⟩
  obtain ⟨_, ⟨i, h1, rfl⟩, h2⟩ := h
  exact ⟨i, h1, h2⟩
theorem f106 (l : List Int) (x : Int) (hl : l.length ≤ 10000000) (H : List MB) : call Try.prog pol1 106 [.sl false (l.map I), I x] H = some (.bool (decide (x ∈ l)), H) := by
  refine call_run Try.func106 rfl rfl rfl rfl rfl rfl (fun _ => rfl) (by simp [AV.plain, AV.plainL, plain_ints]) rfl ?_ H
  obtain ⟨r, h1, h2⟩ := f134 l x hl
  simp +contextual (disch := omega) only [Try.f106, dd106, ty3, ty4, ty22, go_sem, ↓reduceIte, List.reduceReplicate, Nat.reduceAdd, Nat.reduceSub, reduceCtorEq, Nat.reduceLeDiff, Nat.reduceMul, Nat.reduceLT, Nat.reduceEqDiff, Int.reduceBNe, Int.reduceBEq, Int.reduceEq, Int.reduceLT, Int.reduceLE, Int.reduceGT, Int.reduceGE, mu106, List.contains_nil, List.contains_cons, Nat.reduceBEq, Bool.or_self, dlt_t, dlt_f, dle_t, dle_f, dgt_t, dgt_f, dge_t, dge_f, beq_t, beq_f, bne_t, bne_f, lt_T, le_T, nle_T, nle_F, ↓wrap_up, ↓wrap_down, ↓wrap_pred, ↓wrap_sub_nat, i64_in, i64_quo, rem_in, Int.reduceToNat, room_ok, h2]
  refine fzEq rfl (congrArg AV.bool ?_)
  rw [decide_eq_decide]
  exact h1

def zi (m : Nat) : Nat → Nat
  | 0 => 0
  | _ + 1 => m
theorem zi_max (m i : Nat) : max (zi m i) m = m := by cases i <;> simp [zi]

theorem f53 (caps top : Int) : ∀ (N : Nat) (r : Re) (ins : List Int), r.wt ≤ N → r.wt ≤ 1000000 → ins.length + r.wt ≤ 2000000 → wholeG caps top r = true → ∀ H, call Try.prog pol1 53 [reAV r, .sl false (ins.map I)] H = some (.bool (compG ins r), H)
  | 0, r, _, h, _, _, _ => by have := r.wt_pos; omega
  | N + 1, .mk op set kids mn mx md n neg, ins, h, hN, hI, hw => by
    intro H
    have hkl := Re.wtL_len kids
    have hwt : 1 + set.length + Re.wtL kids = (Re.mk op set kids mn mx md n neg).wt := by simp [Re.wt]
    obtain ⟨hwk, hkd, hrp, _, ho1, ho2⟩ := whole_facts hw
    have ih := fun k (hk : k ∈ kids) (ins' : List Int) (hi : ins'.length ≤ ins.length + 1) => f53 caps top N k ins' (by have := Re.wtL_mem hk; omega) (by have := Re.wtL_mem hk; omega) (by have := Re.wtL_mem hk; omega) (hwk k hk)
    have h20 := fun k (hk : k ∈ kids) => f20 k.wt k (Nat.le_refl _) (by have := Re.wtL_mem hk; omega)
    have h115 := f115 ins n (by omega)
    rw [show reAV (.mk op set kids mn mx md n neg) = .agg (nodeL op set kids mn mx md n neg) from congrArg AV.agg reC_mk]
    refine call_run Try.func53 rfl rfl rfl rfl rfl rfl (fun _ => rfl) (by simp [AV.plain, AV.plainL, plain_span, plain_kids, plain_ints]) rfl ?_ H
    rw [compG]
    by_cases h4 : op = 4 ∧ (md = 2 ∨ nullHd kids = true)
    · rw [if_pos h4]
      obtain ⟨rfl, h4⟩ := h4
      by_cases hmd : md = 2
      · simp +contextual (disch := omega) only [Try.f53, dd53, ty0, ty3, ty4, ty22, ty24, ty26, go_sem, ↓reduceIte, List.reduceReplicate, Nat.reduceAdd, Nat.reduceSub, reduceCtorEq, Nat.reduceLeDiff, Nat.reduceMul, Nat.reduceLT, Nat.reduceEqDiff, Int.reduceBNe, Int.reduceBEq, Int.reduceEq, Int.reduceLT, Int.reduceLE, Int.reduceGT, Int.reduceGE, mu53, List.contains_nil, List.contains_cons, Nat.reduceBEq, Bool.or_self, dlt_t, dlt_f, dle_t, dle_f, dgt_t, dgt_f, dge_t, dge_f, beq_t, beq_f, bne_t, bne_f, lt_T, le_T, nle_T, nle_F, ↓wrap_up, ↓wrap_down, ↓wrap_pred, ↓wrap_sub_nat, i64_in, i64_quo, rem_in, Int.reduceToNat, room_ok]
        exact fzEq rfl rfl
      · have hnl : nullHd kids = true := by rcases h4 with h | h; exact absurd h hmd; exact h
        cases kids with
        | nil => simp [nullHd] at hnl
        | cons k ks =>
          have h20k := h20 k (List.mem_cons_self ..)
          rw [show nullG k = true from hnl] at h20k
          have hl8 := reC_len k
          have ht8 := reC_take k
          simp only [List.length_cons] at hkl
          simp +contextual (disch := omega) only [Try.f53, dd53, ty0, ty3, ty4, ty22, ty24, ty26, go_sem, ↓reduceIte, List.reduceReplicate, Nat.reduceAdd, Nat.reduceSub, reduceCtorEq, Nat.reduceLeDiff, Nat.reduceMul, Nat.reduceLT, Nat.reduceEqDiff, Int.reduceBNe, Int.reduceBEq, Int.reduceEq, Int.reduceLT, Int.reduceLE, Int.reduceGT, Int.reduceGE, mu53, List.contains_nil, List.contains_cons, Nat.reduceBEq, Bool.or_self, dlt_t, dlt_f, dle_t, dle_f, dgt_t, dgt_f, dge_t, dge_f, beq_t, beq_f, bne_t, bne_f, lt_T, le_T, nle_T, nle_F, ↓wrap_up, ↓wrap_down, ↓wrap_pred, ↓wrap_sub_nat, i64_in, i64_quo, rem_in, Int.reduceToNat, room_ok, h20k, hl8, ht8]
          exact fzEq rfl rfl
    rw [if_neg h4]
    by_cases h5 : op = 5
    · subst h5
      rw [if_pos rfl]
      by_cases hm : n ∈ ins
      · rw [if_pos hm]
        rw [decide_eq_true hm] at h115
        simp +contextual (disch := omega) only [Try.f53, dd53, ty0, ty3, ty4, ty22, ty24, ty26, go_sem, ↓reduceIte, List.reduceReplicate, Nat.reduceAdd, Nat.reduceSub, reduceCtorEq, Nat.reduceLeDiff, Nat.reduceMul, Nat.reduceLT, Nat.reduceEqDiff, Int.reduceBNe, Int.reduceBEq, Int.reduceEq, Int.reduceLT, Int.reduceLE, Int.reduceGT, Int.reduceGE, mu53, List.contains_nil, List.contains_cons, Nat.reduceBEq, Bool.or_self, dlt_t, dlt_f, dle_t, dle_f, dgt_t, dgt_f, dge_t, dge_f, beq_t, beq_f, bne_t, bne_f, lt_T, le_T, nle_T, nle_F, ↓wrap_up, ↓wrap_down, ↓wrap_pred, ↓wrap_sub_nat, i64_in, i64_quo, rem_in, Int.reduceToNat, room_ok, h115]
        exact fzEq rfl rfl
      · rw [if_neg hm]
        rw [decide_eq_false hm] at h115
        have hcall : ∀ (b0 : MB) (z : Nat) (k : Re), k ∈ kids → call Try.prog pol1 53 [reAV k, .ms 1 1 (ins.length + 1) 0 (ins.length + 1)] [b0, .row 1 ((ins ++ [n]).map I) z] = some (.bool (compG (ins ++ [n]) k), [b0, .row 1 ((ins ++ [n]).map I) (max z (ins.length + 1))]) := fun b0 z k hk => by
          have h1 : frzArgs pol1 53 0 [reAV k, .ms 1 1 (ins.length + 1) 0 (ins.length + 1)] [b0, .row 1 ((ins ++ [n]).map I) z] = some ([reAV k, .sl false ((ins ++ [n]).map I)], [b0, .row 1 ((ins ++ [n]).map I) (max z (ins.length + 1))]) := by
            have h2 : fz (.ms 1 1 (ins.length + 1) 0 (ins.length + 1)) [b0, .row 1 ((ins ++ [n]).map I) z] = some (.sl false ((ins ++ [n]).map I), [b0, .row 1 ((ins ++ [n]).map I) (max z (ins.length + 1))]) :=
              fz_row (k := 1) (z := z) rfl (by simp) (plain_ints _)
            have hby : ∀ i, pol1.byref 53 i = false := fun i => rfl
            simp only [frzArgs, hby, Bool.false_eq_true, if_false, fz_plain _ (show AV.plain (reAV k) = true from plain_reC k), h2]
          rw [call_frz rfl h1 (by simp [AV.plainL, AV.plain, plain_reC, plain_ints, -List.map_append])]
          exact ih k hk (ins ++ [n]) (by simp) _
        have hmm : ∀ z, z = 0 ∨ z = ins.length + 1 → max z (ins.length + 1) = ins.length + 1 := fun z hz => by omega
        have hinl : ins.length ≤ 2000000 := by omega
        cases ins with
        | nil =>
          simp only [List.map_nil, List.map_cons, List.nil_append, List.length_nil, Nat.zero_add] at h115 hcall
          simp +contextual (disch := omega) only [Try.f53, dd53, ty0, ty3, ty4, ty22, ty24, ty26, go_sem, ↓reduceIte, List.reduceReplicate, Nat.reduceAdd, Nat.reduceSub, reduceCtorEq, Nat.reduceLeDiff, Nat.reduceMul, Nat.reduceLT, Nat.reduceEqDiff, Int.reduceBNe, Int.reduceBEq, Int.reduceEq, Int.reduceLT, Int.reduceLE, Int.reduceGT, Int.reduceGE, mu53, List.contains_nil, List.contains_cons, Nat.reduceBEq, Bool.or_self, dlt_t, dlt_f, dle_t, dle_f, dgt_t, dgt_f, dge_t, dge_f, beq_t, beq_f, bne_t, bne_f, lt_T, le_T, nle_T, nle_F, ↓wrap_up, ↓wrap_down, ↓wrap_pred, ↓wrap_sub_nat, i64_in, i64_quo, rem_in, Int.reduceToNat, room_ok, h115]
          repeat' (first | intro _ | apply And.intro | (unfold dOk; kernel_rfl) | exact St.beq_refl _ | (show altO _ _ _ _ = true; kernel_rfl) | (show (_ || _) = true; kernel_rfl) | (show (_ && _) = true; kernel_rfl))
          refine W_count (M := (mskOf (pol1.mask 53) (pol1.gc 53) (pol1.acts 53) 0 12)) rfl kids.length (fun i => (⟨61, [(7, I i), (2, .rf 0 1 0 0), (1, .ms 1 1 (1) 0 (1))], [.row 8 [.agg (nodeL 5 set kids mn mx md n neg)] 0, .row 1 ([I n]) (zi (1) i)]⟩ : St)) (fun i => ∀ j k, j < i → kids[j]? = some k → compG ([n]) k = true) ?_ ?_ (fun j k h => by omega) _ (by first | rfl | (refine prep_to (n := 2) (m := ⟨some [7, 2, 1], some 2, []⟩) rfl rfl ?_ ?_ ?_ <;> first | rfl | (simp [keepT, AV.underL, AV.under, MB.under, underL_plain, under_plain, underL_append, plain_ints, plain_span, plain_ins, plain_prg, -List.map_take, -List.map_replicate, -List.map_set, plain_kids, zi]; done) | (simp [keepT, AV.underL, AV.under, MB.under, underL_plain, under_plain, underL_append, plain_ints, plain_span, plain_ins, plain_prg, -List.map_take, -List.map_replicate, -List.map_set, plain_kids, zi]; omega)))
          · intro i hi hg
            obtain ⟨k, hk⟩ : ∃ k, kids[i]? = some k := ⟨_, List.getElem?_eq_getElem hi⟩
            have ihk := fun b0 z => hcall b0 z k (List.mem_of_getElem? hk)
            have hl8 := reC_len k
            have ht8 := reC_take k
            have hz := zi_max (1) i
            cases hn : compG ([n]) k with
            | false =>
              rw [hn] at ihk
              rw [show compL [n] kids = false from compL_false (List.mem_of_getElem? hk) hn]
              simp +contextual (disch := omega) only [Try.f53, dd53, ty0, ty3, ty4, ty22, ty24, ty26, go_sem, ↓reduceIte, List.reduceReplicate, Nat.reduceAdd, Nat.reduceSub, reduceCtorEq, Nat.reduceLeDiff, Nat.reduceMul, Nat.reduceLT, Nat.reduceEqDiff, Int.reduceBNe, Int.reduceBEq, Int.reduceEq, Int.reduceLT, Int.reduceLE, Int.reduceGT, Int.reduceGE, mu53, List.contains_nil, List.contains_cons, Nat.reduceBEq, Bool.or_self, dlt_t, dlt_f, dle_t, dle_f, dgt_t, dgt_f, dge_t, dge_f, beq_t, beq_f, bne_t, bne_f, lt_T, le_T, nle_T, nle_F, ↓wrap_up, ↓wrap_down, ↓wrap_pred, ↓wrap_sub_nat, i64_in, i64_quo, rem_in, Int.reduceToNat, room_ok, hk, ihk, hl8, ht8]
              exact fzEq rfl rfl
            | true =>
              rw [hn] at ihk
              simp +contextual (disch := omega) only [Try.f53, dd53, ty0, ty3, ty4, ty22, ty24, ty26, go_sem, ↓reduceIte, List.reduceReplicate, Nat.reduceAdd, Nat.reduceSub, reduceCtorEq, Nat.reduceLeDiff, Nat.reduceMul, Nat.reduceLT, Nat.reduceEqDiff, Int.reduceBNe, Int.reduceBEq, Int.reduceEq, Int.reduceLT, Int.reduceLE, Int.reduceGT, Int.reduceGE, mu53, List.contains_nil, List.contains_cons, Nat.reduceBEq, Bool.or_self, dlt_t, dlt_f, dle_t, dle_f, dgt_t, dgt_f, dge_t, dge_f, beq_t, beq_f, bne_t, bne_f, lt_T, le_T, nle_T, nle_F, ↓wrap_up, ↓wrap_down, ↓wrap_pred, ↓wrap_sub_nat, i64_in, i64_quo, rem_in, Int.reduceToNat, room_ok, hk, ihk, hl8, ht8, hz]
              refine ⟨fun j q hj hq => ?_, (by first | rfl | (refine prep_to (n := 2) (m := ⟨some [7, 2, 1], some 2, []⟩) rfl rfl ?_ ?_ ?_ <;> first | rfl | (simp [keepT, AV.underL, AV.under, MB.under, underL_plain, under_plain, underL_append, plain_ints, plain_span, plain_ins, plain_prg, -List.map_take, -List.map_replicate, -List.map_set, plain_kids, plain_ints]; done) | (simp [keepT, AV.underL, AV.under, MB.under, underL_plain, under_plain, underL_append, plain_ints, plain_span, plain_ins, plain_prg, -List.map_take, -List.map_replicate, -List.map_set, plain_kids, plain_ints]; omega)))⟩
              rcases Nat.lt_or_ge j i with h | h
              · exact hg j q h hq
              · obtain rfl : j = i := by omega
                rw [hk] at hq; obtain rfl := Option.some.inj hq
                exact hn
          · intro hg
            rw [show compL [n] kids = true from compL_true fun j k hj hk => hg j k hj hk]
            simp +contextual (disch := omega) only [Try.f53, dd53, ty0, ty3, ty4, ty22, ty24, ty26, go_sem, ↓reduceIte, List.reduceReplicate, Nat.reduceAdd, Nat.reduceSub, reduceCtorEq, Nat.reduceLeDiff, Nat.reduceMul, Nat.reduceLT, Nat.reduceEqDiff, Int.reduceBNe, Int.reduceBEq, Int.reduceEq, Int.reduceLT, Int.reduceLE, Int.reduceGT, Int.reduceGE, mu53, List.contains_nil, List.contains_cons, Nat.reduceBEq, Bool.or_self, dlt_t, dlt_f, dle_t, dle_f, dgt_t, dgt_f, dge_t, dge_f, beq_t, beq_f, bne_t, bne_f, lt_T, le_T, nle_T, nle_F, ↓wrap_up, ↓wrap_down, ↓wrap_pred, ↓wrap_sub_nat, i64_in, i64_quo, rem_in, Int.reduceToNat, room_ok]
            exact fzEq rfl rfl
        | cons x xs =>
          simp only [List.map_nil, List.map_cons, List.map_append, List.cons_append, List.length_cons] at h115 hcall hinl
          have hto : List.take (xs.length + 1) (I x :: List.map I xs) = I x :: List.map I xs := by rw [List.take_succ_cons]; rw [take_map_len rfl]
          have hsn : x :: (xs ++ [n]) = (x :: xs) ++ [n] := rfl
          have hal := all_int1 (x :: xs)
          simp +contextual (disch := omega) only [Try.f53, dd53, ty0, ty3, ty4, ty22, ty24, ty26, go_sem, ↓reduceIte, List.reduceReplicate, Nat.reduceAdd, Nat.reduceSub, reduceCtorEq, Nat.reduceLeDiff, Nat.reduceMul, Nat.reduceLT, Nat.reduceEqDiff, Int.reduceBNe, Int.reduceBEq, Int.reduceEq, Int.reduceLT, Int.reduceLE, Int.reduceGT, Int.reduceGE, mu53, List.contains_nil, List.contains_cons, Nat.reduceBEq, Bool.or_self, dlt_t, dlt_f, dle_t, dle_f, dgt_t, dgt_f, dge_t, dge_f, beq_t, beq_f, bne_t, bne_f, lt_T, le_T, nle_T, nle_F, ↓wrap_up, ↓wrap_down, ↓wrap_pred, ↓wrap_sub_nat, i64_in, i64_quo, rem_in, Int.reduceToNat, room_ok, h115, hto]
          repeat' (first | intro _ | apply And.intro | (unfold dOk; kernel_rfl) | exact St.beq_refl _ | (show altO _ _ _ _ = true; kernel_rfl) | (show (_ || _) = true; kernel_rfl) | (show (_ && _) = true; kernel_rfl))
          · exact all_int1 xs
          refine W_count (M := (mskOf (pol1.mask 53) (pol1.gc 53) (pol1.acts 53) 0 12)) rfl kids.length (fun i => (⟨61, [(7, I i), (2, .rf 0 1 0 0), (1, .ms 1 1 (xs.length + 1 + 1) 0 (xs.length + 1 + 1))], [.row 8 [.agg (nodeL 5 set kids mn mx md n neg)] 0, .row 1 (I x :: (List.map I xs ++ [I n])) (zi (xs.length + 1 + 1) i)]⟩ : St)) (fun i => ∀ j k, j < i → kids[j]? = some k → compG (x :: (xs ++ [n])) k = true) ?_ ?_ (fun j k h => by omega) _ (by first | rfl | (refine prep_to (n := 2) (m := ⟨some [7, 2, 1], some 2, []⟩) rfl rfl ?_ ?_ ?_ <;> first | rfl | (simp [keepT, AV.underL, AV.under, MB.under, underL_plain, under_plain, underL_append, plain_ints, plain_span, plain_ins, plain_prg, -List.map_take, -List.map_replicate, -List.map_set, plain_kids, zi]; done) | (simp [keepT, AV.underL, AV.under, MB.under, underL_plain, under_plain, underL_append, plain_ints, plain_span, plain_ins, plain_prg, -List.map_take, -List.map_replicate, -List.map_set, plain_kids, zi]; omega)))
          · intro i hi hg
            obtain ⟨k, hk⟩ : ∃ k, kids[i]? = some k := ⟨_, List.getElem?_eq_getElem hi⟩
            have ihk := fun b0 z => hcall b0 z k (List.mem_of_getElem? hk)
            have hl8 := reC_len k
            have ht8 := reC_take k
            have hz := zi_max (xs.length + 1 + 1) i
            cases hn : compG (x :: (xs ++ [n])) k with
            | false =>
              rw [hn] at ihk
              rw [show compL (x :: (xs ++ [n])) kids = false from compL_false (List.mem_of_getElem? hk) hn]
              simp +contextual (disch := omega) only [Try.f53, dd53, ty0, ty3, ty4, ty22, ty24, ty26, go_sem, ↓reduceIte, List.reduceReplicate, Nat.reduceAdd, Nat.reduceSub, reduceCtorEq, Nat.reduceLeDiff, Nat.reduceMul, Nat.reduceLT, Nat.reduceEqDiff, Int.reduceBNe, Int.reduceBEq, Int.reduceEq, Int.reduceLT, Int.reduceLE, Int.reduceGT, Int.reduceGE, mu53, List.contains_nil, List.contains_cons, Nat.reduceBEq, Bool.or_self, dlt_t, dlt_f, dle_t, dle_f, dgt_t, dgt_f, dge_t, dge_f, beq_t, beq_f, bne_t, bne_f, lt_T, le_T, nle_T, nle_F, ↓wrap_up, ↓wrap_down, ↓wrap_pred, ↓wrap_sub_nat, i64_in, i64_quo, rem_in, Int.reduceToNat, room_ok, hk, ihk, hl8, ht8]
              exact fzEq rfl rfl
            | true =>
              rw [hn] at ihk
              simp +contextual (disch := omega) only [Try.f53, dd53, ty0, ty3, ty4, ty22, ty24, ty26, go_sem, ↓reduceIte, List.reduceReplicate, Nat.reduceAdd, Nat.reduceSub, reduceCtorEq, Nat.reduceLeDiff, Nat.reduceMul, Nat.reduceLT, Nat.reduceEqDiff, Int.reduceBNe, Int.reduceBEq, Int.reduceEq, Int.reduceLT, Int.reduceLE, Int.reduceGT, Int.reduceGE, mu53, List.contains_nil, List.contains_cons, Nat.reduceBEq, Bool.or_self, dlt_t, dlt_f, dle_t, dle_f, dgt_t, dgt_f, dge_t, dge_f, beq_t, beq_f, bne_t, bne_f, lt_T, le_T, nle_T, nle_F, ↓wrap_up, ↓wrap_down, ↓wrap_pred, ↓wrap_sub_nat, i64_in, i64_quo, rem_in, Int.reduceToNat, room_ok, hk, ihk, hl8, ht8, hz]
              refine ⟨fun j q hj hq => ?_, (by first | rfl | (refine prep_to (n := 2) (m := ⟨some [7, 2, 1], some 2, []⟩) rfl rfl ?_ ?_ ?_ <;> first | rfl | (simp [keepT, AV.underL, AV.under, MB.under, underL_plain, under_plain, underL_append, plain_ints, plain_span, plain_ins, plain_prg, -List.map_take, -List.map_replicate, -List.map_set, plain_kids, plain_ints]; done) | (simp [keepT, AV.underL, AV.under, MB.under, underL_plain, under_plain, underL_append, plain_ints, plain_span, plain_ins, plain_prg, -List.map_take, -List.map_replicate, -List.map_set, plain_kids, plain_ints]; omega)))⟩
              rcases Nat.lt_or_ge j i with h | h
              · exact hg j q h hq
              · obtain rfl : j = i := by omega
                rw [hk] at hq; obtain rfl := Option.some.inj hq
                exact hn
          · intro hg
            rw [show compL (x :: (xs ++ [n])) kids = true from compL_true fun j k hj hk => hg j k hj hk]
            simp +contextual (disch := omega) only [Try.f53, dd53, ty0, ty3, ty4, ty22, ty24, ty26, go_sem, ↓reduceIte, List.reduceReplicate, Nat.reduceAdd, Nat.reduceSub, reduceCtorEq, Nat.reduceLeDiff, Nat.reduceMul, Nat.reduceLT, Nat.reduceEqDiff, Int.reduceBNe, Int.reduceBEq, Int.reduceEq, Int.reduceLT, Int.reduceLE, Int.reduceGT, Int.reduceGE, mu53, List.contains_nil, List.contains_cons, Nat.reduceBEq, Bool.or_self, dlt_t, dlt_f, dle_t, dle_f, dgt_t, dgt_f, dge_t, dge_f, beq_t, beq_f, bne_t, bne_f, lt_T, le_T, nle_T, nle_F, ↓wrap_up, ↓wrap_down, ↓wrap_pred, ↓wrap_sub_nat, i64_in, i64_quo, rem_in, Int.reduceToNat, room_ok]
            exact fzEq rfl rfl
    rw [if_neg h5]
    by_cases h6 : 5 < op ∧ op ≠ 11
    · rw [if_pos h6]
      have hnl : op = 4 → ¬ nullHd kids = true := fun h => by omega
      simp +contextual (disch := omega) only [Try.f53, dd53, ty0, ty3, ty4, ty22, ty24, ty26, go_sem, ↓reduceIte, List.reduceReplicate, Nat.reduceAdd, Nat.reduceSub, reduceCtorEq, Nat.reduceLeDiff, Nat.reduceMul, Nat.reduceLT, Nat.reduceEqDiff, Int.reduceBNe, Int.reduceBEq, Int.reduceEq, Int.reduceLT, Int.reduceLE, Int.reduceGT, Int.reduceGE, mu53, List.contains_nil, List.contains_cons, Nat.reduceBEq, Bool.or_self, dlt_t, dlt_f, dle_t, dle_f, dgt_t, dgt_f, dge_t, dge_f, beq_t, beq_f, bne_t, bne_f, lt_T, le_T, nle_T, nle_F, ↓wrap_up, ↓wrap_down, ↓wrap_pred, ↓wrap_sub_nat, i64_in, i64_quo, rem_in, Int.reduceToNat, room_ok]
      exact fzEq rfl rfl
    rw [if_neg h6]
    have hfrz : ∀ k (H : List MB), k ∈ kids → call Try.prog pol1 53 [reAV k, .sl false (ins.map I)] H = some (.bool (compG ins k), H) := fun k H hk => ih k hk ins (by omega) H
    have hmain : ∀ k', kids.head? = some k' → op = 4 → ∀ H, call Try.prog pol1 20 [reAV k'] H = some (.bool false, H) := fun k' hk' hop4 => by
      cases kids with
      | nil => cases hk'
      | cons k ks =>
        have e : k = k' := by simpa using hk'
        subst e
        have h1 := h20 k (List.mem_cons_self ..)
        have : nullG k = false := by
          cases hn : nullG k with
          | false => rfl
          | true => exact absurd ⟨hop4, .inr hn⟩ h4
        rw [this] at h1; exact h1
    have hloop : ∀ r, r = compL ins kids → op ≠ 5 → True := fun _ _ _ => trivial
    have hone : op = 4 → kids.length = 1 := fun h => by subst h; simpa [kidsG] using hkd
    by_cases ho4 : op = 4
    · subst ho4
      have hmd : ¬ md = 2 := fun h => h4 ⟨rfl, .inl h⟩
      have hk1 := hone rfl
      match kids, hk1 with
      | [k], _ =>
        have h20k := hmain k rfl rfl
        have hl8 := reC_len k
        have ht8 := reC_take k
        have hf := fun H => hfrz k H (List.mem_cons_self ..)
        generalize hks : ([k] : List Re) = kids at *
        have hkk : kids.map reAV = [reAV k] := by rw [← hks]; rfl
        have hget : (kids.map reAV)[0]? = some (reAV k) := by rw [hkk]; rfl
        have hget' : kids[0]? = some k := by rw [← hks]; rfl
        have hlen1 : kids.length = 1 := by rw [← hks]; rfl
        clear hmain hloop hone
        simp +contextual (disch := omega) only [Try.f53, dd53, ty0, ty3, ty4, ty22, ty24, ty26, go_sem, ↓reduceIte, List.reduceReplicate, Nat.reduceAdd, Nat.reduceSub, reduceCtorEq, Nat.reduceLeDiff, Nat.reduceMul, Nat.reduceLT, Nat.reduceEqDiff, Int.reduceBNe, Int.reduceBEq, Int.reduceEq, Int.reduceLT, Int.reduceLE, Int.reduceGT, Int.reduceGE, mu53, List.contains_nil, List.contains_cons, Nat.reduceBEq, Bool.or_self, dlt_t, dlt_f, dle_t, dle_f, dgt_t, dgt_f, dge_t, dge_f, beq_t, beq_f, bne_t, bne_f, lt_T, le_T, nle_T, nle_F, ↓wrap_up, ↓wrap_down, ↓wrap_pred, ↓wrap_sub_nat, i64_in, i64_quo, rem_in, Int.reduceToNat, room_ok, h20k, hl8, ht8, hget']
        refine W_count (M := (mskOf (pol1.mask 53) (pol1.gc 53) (pol1.acts 53) 0 12)) rfl (kids).length (fun i => (⟨61, [(7, I i), (2, .rf 0 1 0 0), (1, .sl false (ins.map I))], [.row 8 [.agg (nodeL _ set (kids) mn mx md n neg)] 0]⟩ : St)) (fun i => ∀ j k, j < i → (kids)[j]? = some k → compG ins k = true) ?_ ?_ (fun j k h => by omega) _ (by first | rfl | (refine prep_to (n := 2) (m := ⟨some [7, 2, 1], some 2, []⟩) rfl rfl ?_ ?_ ?_ <;> first | rfl | (simp [keepT, AV.underL, AV.under, MB.under, underL_plain, under_plain, underL_append, plain_ints, plain_span, plain_ins, plain_prg, -List.map_take, -List.map_replicate, -List.map_set, plain_kids, plain_reC]; done) | (simp [keepT, AV.underL, AV.under, MB.under, underL_plain, under_plain, underL_append, plain_ints, plain_span, plain_ins, plain_prg, -List.map_take, -List.map_replicate, -List.map_set, plain_kids, plain_reC]; omega)))
        · intro i hi hg
          obtain ⟨k, hk⟩ : ∃ k, (kids)[i]? = some k := ⟨_, List.getElem?_eq_getElem hi⟩
          have ihk := fun H => hfrz k H (List.mem_of_getElem? hk)
          have hl8 := reC_len k
          have ht8 := reC_take k
          cases hn : compG ins k with
          | false =>
            rw [hn] at ihk
            rw [show compL ins (kids) = false from compL_false (List.mem_of_getElem? hk) hn]
            simp +contextual (disch := omega) only [Try.f53, dd53, ty0, ty3, ty4, ty22, ty24, ty26, go_sem, ↓reduceIte, List.reduceReplicate, Nat.reduceAdd, Nat.reduceSub, reduceCtorEq, Nat.reduceLeDiff, Nat.reduceMul, Nat.reduceLT, Nat.reduceEqDiff, Int.reduceBNe, Int.reduceBEq, Int.reduceEq, Int.reduceLT, Int.reduceLE, Int.reduceGT, Int.reduceGE, mu53, List.contains_nil, List.contains_cons, Nat.reduceBEq, Bool.or_self, dlt_t, dlt_f, dle_t, dle_f, dgt_t, dgt_f, dge_t, dge_f, beq_t, beq_f, bne_t, bne_f, lt_T, le_T, nle_T, nle_F, ↓wrap_up, ↓wrap_down, ↓wrap_pred, ↓wrap_sub_nat, i64_in, i64_quo, rem_in, Int.reduceToNat, room_ok, hk, ihk, hl8, ht8]
            exact fzEq rfl rfl
          | true =>
            rw [hn] at ihk
            simp +contextual (disch := omega) only [Try.f53, dd53, ty0, ty3, ty4, ty22, ty24, ty26, go_sem, ↓reduceIte, List.reduceReplicate, Nat.reduceAdd, Nat.reduceSub, reduceCtorEq, Nat.reduceLeDiff, Nat.reduceMul, Nat.reduceLT, Nat.reduceEqDiff, Int.reduceBNe, Int.reduceBEq, Int.reduceEq, Int.reduceLT, Int.reduceLE, Int.reduceGT, Int.reduceGE, mu53, List.contains_nil, List.contains_cons, Nat.reduceBEq, Bool.or_self, dlt_t, dlt_f, dle_t, dle_f, dgt_t, dgt_f, dge_t, dge_f, beq_t, beq_f, bne_t, bne_f, lt_T, le_T, nle_T, nle_F, ↓wrap_up, ↓wrap_down, ↓wrap_pred, ↓wrap_sub_nat, i64_in, i64_quo, rem_in, Int.reduceToNat, room_ok, hk, ihk, hl8, ht8]
            refine ⟨fun j q hj hq => ?_, (by first | rfl | (refine prep_to (n := 2) (m := ⟨some [7, 2, 1], some 2, []⟩) rfl rfl ?_ ?_ ?_ <;> first | rfl | (simp [keepT, AV.underL, AV.under, MB.under, underL_plain, under_plain, underL_append, plain_ints, plain_span, plain_ins, plain_prg, -List.map_take, -List.map_replicate, -List.map_set, plain_kids, plain_reC]; done) | (simp [keepT, AV.underL, AV.under, MB.under, underL_plain, under_plain, underL_append, plain_ints, plain_span, plain_ins, plain_prg, -List.map_take, -List.map_replicate, -List.map_set, plain_kids, plain_reC]; omega)))⟩
            rcases Nat.lt_or_ge j i with h | h
            · exact hg j q h hq
            · obtain rfl : j = i := by omega
              rw [hk] at hq; obtain rfl := Option.some.inj hq
              exact hn
        · intro hg
          rw [show compL ins (kids) = true from compL_true fun j k hj hk => hg j k hj hk]
          simp +contextual (disch := omega) only [Try.f53, dd53, ty0, ty3, ty4, ty22, ty24, ty26, go_sem, ↓reduceIte, List.reduceReplicate, Nat.reduceAdd, Nat.reduceSub, reduceCtorEq, Nat.reduceLeDiff, Nat.reduceMul, Nat.reduceLT, Nat.reduceEqDiff, Int.reduceBNe, Int.reduceBEq, Int.reduceEq, Int.reduceLT, Int.reduceLE, Int.reduceGT, Int.reduceGE, mu53, List.contains_nil, List.contains_cons, Nat.reduceBEq, Bool.or_self, dlt_t, dlt_f, dle_t, dle_f, dgt_t, dgt_f, dge_t, dge_f, beq_t, beq_f, bne_t, bne_f, lt_T, le_T, nle_T, nle_F, ↓wrap_up, ↓wrap_down, ↓wrap_pred, ↓wrap_sub_nat, i64_in, i64_quo, rem_in, Int.reduceToNat, room_ok]
          exact fzEq rfl rfl
    · have hop : op = 0 ∨ op = 1 ∨ op = 2 ∨ op = 3 ∨ op = 11 := by omega
      clear hmain hloop hone h4
      rcases hop with rfl | rfl | rfl | rfl | rfl
      all_goals (
        simp +contextual (disch := omega) only [Try.f53, dd53, ty0, ty3, ty4, ty22, ty24, ty26, go_sem, ↓reduceIte, List.reduceReplicate, Nat.reduceAdd, Nat.reduceSub, reduceCtorEq, Nat.reduceLeDiff, Nat.reduceMul, Nat.reduceLT, Nat.reduceEqDiff, Int.reduceBNe, Int.reduceBEq, Int.reduceEq, Int.reduceLT, Int.reduceLE, Int.reduceGT, Int.reduceGE, mu53, List.contains_nil, List.contains_cons, Nat.reduceBEq, Bool.or_self, dlt_t, dlt_f, dle_t, dle_f, dgt_t, dgt_f, dge_t, dge_f, beq_t, beq_f, bne_t, bne_f, lt_T, le_T, nle_T, nle_F, ↓wrap_up, ↓wrap_down, ↓wrap_pred, ↓wrap_sub_nat, i64_in, i64_quo, rem_in, Int.reduceToNat, room_ok]
        refine W_count (M := (mskOf (pol1.mask 53) (pol1.gc 53) (pol1.acts 53) 0 12)) rfl (kids).length (fun i => (⟨61, [(7, I i), (2, .rf 0 1 0 0), (1, .sl false (ins.map I))], [.row 8 [.agg (nodeL _ set (kids) mn mx md n neg)] 0]⟩ : St)) (fun i => ∀ j k, j < i → (kids)[j]? = some k → compG ins k = true) ?_ ?_ (fun j k h => by omega) _ (by first | rfl | (refine prep_to (n := 2) (m := ⟨some [7, 2, 1], some 2, []⟩) rfl rfl ?_ ?_ ?_ <;> first | rfl | (simp [keepT, AV.underL, AV.under, MB.under, underL_plain, under_plain, underL_append, plain_ints, plain_span, plain_ins, plain_prg, -List.map_take, -List.map_replicate, -List.map_set, plain_kids, plain_reC]; done) | (simp [keepT, AV.underL, AV.under, MB.under, underL_plain, under_plain, underL_append, plain_ints, plain_span, plain_ins, plain_prg, -List.map_take, -List.map_replicate, -List.map_set, plain_kids, plain_reC]; omega)))
        · intro i hi hg
          obtain ⟨k, hk⟩ : ∃ k, (kids)[i]? = some k := ⟨_, List.getElem?_eq_getElem hi⟩
          have ihk := fun H => hfrz k H (List.mem_of_getElem? hk)
          have hl8 := reC_len k
          have ht8 := reC_take k
          cases hn : compG ins k with
          | false =>
            rw [hn] at ihk
            rw [show compL ins (kids) = false from compL_false (List.mem_of_getElem? hk) hn]
            simp +contextual (disch := omega) only [Try.f53, dd53, ty0, ty3, ty4, ty22, ty24, ty26, go_sem, ↓reduceIte, List.reduceReplicate, Nat.reduceAdd, Nat.reduceSub, reduceCtorEq, Nat.reduceLeDiff, Nat.reduceMul, Nat.reduceLT, Nat.reduceEqDiff, Int.reduceBNe, Int.reduceBEq, Int.reduceEq, Int.reduceLT, Int.reduceLE, Int.reduceGT, Int.reduceGE, mu53, List.contains_nil, List.contains_cons, Nat.reduceBEq, Bool.or_self, dlt_t, dlt_f, dle_t, dle_f, dgt_t, dgt_f, dge_t, dge_f, beq_t, beq_f, bne_t, bne_f, lt_T, le_T, nle_T, nle_F, ↓wrap_up, ↓wrap_down, ↓wrap_pred, ↓wrap_sub_nat, i64_in, i64_quo, rem_in, Int.reduceToNat, room_ok, hk, ihk, hl8, ht8]
            exact fzEq rfl rfl
          | true =>
            rw [hn] at ihk
            simp +contextual (disch := omega) only [Try.f53, dd53, ty0, ty3, ty4, ty22, ty24, ty26, go_sem, ↓reduceIte, List.reduceReplicate, Nat.reduceAdd, Nat.reduceSub, reduceCtorEq, Nat.reduceLeDiff, Nat.reduceMul, Nat.reduceLT, Nat.reduceEqDiff, Int.reduceBNe, Int.reduceBEq, Int.reduceEq, Int.reduceLT, Int.reduceLE, Int.reduceGT, Int.reduceGE, mu53, List.contains_nil, List.contains_cons, Nat.reduceBEq, Bool.or_self, dlt_t, dlt_f, dle_t, dle_f, dgt_t, dgt_f, dge_t, dge_f, beq_t, beq_f, bne_t, bne_f, lt_T, le_T, nle_T, nle_F, ↓wrap_up, ↓wrap_down, ↓wrap_pred, ↓wrap_sub_nat, i64_in, i64_quo, rem_in, Int.reduceToNat, room_ok, hk, ihk, hl8, ht8]
            refine ⟨fun j q hj hq => ?_, (by first | rfl | (refine prep_to (n := 2) (m := ⟨some [7, 2, 1], some 2, []⟩) rfl rfl ?_ ?_ ?_ <;> first | rfl | (simp [keepT, AV.underL, AV.under, MB.under, underL_plain, under_plain, underL_append, plain_ints, plain_span, plain_ins, plain_prg, -List.map_take, -List.map_replicate, -List.map_set, plain_kids, plain_reC]; done) | (simp [keepT, AV.underL, AV.under, MB.under, underL_plain, under_plain, underL_append, plain_ints, plain_span, plain_ins, plain_prg, -List.map_take, -List.map_replicate, -List.map_set, plain_kids, plain_reC]; omega)))⟩
            rcases Nat.lt_or_ge j i with h | h
            · exact hg j q h hq
            · obtain rfl : j = i := by omega
              rw [hk] at hq; obtain rfl := Option.some.inj hq
              exact hn
        · intro hg
          rw [show compL ins (kids) = true from compL_true fun j k hj hk => hg j k hj hk]
          simp +contextual (disch := omega) only [Try.f53, dd53, ty0, ty3, ty4, ty22, ty24, ty26, go_sem, ↓reduceIte, List.reduceReplicate, Nat.reduceAdd, Nat.reduceSub, reduceCtorEq, Nat.reduceLeDiff, Nat.reduceMul, Nat.reduceLT, Nat.reduceEqDiff, Int.reduceBNe, Int.reduceBEq, Int.reduceEq, Int.reduceLT, Int.reduceLE, Int.reduceGT, Int.reduceGE, mu53, List.contains_nil, List.contains_cons, Nat.reduceBEq, Bool.or_self, dlt_t, dlt_f, dle_t, dle_f, dgt_t, dgt_f, dge_t, dge_f, beq_t, beq_f, bne_t, bne_f, lt_T, le_T, nle_T, nle_F, ↓wrap_up, ↓wrap_down, ↓wrap_pred, ↓wrap_sub_nat, i64_in, i64_quo, rem_in, Int.reduceToNat, room_ok]
          exact fzEq rfl rfl)
end
section
attribute [local go_sem] evAppend
open Go.Proofs Go.RowKit Go.IntWalk
set_option maxRecDepth 100000
set_option linter.unusedSimpArgs false
set_option linter.unusedVariables false
set_option maxHeartbeats 8000000

def insSplit (md next other : Int) : Ins := if md = 1 then ⟨2, other, next, 0, []⟩ else ⟨2, next, other, 0, []⟩
mutual
/-- The code of a tree, whose first instruction has a number. -/
def codeG : Re → Nat → List Ins
  | .mk op set kids mn mx md n neg, f =>
    if op = 1 then [⟨1, 0, 0, 0, set⟩] else if op = 11 then [⟨5, 0, 0, n, []⟩] else if op = 2 then codeCat kids f else if op = 3 then codeAlt kids f
    else if op = 5 then ⟨4, 0, 0, 2 * n - 2, []⟩ :: (codeHd kids (f + 1) ++ [⟨4, 0, 0, 2 * n - 1, []⟩])
    else if op = 4 then
      let L := lenL kids
      let copies := (List.range mn.toNat).flatMap fun i => codeHd kids (f + i * L)
      let p := f + mn.toNat * L
      if mx = -1 then copies ++ (insSplit md ((p + 1 : Nat) : Int) ((p + L + 2 : Nat) : Int) :: (codeHd kids (p + 1) ++ [⟨3, (p : Int), 0, 0, []⟩]))
      else copies ++ (List.range (mx.toNat - mn.toNat)).flatMap fun j => insSplit md ((p + j * (L + 1) + 1 : Nat) : Int) ((f + mx.toNat * L + (mx.toNat - mn.toNat) : Nat) : Int) :: codeHd kids (p + j * (L + 1) + 1)
    else []
def codeCat : List Re → Nat → List Ins
  | [], _ => []
  | k :: ks, f => codeG k f ++ codeCat ks (f + lenG k)
def codeAlt : List Re → Nat → List Ins
  | [], _ => []
  | k :: ks, f => if ks.length = 0 then codeG k f else
      ⟨2, ((f + 1 : Nat) : Int), ((f + lenG k + 2 : Nat) : Int), 0, []⟩ :: (codeG k (f + 1) ++ (⟨3, ((f + lenL (k :: ks) + 2 * ks.length : Nat) : Int), 0, 0, []⟩ :: codeAlt ks (f + lenG k + 2)))
def codeHd : List Re → Nat → List Ins
  | [], _ => []
  | k :: _, f => codeG k f
end

mutual
/-- No node that the code has no instruction for. -/
def codable : Re → Bool
  | .mk op set kids mn mx md n neg => (decide (op ≤ 5) || op == 11) && codableL kids
def codableL : List Re → Bool
  | [] => true
  | k :: ks => codable k && codableL ks
end
theorem codableL_iff : ∀ l : List Re, codableL l = true ↔ ∀ k ∈ l, codable k = true
  | [] => by simp [codableL]
  | k :: ks => by simp [codableL, codableL_iff ks]
mutual
theorem codable_of : ∀ (r : Re) (ins : List Int), compG ins r = true → codable r = true
  | .mk op set kids mn mx md n neg, ins, h => by
    rw [compG] at h
    rw [codable, Bool.and_eq_true, Bool.or_eq_true, decide_eq_true_eq, beq_iff_eq]
    split at h
    · cases h
    · split at h
      · split at h
        · cases h
        · exact ⟨.inl (by omega), codableL_of kids _ h⟩
      · split at h
        · cases h
        · exact ⟨by omega, codableL_of kids _ h⟩
theorem codableL_of : ∀ (l : List Re) (ins : List Int), compL ins l = true → codableL l = true
  | [], _, _ => rfl
  | k :: ks, ins, h => by
    rw [compL, Bool.and_eq_true] at h
    rw [codableL, codable_of k ins h.1, codableL_of ks ins h.2]; rfl
end
structure GoodC (caps top : Int) (r : Re) : Prop where
  whole : wholeG caps top r = true
  cod : codable r = true
theorem GoodC.kids {caps top op : Int} {set : List (Int × Int)} {kids : List Re} {mn mx md n : Int} {neg : Bool} (h : GoodC caps top (.mk op set kids mn mx md n neg)) : ∀ k ∈ kids, GoodC caps top k := by
  intro k hk
  have h2 := h.cod
  rw [codable, Bool.and_eq_true, codableL_iff] at h2
  exact ⟨(whole_facts h.whole).1 k hk, h2.2 k hk⟩
theorem GoodC.op {caps top op : Int} {set : List (Int × Int)} {kids : List Re} {mn mx md n : Int} {neg : Bool} (h : GoodC caps top (.mk op set kids mn mx md n neg)) : op = 0 ∨ op = 1 ∨ op = 2 ∨ op = 3 ∨ op = 4 ∨ op = 5 ∨ op = 11 := by
  have h2 := h.cod
  rw [codable, Bool.and_eq_true, Bool.or_eq_true, decide_eq_true_eq, beq_iff_eq] at h2
  have h3 := (whole_facts h.whole).2.2.2.2
  omega

theorem flat_len {α : Type} (g : Nat → List α) (L : Nat) : ∀ m, (∀ i, i < m → (g i).length = L) → ((List.range m).flatMap g).length = m * L
  | 0, _ => by simp
  | m + 1, h => by
    rw [List.range_succ, List.flatMap_append, List.length_append, flat_len g L m (fun i hi => h i (by omega))]
    simp only [List.flatMap_cons, List.flatMap_nil, List.append_nil, h m (by omega), Nat.succ_mul]
mutual
theorem codeG_len (caps top : Int) : ∀ (r : Re) (f : Nat), GoodC caps top r → (codeG r f).length = lenG r
  | .mk op set kids mn mx md n neg, f, hw => by
    have hop := hw.op
    obtain ⟨_, hkd, hrp, _, ho1, ho2⟩ := whole_facts hw.whole
    have hwk := hw.kids
    have hcat := codeCat_len caps top kids f hwk
    have halt := codeAlt_len caps top kids f hwk
    have hhd := fun f => codeHd_len caps top kids f hwk
    rw [codeG, lenG]
    by_cases h1 : op = 1
    · rw [if_pos h1, if_pos (.inl h1)]; rfl
    rw [if_neg h1]
    by_cases h11 : op = 11
    · rw [if_pos h11, if_pos (.inr h11)]; rfl
    rw [if_neg h11, if_neg (show ¬ (op = 1 ∨ op = 11) by omega)]
    by_cases h2 : op = 2
    · rw [if_pos h2, if_neg (show ¬ op = 3 by omega), if_neg (show ¬ op = 5 by omega), if_neg (show ¬ op = 4 by omega)]; exact hcat
    rw [if_neg h2]
    by_cases h3 : op = 3
    · subst h3
      rw [if_pos rfl, if_pos rfl]
      have : 2 ≤ kids.length := by simpa [kidsG] using hkd
      exact halt (by omega)
    rw [if_neg h3, if_neg h3]
    have hone : op = 4 ∨ op = 5 → kids.length = 1 := fun e => by rcases e with rfl | rfl <;> simpa [kidsG] using hkd
    by_cases h5 : op = 5
    · rw [if_pos h5, if_pos h5]
      simp [hhd _ (hone (.inr h5))]
    rw [if_neg h5, if_neg h5]
    by_cases h4 : op = 4
    · rw [if_pos h4, if_pos h4]
      have hh := fun f => hhd f (hone (.inl h4))
      have hr := hrp h4
      simp only [repG, Bool.and_eq_true, Bool.or_eq_true, decide_eq_true_eq, beq_iff_eq] at hr
      by_cases hm : mx = -1
      · simp only [if_pos hm, List.length_append, List.length_cons, List.length_nil]
        rw [flat_len _ (lenL kids) _ (fun i _ => hh _), hh, Nat.succ_mul]
        omega
      · simp only [if_neg hm, List.length_append]
        rw [flat_len _ (lenL kids) _ (fun i _ => hh _), flat_len _ (lenL kids + 1) _ (fun i _ => by simp [hh])]
        obtain ⟨e, he⟩ : ∃ e, mx.toNat = mn.toNat + e := ⟨mx.toNat - mn.toNat, by omega⟩
        rw [he, Nat.add_sub_cancel_left, Nat.add_mul, Nat.mul_add]
        omega
    rw [if_neg h4, if_neg h4]
    have hk0 : kids = [] := by
      have : op = 0 := by omega
      subst this
      exact List.length_eq_zero_iff.1 (by simpa [kidsG] using hkd)
    rw [hk0]; rfl
theorem codeCat_len (caps top : Int) : ∀ (l : List Re) (f : Nat), (∀ k ∈ l, GoodC caps top k) → (codeCat l f).length = lenL l
  | [], f, _ => rfl
  | k :: ks, f, h => by
    rw [codeCat, lenL, List.length_append, codeG_len caps top k f (h k (List.mem_cons_self ..)), codeCat_len caps top ks _ (fun k hk => h k (List.mem_cons_of_mem _ hk))]
theorem codeAlt_len (caps top : Int) : ∀ (l : List Re) (f : Nat), (∀ k ∈ l, GoodC caps top k) → 1 ≤ l.length → (codeAlt l f).length = lenL l + 2 * (l.length - 1)
  | [], f, _, h => by simp at h
  | k :: ks, f, h, _ => by
    have hk := fun f => codeG_len caps top k f (h k (List.mem_cons_self ..))
    rw [codeAlt]
    split
    · rename_i h0
      have : ks = [] := List.length_eq_zero_iff.1 h0
      subst this
      simp [hk, lenL]
    · rename_i h0
      have := codeAlt_len caps top ks (f + lenG k + 2) (fun k hk => h k (List.mem_cons_of_mem _ hk)) (by omega)
      simp only [List.length_cons, List.length_append, hk, this, lenL]
      omega
theorem codeHd_len (caps top : Int) : ∀ (l : List Re) (f : Nat), (∀ k ∈ l, GoodC caps top k) → l.length = 1 → (codeHd l f).length = lenL l
  | [], f, _, h => by simp at h
  | k :: ks, f, h, hl => by
    have : ks = [] := List.length_eq_zero_iff.1 (by simpa using hl)
    subst this
    rw [codeHd, codeG_len caps top k f (h k (List.mem_cons_self ..))]
    simp [lenL]
end
end
section

open Go.Proofs Go.RowKit Go.IntWalk
set_option maxRecDepth 100000
set_option linter.unusedSimpArgs false
set_option linter.unusedVariables false
set_option maxHeartbeats 8000000

theorem ins_cells (l : List Ins) : (l.map insAV).all (fun y => decide (y.cells.length = 5) && y.cells.all AV.ok) = true := by
  rw [List.all_eq_true]
  intro x hx
  obtain ⟨i, _, rfl⟩ := List.mem_map.1 hx
  rfl
/-- Another row of instructions, behind ours. -/
theorem app_row {H : List MB} {i j n m z z2 : Nat} {els : List AV} {l : List Ins} (hi : getRow H i = some (5, els, z)) (hj : getRow H j = some (5, l.map insAV, z2)) (hn : els.length = n) (hm : l.length = m) (hz : z ≤ n) (hr : n + m ≤ 4000000000) :
    evAppend Try.prog H 39 39 (.ms i 5 n 0 n) (.ms j 5 m 0 m) = some (.ms i 5 (n + m) 0 (n + m), H.set i (.row 5 (els ++ l.map insAV) z)) := by
  have hl : (l.map insAV).length = m := by simp [hm]
  have hs : srcElems Try.prog H 108 (.ms j 5 m 0 m) = some (l.map insAV) := by
    simp only [srcElems, elemsOf, hj, hl, Nat.zero_add, Nat.le_refl, and_self, if_true, List.drop_zero]
    rw [List.take_of_length_le (by omega)]
  rw [evAppend_end (e := 108) (by kernel_rfl) (by kernel_rfl) (k := 5) (by kernel_rfl) (by_ := 56) (by kernel_rfl) (ze := .agg [I 0, I 0, I 0, I 0, .sl true []]) (by kernel_rfl) rfl (by omega) hs (ins_cells l) hi hn hz (by rw [hl]; exact room_ok hr (by omega)), hl]
/-- One instruction, behind ours. -/
theorem app_one {H : List MB} {i n z : Nat} {els : List AV} {y : AV} {t : Bool} (hi : getRow H i = some (5, els, z)) (hn : els.length = n) (hy : (decide (y.cells.length = 5) && y.cells.all AV.ok) = true) (hz : z ≤ n) (hr : n + 1 ≤ 4000000000) :
    evAppend Try.prog H 39 39 (.ms i 5 n 0 n) (.sl t [y]) = some (.ms i 5 (n + 1) 0 (n + 1), H.set i (.row 5 (els ++ [y]) z)) := by
  have hs : srcElems Try.prog H 108 (.sl t [y]) = some [y] := rfl
  rw [evAppend_end (e := 108) (by kernel_rfl) (by kernel_rfl) (k := 5) (by kernel_rfl) (by_ := 56) (by kernel_rfl) (ze := .agg [I 0, I 0, I 0, I 0, .sl true []]) (by kernel_rfl) rfl (by omega) hs (by simp only [List.all_cons, List.all_nil, hy, Bool.and_true]) hi hn hz (room_ok hr (by omega))]
  rfl
theorem keep_ins {j : List AV → List MB → Option (List AV × List MB)} (l : List Ins) : KeepL j (l.map insAV) (l.map insAV) := KeepL.plain (plain_ins l)
theorem f54' (caps top : Int) (r : Re) (hN : r.wt ≤ 1000000) (hw : wholeG caps top r = true) (hl : lenG r ≤ 8192) (H : List MB) : call Try.prog pol1 54 [reAV r] H = some (I (lenG r : Nat), H) := by
  rw [f54 caps top r.wt r (Nat.le_refl _) hN hw H, Nat.min_eq_left (by omega)]
/-- What is handed back: our own instructions. -/
theorem own_ins {f id n : Nat} {els : List AV} {c : List Ins} {H : List MB} (hk : pol1.keep f = false) (ho : pol1.own f = true) (hr : getRow H id = some (5, els, 0)) (hn : c.length = n) (hK : ∀ j, KeepL j els (c.map insAV)) :
    retPol pol1 f [] (.ms id 5 n 0 n) H = some (.ms 0 5 n 0 n, [.row 5 (c.map insAV) 0]) := by
  have hl := (hK (fun _ _ => none)).len
  rw [List.length_map] at hl
  exact retPol_own (els := els) hk ho hr (by omega) ((hK _).fz H) hr (plain_ins c) (by simp [hn])
theorem own_end {f id n : Nat} {els xs : List AV} {c : List Ins} {H : List MB} (hk : pol1.keep f = false) (ho : pol1.own f = true) (hr : getRow H id = some (5, els, 0)) (hn : c.length = n) (hx : xs = c.map insAV) (hK : ∀ j, KeepL j els (c.map insAV)) :
    retPol pol1 f [] (.ms id 5 n 0 n) H = some (.ms 0 5 n 0 n, [.row 5 xs 0]) := hx ▸ own_ins hk ho hr hn hK
/-- What Code comes to. -/
def Does55 (r : Re) : Prop := lenG r ≤ 8192 → ∀ f : Nat, f + lenG r ≤ 100000 → ∀ H, call Try.prog pol1 55 [reAV r, I f] H = some (.ms H.length 5 (lenG r) 0 (lenG r), H ++ [.row 5 ((codeG r f).map insAV) 0])
def copiesG (k : Re) (f i : Nat) : List Ins := (List.range i).flatMap fun i => codeG k (f + i * lenG k)
theorem copies_succ (k : Re) (f i : Nat) : copiesG k f (i + 1) = copiesG k f i ++ codeG k (f + i * lenG k) := by
  simp [copiesG, List.range_succ, List.flatMap_append]
theorem copies_len {caps top : Int} {k : Re} (h : GoodC caps top k) (f i : Nat) : (copiesG k f i).length = i * lenG k := flat_len _ _ _ (fun i _ => codeG_len caps top k _ h)
def optsG (md : Int) (k : Re) (p e i : Nat) : List Ins := (List.range i).flatMap fun j => insSplit md ((p + j * (lenG k + 1) + 1 : Nat) : Int) (e : Nat) :: codeG k (p + j * (lenG k + 1) + 1)
theorem opts_succ (md : Int) (k : Re) (p e i : Nat) : optsG md k p e (i + 1) = optsG md k p e i ++ insSplit md ((p + i * (lenG k + 1) + 1 : Nat) : Int) (e : Nat) :: codeG k (p + i * (lenG k + 1) + 1) := by
  simp [optsG, List.range_succ, List.flatMap_append]
theorem opts_len {caps top : Int} {k : Re} (h : GoodC caps top k) (md : Int) (p e i : Nat) : (optsG md k p e i).length = i * (lenG k + 1) := flat_len _ _ _ (fun i _ => by simp [codeG_len caps top k _ h])

def restG (md : Int) (k : Re) (f m e i : Nat) : List Ins := copiesG k f m ++ optsG md k (f + m * lenG k) e i
theorem rest_zero (md : Int) (k : Re) (f m e : Nat) : restG md k f m e 0 = copiesG k f m := by simp [restG, optsG]
theorem rest_succ (md : Int) (k : Re) (f m e i : Nat) : restG md k f m e (i + 1) = restG md k f m e i ++ insSplit md ((f + m * lenG k + i * (lenG k + 1) + 1 : Nat) : Int) (e : Nat) :: codeG k (f + m * lenG k + i * (lenG k + 1) + 1) := by
  rw [restG, opts_succ, ← List.append_assoc]; rfl
theorem rest_len {caps top : Int} {k : Re} (h : GoodC caps top k) (md : Int) (f m e i : Nat) : (restG md k f m e i).length = m * lenG k + i * (lenG k + 1) := by
  rw [restG, List.length_append, copies_len h, opts_len h]

theorem f116 (caps top : Int) (set : List (Int × Int)) (k : Re) (mn mx md n : Int) (neg : Bool) (hw : GoodC caps top (.mk 4 set [k] mn mx md n neg)) (hN : (Re.mk 4 set [k] mn mx md n neg).wt ≤ 1000000) (ih : Does55 k)
    (hl : lenG (.mk 4 set [k] mn mx md n neg) ≤ 8192) (f : Nat) (hf : f + lenG (.mk 4 set [k] mn mx md n neg) ≤ 100000) (H : List MB) :
    call Try.prog pol1 116 [reAV (.mk 4 set [k] mn mx md n neg), I f] H = some (.ms H.length 5 (lenG (.mk 4 set [k] mn mx md n neg)) 0 (lenG (.mk 4 set [k] mn mx md n neg)), H ++ [.row 5 ((codeG (.mk 4 set [k] mn mx md n neg) f).map insAV) 0]) := by
  have hlen := codeG_len caps top _ f hw
  have h54 := f54' caps top _ hN hw.whole hl
  have hgk : GoodC caps top k := hw.kids k (List.mem_singleton.2 rfl)
  have hr := (whole_facts hw.whole).2.2.1 rfl
  simp only [repG, Bool.and_eq_true, Bool.or_eq_true, decide_eq_true_eq, beq_iff_eq] at hr
  obtain ⟨mn', rfl⟩ : ∃ m : Nat, mn = m := ⟨mn.toNat, by omega⟩
  have hmn : mn' ≤ 32 := by omega
  have hll : lenL [k] = lenG k := by simp [lenL]
  have hlr : mn' * lenG k ≤ lenG (.mk 4 set [k] mn' mx md n neg) ∧ (1 ≤ mn' ∨ mx = -1 ∨ (mn' : Int) < mx → lenG k ≤ lenG (.mk 4 set [k] mn' mx md n neg)) := by
    rw [lenG, if_neg (by omega), if_neg (by omega), if_neg (by omega), if_pos rfl, hll, Int.toNat_natCast]
    split
    · rw [Nat.succ_mul]; omega
    · obtain ⟨e, he⟩ : ∃ e : Nat, mx = (mn' + e : Nat) := ⟨(mx - mn').toNat, by omega⟩
      subst he
      rw [Int.toNat_natCast, Nat.add_mul]
      have : 1 ≤ mn' → lenG k ≤ mn' * lenG k := fun h => Nat.le_mul_of_pos_left _ h
      have : 1 ≤ e → lenG k ≤ e * lenG k := fun h => Nat.le_mul_of_pos_left _ h
      omega
  have e0 : reAV (.mk 4 set [k] mn' mx md n neg) = .agg (nodeL 4 set [k] mn' mx md n neg) := congrArg AV.agg reC_mk
  rw [e0] at h54 ⊢
  have hcl := fun i => copies_len hgk f i
  have hl8 := reC_len k
  have ht8 := reC_take k
  refine call_runO (k := 5) (els := (codeG (.mk 4 set [k] mn' mx md n neg) f).map insAV) Try.func116 rfl rfl rfl rfl (fun _ => rfl) (by simp [AV.plain, AV.plainL, plain_span, plain_kids, plain_reC]) (plain_ins _) ?_ H
  simp +contextual (disch := omega) only [Try.f116, dd116, ty0, ty3, ty4, ty24, ty26, ty39, ty108, go_sem, ↓reduceIte, evAppend, List.reduceReplicate, Nat.reduceAdd, Nat.reduceSub, reduceCtorEq, Nat.reduceLeDiff, Nat.reduceMul, Nat.reduceLT, Nat.reduceEqDiff, Int.reduceBNe, Int.reduceBEq, Int.reduceEq, Int.reduceLT, Int.reduceLE, Int.reduceGT, Int.reduceGE, mu116, List.contains_nil, List.contains_cons, Nat.reduceBEq, Bool.or_self, dlt_t, dlt_f, dle_t, dle_f, dgt_t, dgt_f, dge_t, dge_f, beq_t, beq_f, bne_t, bne_f, lt_T, le_T, nle_T, nle_F, ↓wrap_up, ↓wrap_down, ↓wrap_pred, ↓wrap_sub_nat, i64_in, i64_quo, rem_in, Int.reduceToNat, room_ok]
  refine W_count (M := (mskOf (pol1.mask 116) (pol1.gc 116) (pol1.acts 116) 0 3)) rfl mn' (fun i => (⟨112, [(6, I i), (5, .ms 1 5 (i * lenG k) 0 (i * lenG k)), (2, .rf 0 1 0 0), (1, I f)], [.row 8 [.agg (nodeL 4 set [k] mn' mx md n neg)] 0, .row 5 ((copiesG k f i).map insAV) 0]⟩ : St)) (fun _ => True) ?_ ?_ trivial _ ?_
  · intro i hi _
    have e1 := copies_succ k f i
    have e3 : (i + 1) * lenG k = i * lenG k + lenG k := Nat.succ_mul ..
    have e4 : (i + 1) * lenG k ≤ mn' * lenG k := Nat.mul_le_mul_right _ hi
    have ihk := ih (by omega) (f + i * lenG k) (by omega)
    have e2 := hcl i
    have hk5 := codeG_len caps top k (f + i * lenG k) hgk
    have hadd : (f : Int) + ((i * lenG k : Nat) : Int) = ((f + i * lenG k : Nat) : Int) := by omega
    have happ := fun b0 => app_row (H := [b0, .row 5 ((copiesG k f i).map insAV) 0, .row 5 ((codeG k (f + i * lenG k)).map insAV) 0]) (i := 1) (j := 2) (n := i * lenG k) (m := lenG k) rfl rfl (by rw [List.length_map]; exact e2) hk5 (Nat.zero_le _) (by omega)
    simp +contextual (disch := omega) only [Try.f116, dd116, ty0, ty3, ty4, ty24, ty26, ty39, ty108, go_sem, ↓reduceIte, List.reduceReplicate, Nat.reduceAdd, Nat.reduceSub, reduceCtorEq, Nat.reduceLeDiff, Nat.reduceMul, Nat.reduceLT, Nat.reduceEqDiff, Int.reduceBNe, Int.reduceBEq, Int.reduceEq, Int.reduceLT, Int.reduceLE, Int.reduceGT, Int.reduceGE, mu116, List.contains_nil, List.contains_cons, Nat.reduceBEq, Bool.or_self, dlt_t, dlt_f, dle_t, dle_f, dgt_t, dgt_f, dge_t, dge_f, beq_t, beq_f, bne_t, bne_f, lt_T, le_T, nle_T, nle_F, ↓wrap_up, ↓wrap_down, ↓wrap_pred, ↓wrap_sub_nat, i64_in, i64_quo, rem_in, Int.reduceToNat, room_ok, ihk, hadd, happ, hl8, ht8]
    rw [e1, e3, List.map_append]
    exact (by first | rfl | (refine prep_to (n := 2) (m := ⟨some [6, 5, 2, 1], some 2, []⟩) rfl rfl ?_ ?_ ?_ <;> first | rfl | (simp [keepT, AV.underL, AV.under, MB.under, underL_plain, under_plain, underL_append, plain_ints, plain_span, plain_ins, plain_prg, -List.map_take, -List.map_replicate, -List.map_set, plain_kids, plain_reC]; done) | (simp [keepT, AV.underL, AV.under, MB.under, underL_plain, under_plain, underL_append, plain_ints, plain_span, plain_ins, plain_prg, -List.map_take, -List.map_replicate, -List.map_set, plain_kids, plain_reC]; omega)))
  · intro _
    have e2 := hcl mn'
    have hadd : (f : Int) + ((mn' * lenG k : Nat) : Int) = ((f + mn' * lenG k : Nat) : Int) := by omega
    by_cases hmx : mx = -1
    · subst hmx
      have hcode : codeG (.mk 4 set [k] mn' (-1) md n neg) f = copiesG k f mn' ++ insSplit md ((f + mn' * lenG k + 1 : Nat) : Int) ((f + mn' * lenG k + lenG k + 2 : Nat) : Int) :: (codeG k (f + mn' * lenG k + 1) ++ [⟨3, (f + mn' * lenG k : Nat), 0, 0, []⟩]) := by
        rw [codeG]
        simp only [copiesG, hll, codeHd, Int.toNat_natCast, if_true]
        rfl
      have hL : lenG (.mk 4 set [k] mn' (-1) md n neg) = mn' * lenG k + 1 + lenG k + 1 := by
        rw [lenG, if_neg (by omega), if_neg (by omega), if_neg (by omega), if_pos rfl, if_pos rfl, hll, Int.toNat_natCast, Nat.succ_mul]
        omega
      rw [hcode] at hlen ⊢
      rw [hL] at hlen hl hf ⊢
      have hk5 := codeG_len caps top k (f + mn' * lenG k + 1) hgk
      have ihk := ih (by omega) (f + mn' * lenG k + 1) (by omega)
      generalize hC : copiesG k f mn' = C at *
      generalize hA : mn' * lenG k = a at *
      generalize hB : codeG k (f + a + 1) = B at *
      have hadd2 : ((f + a : Nat) : Int) + (lenG k : Int) = ((f + a + lenG k : Nat) : Int) := by omega
      have hap1 := fun b0 X x y => app_one (H := [b0, .row 5 (C.map insAV) 0, .row 5 (B.map insAV) 0, X]) (i := 1) (n := a) (t := true) (y := .agg [I 2, I x, I y, I 0, .sl true []]) rfl (by rw [List.length_map]; exact e2) rfl (Nat.zero_le _) (by omega)
      have hap2 := fun b0 X y => app_row (H := [b0, .row 5 (C.map insAV ++ [y]) 0, .row 5 (B.map insAV) 0, X]) (i := 1) (j := 2) (n := a + 1) (m := lenG k) rfl rfl (by simp [e2]) hk5 (Nat.zero_le _) (by omega)
      have hap3 := fun b0 X y w => app_one (H := [b0, .row 5 (C.map insAV ++ [y] ++ B.map insAV) 0, .row 5 (B.map insAV) 0, X]) (i := 1) (n := a + 1 + lenG k) (t := true) (y := .agg [I 3, I w, I 0, I 0, .sl true []]) rfl (by simp [e2, hk5]; omega) rfl (Nat.zero_le _) (by omega)
      by_cases hmd : md = 1
      · subst hmd
        simp +contextual (disch := omega) only [Try.f116, dd116, ty0, ty3, ty4, ty24, ty26, ty39, ty108, go_sem, ↓reduceIte, List.reduceReplicate, Nat.reduceAdd, Nat.reduceSub, reduceCtorEq, Nat.reduceLeDiff, Nat.reduceMul, Nat.reduceLT, Nat.reduceEqDiff, Int.reduceBNe, Int.reduceBEq, Int.reduceEq, Int.reduceLT, Int.reduceLE, Int.reduceGT, Int.reduceGE, mu116, List.contains_nil, List.contains_cons, Nat.reduceBEq, Bool.or_self, dlt_t, dlt_f, dle_t, dle_f, dgt_t, dgt_f, dge_t, dge_f, beq_t, beq_f, bne_t, bne_f, lt_T, le_T, nle_T, nle_F, ↓wrap_up, ↓wrap_down, ↓wrap_pred, ↓wrap_sub_nat, i64_in, i64_quo, rem_in, Int.reduceToNat, room_ok, ihk, hadd, hadd2, hap1, hap2, hap3, hl8, ht8]
        refine own_end (c := C ++ insSplit 1 ((f + a + 1 : Nat) : Int) ((f + a + lenG k + 2 : Nat) : Int) :: (B ++ [⟨3, (f + a : Nat), 0, 0, []⟩])) rfl rfl rfl (by simpa using hlen) (by simp only [List.map_append, List.map_cons, List.map_nil]) (fun j => ?_)
        simp only [List.map_append, List.map_cons, List.map_nil, List.append_assoc, List.cons_append, List.nil_append, insSplit, if_true]
        exact (keep_ins C).append (.cons (fun H => rfl) ((keep_ins B).append (.one fun H => rfl)))
      · simp +contextual (disch := omega) only [Try.f116, dd116, ty0, ty3, ty4, ty24, ty26, ty39, ty108, go_sem, ↓reduceIte, List.reduceReplicate, Nat.reduceAdd, Nat.reduceSub, reduceCtorEq, Nat.reduceLeDiff, Nat.reduceMul, Nat.reduceLT, Nat.reduceEqDiff, Int.reduceBNe, Int.reduceBEq, Int.reduceEq, Int.reduceLT, Int.reduceLE, Int.reduceGT, Int.reduceGE, mu116, List.contains_nil, List.contains_cons, Nat.reduceBEq, Bool.or_self, dlt_t, dlt_f, dle_t, dle_f, dgt_t, dgt_f, dge_t, dge_f, beq_t, beq_f, bne_t, bne_f, lt_T, le_T, nle_T, nle_F, ↓wrap_up, ↓wrap_down, ↓wrap_pred, ↓wrap_sub_nat, i64_in, i64_quo, rem_in, Int.reduceToNat, room_ok, ihk, hadd, hadd2, hap1, hap2, hap3, hl8, ht8]
        refine own_end (c := C ++ insSplit md ((f + a + 1 : Nat) : Int) ((f + a + lenG k + 2 : Nat) : Int) :: (B ++ [⟨3, (f + a : Nat), 0, 0, []⟩])) rfl rfl rfl (by simpa using hlen) (by simp only [List.map_append, List.map_cons, List.map_nil]) (fun j => ?_)
        simp only [List.map_append, List.map_cons, List.map_nil, List.append_assoc, List.cons_append, List.nil_append, insSplit, hmd, if_false]
        exact (keep_ins C).append (.cons (fun H => rfl) ((keep_ins B).append (.one fun H => rfl)))
    · obtain ⟨e, rfl⟩ : ∃ e : Nat, mx = (mn' + e : Nat) := ⟨(mx - mn').toNat, by omega⟩
      have hnn : mn' + e - mn' = e := by omega
      have hL : lenG (.mk 4 set [k] mn' (mn' + e : Nat) md n neg) = mn' * lenG k + e * (lenG k + 1) := by
        rw [lenG, if_neg (by omega), if_neg (by omega), if_neg (by omega), if_pos rfl, if_neg hmx, hll, Int.toNat_natCast, Int.toNat_natCast, hnn, Nat.add_mul, Nat.mul_succ]
        omega
      have hcode : codeG (.mk 4 set [k] mn' (mn' + e : Nat) md n neg) f = restG md k f mn' (f + lenG (.mk 4 set [k] mn' (mn' + e : Nat) md n neg)) e := by
        rw [codeG, if_neg (by omega), if_neg (by omega), if_neg (by omega), if_neg (by omega), if_neg (by omega), if_pos rfl, if_neg hmx]
        simp only [hll, Int.toNat_natCast, hnn, restG, optsG, copiesG, codeHd]
        have : f + (mn' + e) * lenG k + e = f + lenG (.mk 4 set [k] mn' (mn' + e : Nat) md n neg) := by
          rw [hL, Nat.add_mul, Nat.mul_succ]; omega
        rw [this]
      generalize hLL : lenG (.mk 4 set [k] mn' (mn' + e : Nat) md n neg) = LL at *
      rw [hcode] at hlen ⊢
      have hrl := fun i => rest_len hgk md f mn' (f + LL) i
      have hadL : (f : Int) + (LL : Int) = ((f + LL : Nat) : Int) := by omega
      have h54' : ∀ H, call Try.prog pol1 54 [.agg [I 4, .sl false (set.map spanAV), .sl false [reAV k], I mn', I (mn' + e : Nat), I md, I n, .bool neg]] H = some (I (LL : Nat), H) := h54
      simp +contextual (disch := omega) only [Try.f116, dd116, ty0, ty3, ty4, ty24, ty26, ty39, ty108, go_sem, ↓reduceIte, List.reduceReplicate, Nat.reduceAdd, Nat.reduceSub, reduceCtorEq, Nat.reduceLeDiff, Nat.reduceMul, Nat.reduceLT, Nat.reduceEqDiff, Int.reduceBNe, Int.reduceBEq, Int.reduceEq, Int.reduceLT, Int.reduceLE, Int.reduceGT, Int.reduceGE, mu116, List.contains_nil, List.contains_cons, Nat.reduceBEq, Bool.or_self, dlt_t, dlt_f, dle_t, dle_f, dgt_t, dgt_f, dge_t, dge_f, beq_t, beq_f, bne_t, bne_f, lt_T, le_T, nle_T, nle_F, ↓wrap_up, ↓wrap_down, ↓wrap_pred, ↓wrap_sub_nat, i64_in, i64_quo, rem_in, Int.reduceToNat, room_ok, h54', hadL]
      refine W_count (M := (mskOf (pol1.mask 116) (pol1.gc 116) (pol1.acts 116) 0 17)) rfl e (fun i => (⟨112, [(12, I (mn' + i : Nat)), (11, I (f + LL : Nat)), (5, .ms 1 5 (mn' * lenG k + i * (lenG k + 1)) 0 (mn' * lenG k + i * (lenG k + 1))), (2, .rf 0 1 0 0), (1, I f)], [.row 8 [.agg (nodeL 4 set [k] mn' (mn' + e : Nat) md n neg)] 0, .row 5 ((restG md k f mn' (f + LL) i).map insAV) 0]⟩ : St)) (fun _ => True) ?_ ?_ trivial _ ?_
      · intro i hi _
        have e1 := rest_succ md k f mn' (f + LL) i
        have e3 : (i + 1) * (lenG k + 1) = i * (lenG k + 1) + lenG k + 1 := by rw [Nat.succ_mul]; omega
        have e4 : (i + 1) * (lenG k + 1) ≤ e * (lenG k + 1) := Nat.mul_le_mul_right _ hi
        have e5 : ((mn' + i + 1 : Nat) : Int) = ((mn' + (i + 1) : Nat) : Int) := by omega
        have hrli := hrl i
        have e6 : mn' * lenG k + i * (lenG k + 1) + 1 + lenG k = mn' * lenG k + (i + 1) * (lenG k + 1) := by omega
        have ihk := ih (by omega) (f + mn' * lenG k + i * (lenG k + 1) + 1) (by omega)
        have hk5 := codeG_len caps top k (f + mn' * lenG k + i * (lenG k + 1) + 1) hgk
        have had2 : (f : Int) + ((mn' * lenG k + i * (lenG k + 1) : Nat) : Int) = ((f + mn' * lenG k + i * (lenG k + 1) : Nat) : Int) := by omega
        have hap1 := fun b0 X x y => app_one (H := [b0, .row 5 ((restG md k f mn' (f + LL) i).map insAV) 0, X]) (i := 1) (n := mn' * lenG k + i * (lenG k + 1)) (t := true) (y := .agg [I 2, I x, I y, I 0, .sl true []]) rfl (by rw [List.length_map]; exact hrli) rfl (Nat.zero_le _) (by omega)
        have hz := fun (x y : Int) (H : List MB) => KeepL.fz (j := fzJ 6) ((keep_ins (restG md k f mn' (f + LL) i)).append (KeepL.one (x := .agg [I 2, I x, I y, I 0, .sl true []]) (y := .agg [I 2, I x, I y, I 0, .sl false []]) (fun H => rfl))) H
        have hz2 : ∀ (x y : Int) (H : List MB), fzs ((restG md k f mn' (f + LL) i).map insAV ++ [.agg [I 2, I x, I y, I 0, .sl true []]]) H = some ((restG md k f mn' (f + LL) i).map insAV ++ [.agg [I 2, I x, I y, I 0, .sl false []]], H) := hz
        have hap2 := fun b0 X y => app_row (H := [b0, .row 5 ((restG md k f mn' (f + LL) i).map insAV ++ [y]) 0, X, .row 5 ((codeG k (f + mn' * lenG k + i * (lenG k + 1) + 1)).map insAV) 0]) (i := 1) (j := 3) (n := mn' * lenG k + i * (lenG k + 1) + 1) (m := lenG k) rfl rfl (by simp [hrli]) hk5 (Nat.zero_le _) (by omega)
        by_cases hmd : md = 1
        · subst hmd
          simp +contextual (disch := omega) only [Try.f116, dd116, ty0, ty3, ty4, ty24, ty26, ty39, ty108, go_sem, ↓reduceIte, List.reduceReplicate, Nat.reduceAdd, Nat.reduceSub, reduceCtorEq, Nat.reduceLeDiff, Nat.reduceMul, Nat.reduceLT, Nat.reduceEqDiff, Int.reduceBNe, Int.reduceBEq, Int.reduceEq, Int.reduceLT, Int.reduceLE, Int.reduceGT, Int.reduceGE, mu116, List.contains_nil, List.contains_cons, Nat.reduceBEq, Bool.or_self, dlt_t, dlt_f, dle_t, dle_f, dgt_t, dgt_f, dge_t, dge_f, beq_t, beq_f, bne_t, bne_f, lt_T, le_T, nle_T, nle_F, ↓wrap_up, ↓wrap_down, ↓wrap_pred, ↓wrap_sub_nat, i64_in, i64_quo, rem_in, Int.reduceToNat, room_ok, ihk, had2, hap1, hz2, hap2, hl8, ht8, AV.beqL_refl]
          have er : (restG 1 k f mn' (f + LL) (i + 1)).map insAV = (restG 1 k f mn' (f + LL) i).map insAV ++ [.agg [I 2, I (f + LL : Nat), I (f + mn' * lenG k + i * (lenG k + 1) + 1 : Nat), I 0, .sl false []]] ++ (codeG k (f + mn' * lenG k + i * (lenG k + 1) + 1)).map insAV := by
            rw [e1, List.map_append, List.map_cons, List.append_assoc, List.singleton_append, insSplit, if_pos rfl]
            rfl
          rw [er, ← e6, ← e5]
          exact (by first | rfl | (refine prep_to (n := 2) (m := ⟨some [12, 11, 5, 2, 1], some 2, []⟩) rfl rfl ?_ ?_ ?_ <;> first | rfl | (simp [keepT, AV.underL, AV.under, MB.under, underL_plain, under_plain, underL_append, plain_ints, plain_span, plain_ins, plain_prg, -List.map_take, -List.map_replicate, -List.map_set, plain_kids, plain_reC]; done) | (simp [keepT, AV.underL, AV.under, MB.under, underL_plain, under_plain, underL_append, plain_ints, plain_span, plain_ins, plain_prg, -List.map_take, -List.map_replicate, -List.map_set, plain_kids, plain_reC]; omega)))
        · simp +contextual (disch := omega) only [Try.f116, dd116, ty0, ty3, ty4, ty24, ty26, ty39, ty108, go_sem, ↓reduceIte, List.reduceReplicate, Nat.reduceAdd, Nat.reduceSub, reduceCtorEq, Nat.reduceLeDiff, Nat.reduceMul, Nat.reduceLT, Nat.reduceEqDiff, Int.reduceBNe, Int.reduceBEq, Int.reduceEq, Int.reduceLT, Int.reduceLE, Int.reduceGT, Int.reduceGE, mu116, List.contains_nil, List.contains_cons, Nat.reduceBEq, Bool.or_self, dlt_t, dlt_f, dle_t, dle_f, dgt_t, dgt_f, dge_t, dge_f, beq_t, beq_f, bne_t, bne_f, lt_T, le_T, nle_T, nle_F, ↓wrap_up, ↓wrap_down, ↓wrap_pred, ↓wrap_sub_nat, i64_in, i64_quo, rem_in, Int.reduceToNat, room_ok, ihk, had2, hap1, hz2, hap2, hl8, ht8, AV.beqL_refl]
          have er : (restG md k f mn' (f + LL) (i + 1)).map insAV = (restG md k f mn' (f + LL) i).map insAV ++ [.agg [I 2, I (f + mn' * lenG k + i * (lenG k + 1) + 1 : Nat), I (f + LL : Nat), I 0, .sl false []]] ++ (codeG k (f + mn' * lenG k + i * (lenG k + 1) + 1)).map insAV := by
            rw [e1, List.map_append, List.map_cons, List.append_assoc, List.singleton_append, insSplit, if_neg hmd]
            rfl
          rw [er, ← e6, ← e5]
          exact (by first | rfl | (refine prep_to (n := 2) (m := ⟨some [12, 11, 5, 2, 1], some 2, []⟩) rfl rfl ?_ ?_ ?_ <;> first | rfl | (simp [keepT, AV.underL, AV.under, MB.under, underL_plain, under_plain, underL_append, plain_ints, plain_span, plain_ins, plain_prg, -List.map_take, -List.map_replicate, -List.map_set, plain_kids, plain_reC]; done) | (simp [keepT, AV.underL, AV.under, MB.under, underL_plain, under_plain, underL_append, plain_ints, plain_span, plain_ins, plain_prg, -List.map_take, -List.map_replicate, -List.map_set, plain_kids, plain_reC]; omega)))
      · intro _
        have hre := hrl e
        simp +contextual (disch := omega) only [Try.f116, dd116, ty0, ty3, ty4, ty24, ty26, ty39, ty108, go_sem, ↓reduceIte, List.reduceReplicate, Nat.reduceAdd, Nat.reduceSub, reduceCtorEq, Nat.reduceLeDiff, Nat.reduceMul, Nat.reduceLT, Nat.reduceEqDiff, Int.reduceBNe, Int.reduceBEq, Int.reduceEq, Int.reduceLT, Int.reduceLE, Int.reduceGT, Int.reduceGE, mu116, List.contains_nil, List.contains_cons, Nat.reduceBEq, Bool.or_self, dlt_t, dlt_f, dle_t, dle_f, dgt_t, dgt_f, dge_t, dge_f, beq_t, beq_f, bne_t, bne_f, lt_T, le_T, nle_T, nle_F, ↓wrap_up, ↓wrap_down, ↓wrap_pred, ↓wrap_sub_nat, i64_in, i64_quo, rem_in, Int.reduceToNat, room_ok, hl8, ht8]
        rw [hL] at hlen ⊢
        exact own_end rfl rfl rfl hlen rfl (fun j => keep_ins _)
      · exact (by first | rfl | (refine prep_to (n := 2) (m := ⟨some [12, 11, 5, 2, 1], some 2, []⟩) rfl rfl ?_ ?_ ?_ <;> first | rfl | (simp [keepT, AV.underL, AV.under, MB.under, underL_plain, under_plain, underL_append, plain_ints, plain_span, plain_ins, plain_prg, -List.map_take, -List.map_replicate, -List.map_set, plain_kids, plain_reC, rest_zero]; done) | (simp [keepT, AV.underL, AV.under, MB.under, underL_plain, under_plain, underL_append, plain_ints, plain_span, plain_ins, plain_prg, -List.map_take, -List.map_replicate, -List.map_set, plain_kids, plain_reC, rest_zero]; omega)))
  · exact (by first | rfl | (refine prep_to (n := 2) (m := ⟨some [6, 5, 2, 1], some 2, []⟩) rfl rfl ?_ ?_ ?_ <;> first | rfl | (simp [keepT, AV.underL, AV.under, MB.under, underL_plain, under_plain, underL_append, plain_ints, plain_span, plain_ins, plain_prg, -List.map_take, -List.map_replicate, -List.map_set, plain_kids, plain_reC, copiesG]; done) | (simp [keepT, AV.underL, AV.under, MB.under, underL_plain, under_plain, underL_append, plain_ints, plain_span, plain_ins, plain_prg, -List.map_take, -List.map_replicate, -List.map_set, plain_kids, plain_reC, copiesG]; omega)))
end
end Go.Ev
