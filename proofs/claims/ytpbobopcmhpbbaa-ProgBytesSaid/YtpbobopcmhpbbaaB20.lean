/- Functions of the program, each with what it computes; no further conditions. -/
import Derived.Test.YtpbobopcmhpbbaaB05
import Derived.Test.YtpbobopcmhpbbaaB09
import Derived.Test.YtpbobopcmhpbbaaB19
import Derived.Test.YtpbobopcmhpbbaaB17
import Derived.Test.YtpbobopcmhpbbaaB18
import Derived.Test.YtpbobopcmhpbbaaB14
import Derived.Test.YtpbobopcmhpbbaaB13
import Derived.Test.YtpbobopcmhpbbaaB10
import Derived.Test.YtpbobopcmhpbbaaB16
set_option linter.unusedVariables false
set_option linter.unusedSimpArgs false
namespace Go.Ev
open Go.Proofs Go.RowKit
theorem ext1 : ExtOk Try.prog pol1 := by
  intro f g hg args H r H' h
  have hf : (f = 92 ∧ g = cloneExt 2 16) ∨ (f = 49 ∧ g = ext49) := by
    by_cases e : f = 92
    · subst e
      have : pol1.ext 92 = some (cloneExt 2 16) := rfl
      rw [this] at hg
      exact .inl ⟨rfl, (Option.some.inj hg).symm⟩
    · by_cases e2 : f = 49
      · subst e2
        have : pol1.ext 49 = some ext49 := rfl
        rw [this] at hg
        exact .inr ⟨rfl, (Option.some.inj hg).symm⟩
      · have : pol1.ext f = none := by
          show (if f = 92 then some (cloneExt 2 16) else if f = 49 then some ext49 else none) = none
          rw [if_neg e, if_neg e2]
        rw [this] at hg
        cases hg
  rcases hf with ⟨rfl, rfl⟩ | ⟨rfl, rfl⟩
  · exact clone_sound (T := 23) (B := 4) (e := 86) (k := 2) (by_ := 16) (ze := .agg [.int .i64 0, .int .i64 0])
      Try.func92 rfl rfl rfl rfl (by kernel_rfl) (by kernel_rfl) (by omega) (by kernel_rfl) (by kernel_rfl) rfl rfl h
  · exact ext49_sound h
theorem follows1 : Try.prog.follows .mixedOrders = true := by kernel_rfl
theorem ok1 : CfOk Try.prog (call Try.prog pol1) := call_ok ext1 follows1
end Go.Ev
namespace Go.Ev
attribute [local go_sem] eq_self bindW_some bindW_map bindW_ite bindW_iteN W_seq W_region W_draw W_cond W_condK W_ret W_skip W_exit W_scope W_label blockK_norm blockK_ret blockK_exit WO_nil WO_cons WO_guard WD_nil WD_cons WD_guard guardV guardW_boolT guardW_boolF guardW_tup fpL_some fpL_none footprint thenK_norm thenK_ret thenK_exit put_some put_none ev_tmp ev_con ev_func ofK_int ofK_bool ofK_str ofK_nil evOp evBuiltin evCall evLen getElem_16 getElem_4 List.length_cons List.length_nil List.cons_append List.nil_append List.append_nil if_false if_true Bool.false_eq_true Bool.true_eq_false Option.map_some Option.map_none List.map_cons List.map_nil evBinOp evBin evUn asB_bool splitB_decide splitB_true splitB_false splitB_beq splitB_bne splitB_not endK_ret endK_norm List.getElem?_cons_zero List.getElem?_cons_succ evResults evResult packRes retK_norm retK_ret cellsAt mkVal evFieldAddr evField evIndexAddr evPart evStore evBuild evBuildSlice fillC fillE evSlice evMakeSlice evConvert getRow AV.cells List.head?_cons List.drop_zero List.drop_succ_cons List.take_zero List.take_succ_cons List.drop_nil List.take_nil List.all_cons List.all_nil AV.ok Bool.and_self Bool.and_true Bool.true_and and_self and_true true_and Nat.zero_add Nat.add_zero setCells splice pairsOk pairsX altW_none altW_some cfg_al WI_nil WI_cons FP.apart heapEq_refl sameAt_refl Bool.or_true Bool.true_or Bool.or_false srcElems elemsOf mutDst roundK_norm roundK_exit roundK_ret List.length_map List.getElem?_map Int.toNat_natCast decide_true decide_false Bool.not_true Bool.not_false List.set set_0 set_1 set_2 set_3 set_4 look_hit look lookD_hit lookD_cons lookD_nil ins_hit ins upd_hit upd rem1_hit rem1 dropT dropSt_eq initT cfg_dd cfg_bd cfg_ra actL_nil actL_cons act1 updT_hit updT frzB retE_norm retE_ret bndO bnd evEq eqCells not_false_eq_true not_true_eq_false toList_some Array.size_empty List.length_append List.map_append endE_norm endE_ret head_take1 List.contains_nil List.contains_cons Bool.or_self dlt_t dlt_f dle_t dle_f dgt_t dgt_f dge_t dge_f beq_t beq_f bne_t bne_f lt_T le_T nle_T nle_F Go.IntWalk.i64_in Go.IntWalk.i64_quo Go.IntWalk.rem_in ty0 ty3 ty4
section
attribute [local go_sem] W_block evAppend tySzE List.head?_drop Nat.mul_one sameAt_zero sameAt_two sameAt_three sameAt_four sameAt_five room_ok ty22 ty24 ty26 ty100
open Go.Proofs Go.RowKit Go.IntWalk
set_option maxRecDepth 100000
set_option linter.unusedSimpArgs false
set_option linter.unusedVariables false
set_option maxHeartbeats 8000000

theorem en49 (vs : Array Value) (w : World) : (callFunc 49 vs).run Try.prog w = .ok (.enter 49 vs) w := callFunc_enter Try.func49 rfl rfl vs w
abbrev Law49 (ins : List Int) (s : Value) (re : Re) : Prop :=
  ∀ I w vs, Val I w → SliceOk I w s ins → RepL I [] [.pt (reC re), pinOf s] vs → Calls Try.prog 49 vs w (fun e w' => e = .returned (.bool (compG ins re)) ∧ Fr (spOf s) w w')

theorem f49a (caps top : Int) : ∀ (N : Nat) (re : Re) (ins : List Int), re.wt ≤ N → re.wt ≤ 1000000 → ins.length + re.wt ≤ 2000000 → wholeG caps top re = true → ∀ s, Law49 ins s re
  | 0, r, _, h, _, _, _, _ => by have := r.wt_pos; omega
  | N + 1, .mk op set kids mn mx md n neg, ins, h, hN, hI, hw, s => by
    intro I w vs hv hs hr
    have hkl := Re.wtL_len kids
    have hwt : 1 + set.length + Re.wtL kids = (Re.mk op set kids mn mx md n neg).wt := by simp [Re.wt]
    obtain ⟨hwk, hkd, hrp, _, ho1, ho2⟩ := whole_facts hw
    have ih := fun k (hk : k ∈ kids) (ins' : List Int) (hi : ins'.length ≤ ins.length + 1) => f49a caps top N k ins' (by have := Re.wtL_mem hk; omega) (by have := Re.wtL_mem hk; omega) (by have := Re.wtL_mem hk; omega) (hwk k hk)
    have h105 := fun k (hk : k ∈ kids) => f105 k (by have := Re.wtL_mem hk; omega) caps top (hwk k hk)
    have h106 := f106 ins n (by omega)
    refine calls_of_wp Try.func49 rfl ?_
    rw [show reC (.mk op set kids mn mx md n neg) = nodeL op set kids mn mx md n neg from reC_mk] at hr
    have h0 : HSt I w (spOf s) 65 [(1, pinOf s), (0, .pt (nodeL op set kids mn mx md n neg))] _ w := HSt.init (m := 65) hv hs.has hr
    have hsp : ∀ k o, spOf s = some (k, o) → k < w.heap.size := fun k o e => by
      obtain ⟨cs, T, e⟩ := hs.has k o e
      exact (Array.getElem?_eq_some_iff.1 e).1
    have hpin := (hs.pin (J := I) (L := [])).2.1
    have hret : ∀ a' w', Fr (spOf s) w w' → a'.defers = [] → a'.tmps.getD 4 undef = .bool (compG ins (.mk op set kids mn mx md n neg)) → bodyPost Try.prog Try.f49 (fun e w' => e = .returned (.bool (compG ins (.mk op set kids mn mx md n neg))) ∧ Fr (spOf s) w w') .ret a' w' := by
      intro a' w' g1 g2 g3
      exact ⟨g2, _, by rw [results_one (d := 4) rfl, g3], rfl, g1⟩
    generalize bodyPost Try.prog Try.f49 (fun e w' => e = .returned (.bool (compG ins (.mk op set kids mn mx md n neg))) ∧ Fr (spOf s) w w') = Q at hret ⊢
    have hu1 : AV.underL 0 (set.map spanAV) = true := underL_plain 0 _ (plain_span set)
    have hu2 : AV.underL 0 (kids.map reAV) = true := underL_plain 0 _ (plain_kids kids)
    refine wp_seq_k fun K hK => ?_
    refine h0.W ok1 itL_ok follows1 hsp (mu := pol1.muts 49) (m := cfgOf pol1 49 0) ?_
    simp +contextual (disch := omega) only [Try.f49, dd49, go_sem, ↓reduceIte, List.reduceReplicate, Nat.reduceAdd, Nat.reduceSub, reduceCtorEq, Nat.reduceLeDiff, Nat.reduceMul, Nat.reduceLT, Nat.reduceEqDiff, Int.reduceBNe, Int.reduceBEq, Int.reduceEq, Int.reduceLT, Int.reduceLE, Int.reduceGT, Int.reduceGE, mu49, Nat.reduceBEq, ↓wrap_up, ↓wrap_down, ↓wrap_pred, ↓wrap_sub_nat, Int.reduceToNat, AV.underL, AV.under, hpin, hu1, hu2, exOf]
    refine fun a1 w1 h1 => hK _ _ ?_
    clear hK K
    refine wp_seq_k fun K hK => ?_
    have hrest : ∀ I1 w1 s1 ins1 a2 w2 t, SliceOk I1 w1 s1 ins1 → Fr (spOf s) w w1 → SpLe w.heap.size (spOf s) (spOf s1) → HSt I1 w1 (spOf s1) 65 t a2 w2 → List.Sublist [(1, pinOf s1), (0, .pt (nodeL op set kids mn mx md n neg))] t →
        ins1.length ≤ ins.length + 1 → compG ins (.mk op set kids mn mx md n neg) = compL ins1 kids → K a2 w2 := by
      intro I1 w1 s1 ins1 a2 w2 t hs1 hfr hle h2 hsub hlen hcomp
      refine hK a2 w2 ?_
      replace h2 := h2.sub hsub
      clear hK hsub
      have hsp1 : ∀ k o, spOf s1 = some (k, o) → k < w1.heap.size := fun k o e => by
        obtain ⟨cs, T, e⟩ := hs1.has k o e
        exact (Array.getElem?_eq_some_iff.1 e).1
      have hpin1 := (hs1.pin (J := I) (L := [])).2.1
      refine wp_seq_k fun K hK => ?_
      refine wp_seq_k fun K2 hK2 => ?_
      refine h2.W ok1 itL_ok follows1 hsp1 (mu := pol1.muts 49) (m := cfgOf pol1 49 0) ?_
      simp +contextual (disch := omega) only [Try.f49, dd49, go_sem, ↓reduceIte, List.reduceReplicate, Nat.reduceAdd, Nat.reduceSub, reduceCtorEq, Nat.reduceLeDiff, Nat.reduceMul, Nat.reduceLT, Nat.reduceEqDiff, Int.reduceBNe, Int.reduceBEq, Int.reduceEq, Int.reduceLT, Int.reduceLE, Int.reduceGT, Int.reduceGE, mu49, Nat.reduceBEq, ↓wrap_up, ↓wrap_down, ↓wrap_pred, ↓wrap_sub_nat, Int.reduceToNat, AV.underL, AV.under, hpin1, hu1, hu2, exOf]
      refine fun a3 w3 h3 => hK2 _ _ ?_
      clear hK2 K2
      refine wp_block ?_
      refine wp_loop_count (fun i a w => (∀ j k, j < i → kids[j]? = some k → compG ins1 k = true) ∧ HSt I1 w1 (spOf s1) 65 [(52, Go.Ev.I i), (51, Go.Ev.I kids.length), (1, pinOf s1), (0, .pt (nodeL op set kids mn mx md n neg))] a w) kids.length ?_ ?_ ⟨fun j k h => by omega, h3⟩
      · rintro i a4 w4 hi ⟨hall, h4⟩
        obtain ⟨k, hk⟩ : ∃ k, kids[i]? = some k := ⟨_, List.getElem?_eq_getElem hi⟩
        have hkm := List.mem_of_getElem? hk
        refine wp_seq_k fun K3 hK3 => ?_
        refine h4.W ok1 itL_ok follows1 hsp1 (mu := pol1.muts 49) (m := cfgOf pol1 49 0) ?_
        simp +contextual (disch := omega) only [Try.f49, dd49, go_sem, ↓reduceIte, List.reduceReplicate, Nat.reduceAdd, Nat.reduceSub, reduceCtorEq, Nat.reduceLeDiff, Nat.reduceMul, Nat.reduceLT, Nat.reduceEqDiff, Int.reduceBNe, Int.reduceBEq, Int.reduceEq, Int.reduceLT, Int.reduceLE, Int.reduceGT, Int.reduceGE, mu49, Nat.reduceBEq, ↓wrap_up, ↓wrap_down, ↓wrap_pred, ↓wrap_sub_nat, Int.reduceToNat, AV.underL, AV.under, hpin1, hu1, hu2, exOf]
        refine fun a5 w5 h5 => hK3 _ _ ?_
        clear hK3 K3
        refine wp_seq_k fun K3 hK3 => ?_
        refine h5.W ok1 itL_ok follows1 hsp1 (mu := pol1.muts 49) (m := cfgOf pol1 49 0) ?_
        simp +contextual (disch := omega) only [Try.f49, dd49, go_sem, ↓reduceIte, List.reduceReplicate, Nat.reduceAdd, Nat.reduceSub, reduceCtorEq, Nat.reduceLeDiff, Nat.reduceMul, Nat.reduceLT, Nat.reduceEqDiff, Int.reduceBNe, Int.reduceBEq, Int.reduceEq, Int.reduceLT, Int.reduceLE, Int.reduceGT, Int.reduceGE, mu49, Nat.reduceBEq, ↓wrap_up, ↓wrap_down, ↓wrap_pred, ↓wrap_sub_nat, Int.reduceToNat, AV.underL, AV.under, hpin1, hu1, hu2, exOf]
        refine fun a6 w6 h6 => hK3 _ _ ?_
        clear hK3 K3
        refine wp_seq_k fun K3 hK3 => ?_
        refine wp_block ?_
        refine wp_seq_k fun K4 hK4 => ?_
        refine h6.W ok1 itL_ok follows1 hsp1 (mu := pol1.muts 49) (m := cfgOf pol1 49 0) ?_
        simp +contextual (disch := omega) only [Try.f49, dd49, go_sem, ↓reduceIte, List.reduceReplicate, Nat.reduceAdd, Nat.reduceSub, reduceCtorEq, Nat.reduceLeDiff, Nat.reduceMul, Nat.reduceLT, Nat.reduceEqDiff, Int.reduceBNe, Int.reduceBEq, Int.reduceEq, Int.reduceLT, Int.reduceLE, Int.reduceGT, Int.reduceGE, mu49, Nat.reduceBEq, ↓wrap_up, ↓wrap_down, ↓wrap_pred, ↓wrap_sub_nat, Int.reduceToNat, AV.underL, AV.under, hpin1, hu1, hu2, exOf]
        refine fun a7 w7 h7 => hK4 _ _ ?_
        clear hK4 K4
        refine wp_seq_k fun K4 hK4 => ?_
        refine wp_region_list ?_
        refine h7.ops ok1 hsp1 (mu := pol1.muts 49) 7 ?_
        have hl8 := reC_len k
        simp +contextual (disch := omega) only [Try.f49, dd49, go_sem, ↓reduceIte, List.reduceReplicate, Nat.reduceAdd, Nat.reduceSub, reduceCtorEq, Nat.reduceLeDiff, Nat.reduceMul, Nat.reduceLT, Nat.reduceEqDiff, Int.reduceBNe, Int.reduceBEq, Int.reduceEq, Int.reduceLT, Int.reduceLE, Int.reduceGT, Int.reduceGE, mu49, Nat.reduceBEq, ↓wrap_up, ↓wrap_down, ↓wrap_pred, ↓wrap_sub_nat, Int.reduceToNat, AV.underL, AV.under, hpin1, hu1, hu2, exOf, hk, hl8]
        have huk : AV.underL 0 (reC k) = true := underL_plain 0 _ (plain_reC k)
        refine ⟨huk, fun a8 w8 h8 => ?_⟩
        refine h8.callB hs1 en49 (l := [.pt (reC k), pinOf s1]) rfl (ih k hkm ins1 hlen s1) (fun a9 w9 h9 => ?_)
        cases hck : compG ins1 k with
        | true =>
          rw [hck] at h9
          refine h9.ops ok1 hsp1 (mu := pol1.muts 49) 1 ?_
          simp +contextual (disch := omega) only [Try.f49, dd49, go_sem, ↓reduceIte, List.reduceReplicate, Nat.reduceAdd, Nat.reduceSub, reduceCtorEq, Nat.reduceLeDiff, Nat.reduceMul, Nat.reduceLT, Nat.reduceEqDiff, Int.reduceBNe, Int.reduceBEq, Int.reduceEq, Int.reduceLT, Int.reduceLE, Int.reduceGT, Int.reduceGE, mu49, Nat.reduceBEq, ↓wrap_up, ↓wrap_down, ↓wrap_pred, ↓wrap_sub_nat, Int.reduceToNat, AV.underL, AV.under, hpin1, hu1, hu2, huk, exOf, hk, hl8]
          refine fun a10 w10 h10 => hK4 _ _ ?_
          clear hK4 K4
          refine h10.W ok1 itL_ok follows1 hsp1 (mu := pol1.muts 49) (m := cfgOf pol1 49 0) ?_
          simp +contextual (disch := omega) only [Try.f49, dd49, go_sem, ↓reduceIte, List.reduceReplicate, Nat.reduceAdd, Nat.reduceSub, reduceCtorEq, Nat.reduceLeDiff, Nat.reduceMul, Nat.reduceLT, Nat.reduceEqDiff, Int.reduceBNe, Int.reduceBEq, Int.reduceEq, Int.reduceLT, Int.reduceLE, Int.reduceGT, Int.reduceGE, mu49, Nat.reduceBEq, ↓wrap_up, ↓wrap_down, ↓wrap_pred, ↓wrap_sub_nat, Int.reduceToNat, AV.underL, AV.under, hpin1, hu1, hu2, huk, exOf]
          refine fun a11 w11 h11 => hK3 _ _ ?_
          clear hK3 K3
          refine h11.W ok1 itL_ok follows1 hsp1 (mu := pol1.muts 49) (m := cfgOf pol1 49 0) ?_
          have hJ : ∀ (j : Nat) (k : Re), j < i + 1 → kids[j]? = some k → compG ins1 k = true := fun j k2 h1 h2 => by
            rcases Nat.lt_or_ge j i with h | h
            · exact hall j k2 h h2
            · obtain rfl : j = i := by omega
              rw [hk] at h2; obtain rfl := Option.some.inj h2
              exact hck
          generalize hJd : (∀ (j : Nat) (k : Re), j < i + 1 → kids[j]? = some k → compG ins1 k = true) = J at hJ ⊢
          simp +contextual (disch := omega) only [Try.f49, dd49, go_sem, ↓reduceIte, List.reduceReplicate, Nat.reduceAdd, Nat.reduceSub, reduceCtorEq, Nat.reduceLeDiff, Nat.reduceMul, Nat.reduceLT, Nat.reduceEqDiff, Int.reduceBNe, Int.reduceBEq, Int.reduceEq, Int.reduceLT, Int.reduceLE, Int.reduceGT, Int.reduceGE, mu49, Nat.reduceBEq, ↓wrap_up, ↓wrap_down, ↓wrap_pred, ↓wrap_sub_nat, Int.reduceToNat, AV.underL, AV.under, hpin1, hu1, hu2, huk, exOf]
          exact fun a12 w12 h12 => ⟨hJ, h12.sub (by iterate 9 refine .cons _ ?_
                                                    exact .cons_cons _ (.cons_cons _ (.cons _ (.refl _))))⟩
        | false =>
          rw [hck] at h9
          refine h9.ops ok1 hsp1 (mu := pol1.muts 49) 1 ?_
          simp +contextual (disch := omega) only [Try.f49, dd49, go_sem, ↓reduceIte, List.reduceReplicate, Nat.reduceAdd, Nat.reduceSub, reduceCtorEq, Nat.reduceLeDiff, Nat.reduceMul, Nat.reduceLT, Nat.reduceEqDiff, Int.reduceBNe, Int.reduceBEq, Int.reduceEq, Int.reduceLT, Int.reduceLE, Int.reduceGT, Int.reduceGE, mu49, Nat.reduceBEq, ↓wrap_up, ↓wrap_down, ↓wrap_pred, ↓wrap_sub_nat, Int.reduceToNat, AV.underL, AV.under, hpin1, hu1, hu2, huk, exOf, hk, hl8]
          refine fun a10 w10 h10 => hK4 _ _ ?_
          clear hK4 K4
          refine h10.W ok1 itL_ok follows1 hsp1 (mu := pol1.muts 49) (m := cfgOf pol1 49 0) ?_
          simp +contextual (disch := omega) only [Try.f49, dd49, go_sem, ↓reduceIte, List.reduceReplicate, Nat.reduceAdd, Nat.reduceSub, reduceCtorEq, Nat.reduceLeDiff, Nat.reduceMul, Nat.reduceLT, Nat.reduceEqDiff, Int.reduceBNe, Int.reduceBEq, Int.reduceEq, Int.reduceLT, Int.reduceLE, Int.reduceGT, Int.reduceGE, mu49, Nat.reduceBEq, ↓wrap_up, ↓wrap_down, ↓wrap_pred, ↓wrap_sub_nat, Int.reduceToNat, AV.underL, AV.under, hpin1, hu1, hu2, huk, exOf]
          refine fun a11 w11 h11 => ?_
          obtain ⟨g1, g2, g3⟩ := h11.done (d := 4) rfl
          exact hret a11 w11 (hfr.thenS g1 hle) g2 (by rw [g3, hcomp, compL_false hkm hck])
      · rintro a4 w4 ⟨hall, h4⟩
        refine wp_seq_k fun K3 hK3 => ?_
        refine h4.W ok1 itL_ok follows1 hsp1 (mu := pol1.muts 49) (m := cfgOf pol1 49 0) ?_
        simp +contextual (disch := omega) only [Try.f49, dd49, go_sem, ↓reduceIte, List.reduceReplicate, Nat.reduceAdd, Nat.reduceSub, reduceCtorEq, Nat.reduceLeDiff, Nat.reduceMul, Nat.reduceLT, Nat.reduceEqDiff, Int.reduceBNe, Int.reduceBEq, Int.reduceEq, Int.reduceLT, Int.reduceLE, Int.reduceGT, Int.reduceGE, mu49, Nat.reduceBEq, ↓wrap_up, ↓wrap_down, ↓wrap_pred, ↓wrap_sub_nat, Int.reduceToNat, AV.underL, AV.under, hpin1, hu1, hu2, exOf]
        refine fun a5 w5 h5 => hK3 _ _ ?_
        clear hK3 K3
        refine wp_seq_k fun K3 hK3 => ?_
        refine h5.W ok1 itL_ok follows1 hsp1 (mu := pol1.muts 49) (m := cfgOf pol1 49 0) ?_
        simp +contextual (disch := omega) only [Try.f49, dd49, go_sem, ↓reduceIte, List.reduceReplicate, Nat.reduceAdd, Nat.reduceSub, reduceCtorEq, Nat.reduceLeDiff, Nat.reduceMul, Nat.reduceLT, Nat.reduceEqDiff, Int.reduceBNe, Int.reduceBEq, Int.reduceEq, Int.reduceLT, Int.reduceLE, Int.reduceGT, Int.reduceGE, mu49, Nat.reduceBEq, ↓wrap_up, ↓wrap_down, ↓wrap_pred, ↓wrap_sub_nat, Int.reduceToNat, AV.underL, AV.under, hpin1, hu1, hu2, exOf]
        refine fun a6 w6 h6 => hK _ _ ?_
        clear hK3 K3 hK
        refine h6.W ok1 itL_ok follows1 hsp1 (mu := pol1.muts 49) (m := cfgOf pol1 49 0) ?_
        simp +contextual (disch := omega) only [Try.f49, dd49, go_sem, ↓reduceIte, List.reduceReplicate, Nat.reduceAdd, Nat.reduceSub, reduceCtorEq, Nat.reduceLeDiff, Nat.reduceMul, Nat.reduceLT, Nat.reduceEqDiff, Int.reduceBNe, Int.reduceBEq, Int.reduceEq, Int.reduceLT, Int.reduceLE, Int.reduceGT, Int.reduceGE, mu49, Nat.reduceBEq, ↓wrap_up, ↓wrap_down, ↓wrap_pred, ↓wrap_sub_nat, Int.reduceToNat, AV.underL, AV.under, hpin1, hu1, hu2, exOf]
        refine fun a7 w7 h7 => ?_
        obtain ⟨g1, g2, g3⟩ := h7.done (d := 4) rfl
        exact hret a7 w7 (hfr.thenS g1 hle) g2 (by rw [g3, hcomp, compL_true (fun i k h1 h2 => hall i k h1 h2)])
    clear hK
    refine wp_seq_k fun K2 hK2 => ?_
    refine h1.W ok1 itL_ok follows1 hsp (mu := pol1.muts 49) (m := cfgOf pol1 49 0) ?_
    simp +contextual (disch := omega) only [Try.f49, dd49, go_sem, ↓reduceIte, List.reduceReplicate, Nat.reduceAdd, Nat.reduceSub, reduceCtorEq, Nat.reduceLeDiff, Nat.reduceMul, Nat.reduceLT, Nat.reduceEqDiff, Int.reduceBNe, Int.reduceBEq, Int.reduceEq, Int.reduceLT, Int.reduceLE, Int.reduceGT, Int.reduceGE, mu49, Nat.reduceBEq, ↓wrap_up, ↓wrap_down, ↓wrap_pred, ↓wrap_sub_nat, Int.reduceToNat, AV.underL, AV.under, hpin, hu1, hu2, exOf]
    refine fun a2 w2 h2 => hK2 _ _ ?_
    clear hK2 K2
    refine wp_block ?_
    by_cases h5 : op = 5
    · subst h5
      refine wp_seq_k fun K2 hK2 => ?_
      refine h2.W ok1 itL_ok follows1 hsp (mu := pol1.muts 49) (m := cfgOf pol1 49 0) ?_
      simp +contextual (disch := omega) only [Try.f49, dd49, go_sem, ↓reduceIte, List.reduceReplicate, Nat.reduceAdd, Nat.reduceSub, reduceCtorEq, Nat.reduceLeDiff, Nat.reduceMul, Nat.reduceLT, Nat.reduceEqDiff, Int.reduceBNe, Int.reduceBEq, Int.reduceEq, Int.reduceLT, Int.reduceLE, Int.reduceGT, Int.reduceGE, mu49, Nat.reduceBEq, ↓wrap_up, ↓wrap_down, ↓wrap_pred, ↓wrap_sub_nat, Int.reduceToNat, AV.underL, AV.under, hpin, hu1, hu2, exOf]
      refine fun a3 w3 h3 => hK2 _ _ ?_
      clear hK2 K2
      refine h3.cond (b := false) rfl ?_
      rw [if_neg Bool.false_ne_true]
      refine wp_seq_k fun K2 hK2 => ?_
      refine h3.W ok1 itL_ok follows1 hsp (mu := pol1.muts 49) (m := cfgOf pol1 49 0) ?_
      simp +contextual (disch := omega) only [Try.f49, dd49, go_sem, ↓reduceIte, List.reduceReplicate, Nat.reduceAdd, Nat.reduceSub, reduceCtorEq, Nat.reduceLeDiff, Nat.reduceMul, Nat.reduceLT, Nat.reduceEqDiff, Int.reduceBNe, Int.reduceBEq, Int.reduceEq, Int.reduceLT, Int.reduceLE, Int.reduceGT, Int.reduceGE, mu49, Nat.reduceBEq, ↓wrap_up, ↓wrap_down, ↓wrap_pred, ↓wrap_sub_nat, Int.reduceToNat, AV.underL, AV.under, hpin, hu1, hu2, exOf]
      refine fun a4 w4 h4 => hK2 _ _ ?_
      clear hK2 K2
      refine h4.cond (b := false) rfl ?_
      rw [if_neg Bool.false_ne_true]
      refine wp_seq_k fun K2 hK2 => ?_
      refine h4.W ok1 itL_ok follows1 hsp (mu := pol1.muts 49) (m := cfgOf pol1 49 0) ?_
      simp +contextual (disch := omega) only [Try.f49, dd49, go_sem, ↓reduceIte, List.reduceReplicate, Nat.reduceAdd, Nat.reduceSub, reduceCtorEq, Nat.reduceLeDiff, Nat.reduceMul, Nat.reduceLT, Nat.reduceEqDiff, Int.reduceBNe, Int.reduceBEq, Int.reduceEq, Int.reduceLT, Int.reduceLE, Int.reduceGT, Int.reduceGE, mu49, Nat.reduceBEq, ↓wrap_up, ↓wrap_down, ↓wrap_pred, ↓wrap_sub_nat, Int.reduceToNat, AV.underL, AV.under, hpin, hu1, hu2, exOf]
      refine fun a5 w5 h5 => hK2 _ _ ?_
      clear hK2 K2
      refine h5.cond (b := true) rfl ?_
      rw [if_pos rfl]
      refine wp_seq_k fun K2 hK2 => ?_
      refine wp_seq_k fun K3 hK3 => ?_
      refine wp_region_list ?_
      refine h5.ops ok1 hsp (mu := pol1.muts 49) 1 ?_
      simp +contextual (disch := omega) only [Try.f49, dd49, go_sem, ↓reduceIte, List.reduceReplicate, Nat.reduceAdd, Nat.reduceSub, reduceCtorEq, Nat.reduceLeDiff, Nat.reduceMul, Nat.reduceLT, Nat.reduceEqDiff, Int.reduceBNe, Int.reduceBEq, Int.reduceEq, Int.reduceLT, Int.reduceLE, Int.reduceGT, Int.reduceGE, mu49, Nat.reduceBEq, ↓wrap_up, ↓wrap_down, ↓wrap_pred, ↓wrap_sub_nat, Int.reduceToNat, AV.underL, AV.under, hpin, hu1, hu2, exOf]
      refine fun a6 w6 h6 => ?_
      have h6' : HSt I w (spOf s) 65 [(34, .sl false (ins.map Go.Ev.I)), (32, .bool true), (1, pinOf s), (0, .pt (nodeL 5 set kids mn mx md n neg))] a6 w6 := h6.seen hs (d := 34) rfl
      clear h6
      have hu3 : AV.underL 0 (ins.map Go.Ev.I) = true := underL_plain 0 _ (plain_ints ins)
      refine h6'.ops ok1 hsp (mu := pol1.muts 49) 5 ?_
      by_cases hm : n ∈ ins
      · rw [decide_eq_true hm] at h106
        simp +contextual (disch := omega) only [Try.f49, dd49, go_sem, ↓reduceIte, List.reduceReplicate, Nat.reduceAdd, Nat.reduceSub, reduceCtorEq, Nat.reduceLeDiff, Nat.reduceMul, Nat.reduceLT, Nat.reduceEqDiff, Int.reduceBNe, Int.reduceBEq, Int.reduceEq, Int.reduceLT, Int.reduceLE, Int.reduceGT, Int.reduceGE, mu49, Nat.reduceBEq, ↓wrap_up, ↓wrap_down, ↓wrap_pred, ↓wrap_sub_nat, Int.reduceToNat, AV.underL, AV.under, hpin, hu1, hu2, hu3, h106, exOf]
        refine fun a7 w7 h7 => hK3 _ _ ?_
        clear hK3 K3
        refine h7.W ok1 itL_ok follows1 hsp (mu := pol1.muts 49) (m := cfgOf pol1 49 0) ?_
        simp +contextual (disch := omega) only [Try.f49, dd49, go_sem, ↓reduceIte, List.reduceReplicate, Nat.reduceAdd, Nat.reduceSub, reduceCtorEq, Nat.reduceLeDiff, Nat.reduceMul, Nat.reduceLT, Nat.reduceEqDiff, Int.reduceBNe, Int.reduceBEq, Int.reduceEq, Int.reduceLT, Int.reduceLE, Int.reduceGT, Int.reduceGE, mu49, Nat.reduceBEq, ↓wrap_up, ↓wrap_down, ↓wrap_pred, ↓wrap_sub_nat, Int.reduceToNat, AV.underL, AV.under, hpin, hu1, hu2, hu3, exOf]
        refine fun a8 w8 h8 => ?_
        obtain ⟨g1, g2, g3⟩ := h8.done (d := 4) rfl
        exact hret a8 w8 g1 g2 (by rw [g3, compG, if_neg (by omega), if_pos rfl, if_pos hm])
      · rw [decide_eq_false hm] at h106
        simp +contextual (disch := omega) only [Try.f49, dd49, go_sem, ↓reduceIte, List.reduceReplicate, Nat.reduceAdd, Nat.reduceSub, reduceCtorEq, Nat.reduceLeDiff, Nat.reduceMul, Nat.reduceLT, Nat.reduceEqDiff, Int.reduceBNe, Int.reduceBEq, Int.reduceEq, Int.reduceLT, Int.reduceLE, Int.reduceGT, Int.reduceGE, mu49, Nat.reduceBEq, ↓wrap_up, ↓wrap_down, ↓wrap_pred, ↓wrap_sub_nat, Int.reduceToNat, AV.underL, AV.under, hpin, hu1, hu2, hu3, h106, exOf]
        refine fun a7 w7 h7 => hK3 _ _ ?_
        clear hK3 K3
        refine h7.W ok1 itL_ok follows1 hsp (mu := pol1.muts 49) (m := cfgOf pol1 49 0) ?_
        simp +contextual (disch := omega) only [Try.f49, dd49, go_sem, ↓reduceIte, List.reduceReplicate, Nat.reduceAdd, Nat.reduceSub, reduceCtorEq, Nat.reduceLeDiff, Nat.reduceMul, Nat.reduceLT, Nat.reduceEqDiff, Int.reduceBNe, Int.reduceBEq, Int.reduceEq, Int.reduceLT, Int.reduceLE, Int.reduceGT, Int.reduceGE, mu49, Nat.reduceBEq, ↓wrap_up, ↓wrap_down, ↓wrap_pred, ↓wrap_sub_nat, Int.reduceToNat, AV.underL, AV.under, hpin, hu1, hu2, hu3, exOf]
        refine fun a8 w8 h8 => hK2 _ _ ?_
        clear hK2 K2
        refine wp_region_list ?_
        refine h8.ops ok1 hsp (mu := pol1.muts 49) 6 ?_
        simp +contextual (disch := omega) only [Try.f49, dd49, go_sem, ↓reduceIte, List.reduceReplicate, Nat.reduceAdd, Nat.reduceSub, reduceCtorEq, Nat.reduceLeDiff, Nat.reduceMul, Nat.reduceLT, Nat.reduceEqDiff, Int.reduceBNe, Int.reduceBEq, Int.reduceEq, Int.reduceLT, Int.reduceLE, Int.reduceGT, Int.reduceGE, mu49, Nat.reduceBEq, ↓wrap_up, ↓wrap_down, ↓wrap_pred, ↓wrap_sub_nat, Int.reduceToNat, AV.underL, AV.under, hpin, hu1, hu2, hu3, exOf]
        refine fun a9 w9 h9 => ?_
        refine h9.append1 (e := 3) (by_ := 8) (ze := .int .i64 0) (tt := true) (m := n) (by kernel_rfl) (by kernel_rfl) (by kernel_rfl) (by kernel_rfl) (by kernel_rfl) rfl hs rfl rfl (room_ok (by omega) (by omega)) ?_
        intro I1 w1 u a10 hs1 hfr hle hgr h10
        have hpin1 := (hs1.pin (J := I) (L := [])).2.1
        have hsp1 : ∀ k o, spOf u = some (k, o) → k < w1.heap.size := fun k o e => by
          obtain ⟨cs, T, e⟩ := hs1.has k o e
          exact (Array.getElem?_eq_some_iff.1 e).1
        refine h10.ops ok1 hsp1 (mu := pol1.muts 49) 1 ?_
        simp +contextual (disch := omega) only [Try.f49, dd49, go_sem, ↓reduceIte, List.reduceReplicate, Nat.reduceAdd, Nat.reduceSub, reduceCtorEq, Nat.reduceLeDiff, Nat.reduceMul, Nat.reduceLT, Nat.reduceEqDiff, Int.reduceBNe, Int.reduceBEq, Int.reduceEq, Int.reduceLT, Int.reduceLE, Int.reduceGT, Int.reduceGE, mu49, Nat.reduceBEq, ↓wrap_up, ↓wrap_down, ↓wrap_pred, ↓wrap_sub_nat, Int.reduceToNat, AV.underL, AV.under, hpin, hpin1, hu1, hu2, hu3, exOf]
        refine fun a11 w11 h11 => hrest I1 w1 u (ins ++ [n]) a11 w11 _ hs1 hfr hle h11 ?_ (by simp) (by rw [compG, if_neg (by omega), if_pos rfl, if_neg hm])
        iterate 14 refine .cons _ ?_
        exact .refl _
    · have hgo : ¬(op = 4 ∧ (md = 2 ∨ nullHd kids = true)) → ¬(5 < op ∧ op ≠ 11) → ∀ t, List.Sublist [(1, pinOf s), (0, AV.pt (nodeL op set kids mn mx md n neg))] t → ∀ a' w', HSt I w (spOf s) 65 t a' w' → K a' w' := fun e1 e2 t ht a' w' h =>
        hrest I w s ins a' w' t hs (.refl hs.has) (SpLe.self _ _) h ht (by omega) (by rw [compG, if_neg e1, if_neg h5, if_neg e2])
      have hno : (op = 4 ∧ (md = 2 ∨ nullHd kids = true)) ∨ (5 < op ∧ op ≠ 11) → ∀ t, look t 4 = some (.bool false) → ∀ a' w', HSt I w (spOf s) 65 t a' w' → Q .ret a' w' := fun e t ht a' w' h => by
        obtain ⟨g1, g2, g3⟩ := h.done ht
        refine hret a' w' g1 g2 ?_
        rw [g3, compG]
        rcases e with e | e
        · rw [if_pos e]
        · rw [if_neg (by omega), if_neg h5, if_pos e]
      have sub1 : ∀ x y : Nat × AV, List.Sublist [(1, pinOf s), (0, AV.pt (nodeL op set kids mn mx md n neg))] [x, y, (1, pinOf s), (0, .pt (nodeL op set kids mn mx md n neg))] := fun x y => .cons _ (.cons _ (.refl _))
      by_cases h4 : op = 4
      · subst h4
        have hk1 : kids.length = 1 := by simpa [kidsG] using hkd
        match kids, hk1 with
        | [k], _ =>
          have h105k := h105 k (List.mem_singleton.2 rfl)
          have hl8 := reC_len k
          have ht8 := reC_take k
          cases hn : nullG k with
          | true =>
            rw [hn] at h105k
            have hnn : nullHd [k] = true := hn
            refine h2.W ok1 itL_ok follows1 hsp (mu := pol1.muts 49) (m := cfgOf pol1 49 0) ?_
            simp +contextual (disch := omega) only [Try.f49, dd49, go_sem, ↓reduceIte, List.reduceReplicate, Nat.reduceAdd, Nat.reduceSub, reduceCtorEq, Nat.reduceLeDiff, Nat.reduceMul, Nat.reduceLT, Nat.reduceEqDiff, Int.reduceBNe, Int.reduceBEq, Int.reduceEq, Int.reduceLT, Int.reduceLE, Int.reduceGT, Int.reduceGE, mu49, Nat.reduceBEq, ↓wrap_up, ↓wrap_down, ↓wrap_pred, ↓wrap_sub_nat, Int.reduceToNat, AV.underL, AV.under, hpin, hu1, hu2, exOf, h105k, hl8, ht8]
            exact ⟨fun _ => hno (.inl ⟨rfl, .inr hnn⟩) _ rfl, fun _ => hno (.inl ⟨rfl, .inr hnn⟩) _ rfl⟩
          | false =>
            rw [hn] at h105k
            have hnn : ¬ nullHd [k] = true := by rw [show nullHd [k] = false from hn]; exact Bool.false_ne_true
            refine h2.W ok1 itL_ok follows1 hsp (mu := pol1.muts 49) (m := cfgOf pol1 49 0) ?_
            simp +contextual (disch := omega) only [Try.f49, dd49, go_sem, ↓reduceIte, List.reduceReplicate, Nat.reduceAdd, Nat.reduceSub, reduceCtorEq, Nat.reduceLeDiff, Nat.reduceMul, Nat.reduceLT, Nat.reduceEqDiff, Int.reduceBNe, Int.reduceBEq, Int.reduceEq, Int.reduceLT, Int.reduceLE, Int.reduceGT, Int.reduceGE, mu49, Nat.reduceBEq, ↓wrap_up, ↓wrap_down, ↓wrap_pred, ↓wrap_sub_nat, Int.reduceToNat, AV.underL, AV.under, hpin, hu1, hu2, exOf, h105k, hl8, ht8]
            refine ⟨fun e => hno (.inl ⟨rfl, .inl e⟩) _ rfl, fun e => ⟨underL_plain 0 _ (plain_reC k), hgo (fun h => h.2.elim e hnn) (by omega) _ (.cons _ (.refl _))⟩⟩
      · refine h2.W ok1 itL_ok follows1 hsp (mu := pol1.muts 49) (m := cfgOf pol1 49 0) ?_
        simp +contextual (disch := omega) only [Try.f49, dd49, go_sem, ↓reduceIte, List.reduceReplicate, Nat.reduceAdd, Nat.reduceSub, reduceCtorEq, Nat.reduceLeDiff, Nat.reduceMul, Nat.reduceLT, Nat.reduceEqDiff, Int.reduceBNe, Int.reduceBEq, Int.reduceEq, Int.reduceLT, Int.reduceLE, Int.reduceGT, Int.reduceGE, mu49, Nat.reduceBEq, ↓wrap_up, ↓wrap_down, ↓wrap_pred, ↓wrap_sub_nat, Int.reduceToNat, AV.underL, AV.under, hpin, hu1, hu2, exOf, h4, h5]
        have sub1 : ∀ x y : Nat × AV, List.Sublist [(1, pinOf s), (0, AV.pt (nodeL op set kids mn mx md n neg))] [x, y, (1, pinOf s), (0, .pt (nodeL op set kids mn mx md n neg))] := fun x y => .cons _ (.cons _ (.refl _))
        refine ⟨fun e => ?_, fun e0 => ⟨fun e => ?_, fun e1 => ⟨fun e => ?_, fun e11 => ⟨fun e => ?_, fun e2 => ⟨fun e => ?_, fun e3 => hno (.inr ⟨by omega, e11⟩) _ rfl⟩⟩⟩⟩⟩
        all_goals subst e; exact hgo (by omega) (by omega) _ (.cons _ (.cons _ (.refl _)))

theorem sound49 (caps top : Int) (re : Re) (hN : re.wt ≤ 1000000) (hw : wholeG caps top re = true) : CallSound Try.prog 49 [.pt (reC re), .sl true []] [] (.bool (compG [] re)) [] := by
  refine ⟨en49, fun B0 w0 w I L vs hi hus => ?_⟩
  have hL : L = [] := List.length_eq_zero_iff.1 hi.len
  subst hL
  have h0 := hus.2 0 _ rfl
  have h1 := hus.2 1 _ rfl
  generalize hs : vs.getD 1 undef = s at h1
  have hsl : SliceOk I w s [] ∧ spOf s = none := by
    cases h1 with
    | nilsl t => exact ⟨.inl ⟨rfl, rfl⟩, rfl⟩
    | sl t xs b o c k f hc ht hk hI hR =>
      have : c = 0 := ht rfl
      subst this
      exact ⟨.inr ⟨b, o, 0, rfl, Nat.le_refl _, fun h => absurd h (by simp), fun i x h => by simp at h, fun h => absurd h (by simp)⟩, rfl⟩
  obtain ⟨hs1, hs2⟩ := hsl
  have hr : RepL I [] [.pt (reC re), pinOf s] vs := by
    refine ⟨hus.1, fun i y hy => ?_⟩
    match i, hy with
    | 0, hy => simp at hy; subst hy; exact h0
    | 1, hy => simp at hy; subst hy; rw [hs]; exact (hs1.pin (J := I) (L := [])).1
  refine (f49a caps top re.wt re [] (Nat.le_refl _) hN (by simp; omega) hw s I w vs hi.imm hs1 hr).mono ?_
  rintro e w' ⟨rfl, hf⟩
  have hv := hf.val hs1.free hi.imm
  rw [hs2] at hf
  refine ⟨.bool _, I, [], rfl, ⟨hi.below.trans ⟨hf.os, hf.tape, hf.output, hf.size, fun k hk => hf.same k (Nat.lt_of_lt_of_le hk hi.base) (fun o h => by cases h)⟩, Nat.le_trans hi.base hf.size, rfl, fun _ _ _ h => by simp at h, fun _ _ _ _ h => by simp at h, hv, hi.old⟩, .refl _ _, .bool _⟩
theorem f49 (caps top : Int) (re : Re) (hN : re.wt ≤ 1000000) (hw : wholeG caps top re = true) (H : List MB) : call Try.prog pol1 49 [.pt (reC re), .sl true []] H = some (.bool (compG [] re), H) := by
  have he := ext49_eq (sound49 caps top re hN hw)
  have hfz : frzArgs pol1 49 0 [.pt (reC re), .sl true []] H = some ([.pt (reC re), .sl true []], H) := frzArgs_mix H _ 0 (by
    have : AV.plain (.pt (reC re)) = true := by simp [AV.plain, plain_reC]
    simp only [mixOk, this, Bool.or_true, Bool.true_and]; rfl)
  have hu : AV.underL 0 [.pt (reC re), .sl true []] = true := by simp [AV.underL, AV.under, underL_plain, plain_reC]
  rw [call_eq]
  unfold evStep
  rw [if_pos (show pol1.pure 49 = true from rfl), hfz]
  simp only [hu, if_true]
  unfold evBody
  rw [show pol1.ext 49 = some ext49 from rfl]
  simp only [he]
  rfl
end
section
attribute [local go_sem] W_block tySzE List.head?_drop Nat.mul_one sameAt_zero sameAt_two sameAt_three sameAt_four sameAt_five room_ok ty28 ty33 ty35 ty36 ty104
open Go.Proofs Go.RowKit Go.IntWalk
set_option maxRecDepth 100000
set_option linter.unusedSimpArgs false
set_option linter.unusedVariables false
set_option maxHeartbeats 8000000

theorem f14 (p : Pat) (hw : p.re.wt ≤ 1000000) (H : List MB) : call Try.prog pol1 14 [patAV p] H = some (.tup [prgAV (compP p).1, I (compP p).2], H) := by
  have h48 := f48 p hw
  obtain ⟨re, caps, runes⟩ := p
  simp only at hw
  have hl8 := reC_len re
  have hpl := plain_patC ⟨re, caps, runes⟩
  have hget8 : (reC re ++ [I caps, .bool runes])[8]? = some (I caps) := by rw [List.getElem?_append_right (by omega), hl8]; rfl
  have hget9 : (reC re ++ [I caps, .bool runes])[9]? = some (.bool runes) := by rw [List.getElem?_append_right (by omega), hl8]; rfl
  have hdr : ∀ l, (reC re ++ l).drop 8 = l := fun l => by rw [List.drop_append_of_le_length (by omega), List.drop_of_length_le (by omega)]; rfl
  have hdr9 : (reC re ++ [I caps, .bool runes]).drop 9 = [.bool runes] := by rw [show (9 : Nat) = 8 + 1 from rfl, ← List.drop_drop, hdr]; rfl
  have htk8 : ∀ l, List.take 8 (reC re ++ l) = reC re := fun l => by
    rw [List.take_append_of_le_length (by omega)]; exact List.take_of_length_le (by omega)
  have hall := reC_ok re
  have hz : ∀ b, fz (.rf 0 1 0 0) [.row 10 [.agg (reC re ++ [I caps, .bool runes])] 0, b] = some (.pt (reC re ++ [I caps, .bool runes]), [.row 10 [.agg (reC re ++ [I caps, .bool runes])] 1, b]) := fun b =>
    fz_rf (x := .agg (reC re ++ [I caps, .bool runes])) (k := 10) (z := 0) rfl rfl rfl hpl
  have ht10 : List.take 10 (patC ⟨re, caps, runes⟩) = patC ⟨re, caps, runes⟩ := List.take_of_length_le (by simp [hl8])
  have hlen : (reC re).length + (0 + 1 + 1) = 10 := by omega
  have hpl2 : ∀ x : Prg × Int, AV.plain (.tup [prgAV x.1, I x.2]) = true := fun x => by simp [AV.plain, AV.plainL, plain_ins]
  refine call_run Try.func14 rfl rfl rfl rfl rfl rfl (fun _ => rfl) (by simp [AV.plainL, AV.plain]; exact plain_patC _) (hpl2 _) ?_ H
  unfold compP
  by_cases hv : validP ⟨re, caps, runes⟩ = 0
  · rw [if_pos hv]
    obtain ⟨hsz, hdp, hc0, hc9, hwg⟩ := valid_facts hv
    simp only at hc0 hc9 hwg
    rw [hv] at h48
    have h49 := f49 _ _ re hw hwg
    have h50 := f50 _ _ re.wt re (Nat.le_refl _) hw hwg
    cases hc : compG [] re with
    | false =>
      rw [hc] at h49
      rw [if_neg Bool.false_ne_true]
      simp +contextual (disch := omega) only [Try.f14, dd14, go_sem, ↓reduceIte, evAppend, List.reduceReplicate, Nat.reduceAdd, Nat.reduceSub, reduceCtorEq, Nat.reduceLeDiff, Nat.reduceMul, Nat.reduceLT, Nat.reduceEqDiff, Int.reduceBNe, Int.reduceBEq, Int.reduceEq, Int.reduceLT, Int.reduceLE, Int.reduceGT, Int.reduceGE, mu14, Nat.reduceBEq, ↓wrap_up, ↓wrap_down, ↓wrap_pred, ↓wrap_sub_nat, Int.reduceToNat, h48, h49, hz, ht10, hl8, hlen, hget8, hget9, hall, htk8, List.all_append, lookD, look]
      exact ⟨_, rfl⟩
    | true =>
      rw [hc] at h49
      rw [if_pos rfl]
      by_cases hL : lenG re + 1 ≤ 8192
      · rw [if_pos hL]
        have hg : GoodC caps (topI runes) re := ⟨hwg, codable_of re [] hc⟩
        have h51 := f51 caps (topI runes) (by omega) re hw hg (by omega)
        have hlc := codeG_len caps (topI runes) re 0 hg
        rw [Nat.min_eq_left (by omega)] at h50
        generalize codeG re 0 = C at *
        have hap := fun b0 b1 x => app_oneP (H := [b0, b1, .row 5 (C.map insAV) 0]) (i := 2) (n := lenG re) (t := true) (y := .agg [I 0, I 0, I 0, I 0, .sl true x]) rfl (by rw [List.length_map]; exact hlc) rfl (Nat.zero_le _) (by omega)
        simp +contextual (disch := omega) only [Try.f14, dd14, go_sem, ↓reduceIte, List.reduceReplicate, Nat.reduceAdd, Nat.reduceSub, reduceCtorEq, Nat.reduceLeDiff, Nat.reduceMul, Nat.reduceLT, Nat.reduceEqDiff, Int.reduceBNe, Int.reduceBEq, Int.reduceEq, Int.reduceLT, Int.reduceLE, Int.reduceGT, Int.reduceGE, mu14, Nat.reduceBEq, ↓wrap_up, ↓wrap_down, ↓wrap_pred, ↓wrap_sub_nat, Int.reduceToNat, h48, h49, h50, h51, hz, ht10, hl8, hlen, hget8, hget9, hall, htk8, hap, List.all_append, lookD, look]
        repeat' (first | intro _ | apply And.intro | (unfold dOk; kernel_rfl) | exact St.beq_refl _ | (show altO _ _ _ _ = true; kernel_rfl) | (show (_ || _) = true; kernel_rfl) | (show (_ && _) = true; kernel_rfl))
        have hk : ∀ j H, fzL j (C.map insAV ++ [.agg [I 0, I 0, I 0, I 0, .sl true []]]) H = some ((C ++ [(⟨0, 0, 0, 0, []⟩ : Ins)]).map insAV, H) := fun j H => by
          rw [List.map_append]
          exact ((keep_ins C).append (.one fun H => rfl)).fz H
        exact fin_prg caps runes (by simp [hlc]) hk rfl
      · rw [if_neg hL]
        simp +contextual (disch := omega) only [Try.f14, dd14, go_sem, ↓reduceIte, evAppend, List.reduceReplicate, Nat.reduceAdd, Nat.reduceSub, reduceCtorEq, Nat.reduceLeDiff, Nat.reduceMul, Nat.reduceLT, Nat.reduceEqDiff, Int.reduceBNe, Int.reduceBEq, Int.reduceEq, Int.reduceLT, Int.reduceLE, Int.reduceGT, Int.reduceGE, mu14, Nat.reduceBEq, ↓wrap_up, ↓wrap_down, ↓wrap_pred, ↓wrap_sub_nat, Int.reduceToNat, h48, h49, h50, hz, ht10, hl8, hlen, hget8, hget9, hall, htk8, List.all_append, lookD, look]
        exact ⟨_, rfl⟩
  · rw [if_neg hv]
    simp +contextual (disch := omega) only [Try.f14, dd14, go_sem, ↓reduceIte, evAppend, List.reduceReplicate, Nat.reduceAdd, Nat.reduceSub, reduceCtorEq, Nat.reduceLeDiff, Nat.reduceMul, Nat.reduceLT, Nat.reduceEqDiff, Int.reduceBNe, Int.reduceBEq, Int.reduceEq, Int.reduceLT, Int.reduceLE, Int.reduceGT, Int.reduceGE, mu14, Nat.reduceBEq, ↓wrap_up, ↓wrap_down, ↓wrap_pred, ↓wrap_sub_nat, Int.reduceToNat, h48, hv, hz, ht10, hl8, hlen, hget8, hget9, hall, htk8, List.all_append, lookD, look]
    exact ⟨_, rfl⟩
end
section
attribute [local go_sem] W_block evAppend tySzE List.head?_drop Nat.mul_one sameAt_zero sameAt_two sameAt_three sameAt_four sameAt_five room_ok ty22 ty23 ty24 ty26 ty28 ty33 ty35 ty36 ty37 ty53 ty54 ty86 ty104 ty112
open Go.Proofs Go.RowKit Go.IntWalk
set_option maxRecDepth 100000
set_option linter.unusedSimpArgs false
set_option linter.unusedVariables false
set_option maxHeartbeats 8000000

abbrev setRe (n : Int) : Re := .mk 1 [(n, n)] [] 0 0 0 0 false
theorem f19 (n : Int) (H : List MB) : call Try.prog pol1 19 [I n] H = some (reAV (setRe n), H) := by
  refine call_run Try.func19 rfl rfl rfl rfl rfl rfl (fun _ => rfl) rfl rfl ?_ H
  simp +contextual (disch := omega) only [Try.f19, dd19, go_sem, ↓reduceIte, List.reduceReplicate, Nat.reduceAdd, Nat.reduceSub, reduceCtorEq, Nat.reduceLeDiff, Nat.reduceMul, Nat.reduceLT, Nat.reduceEqDiff, Int.reduceBNe, Int.reduceBEq, Int.reduceEq, Int.reduceLT, Int.reduceLE, Int.reduceGT, Int.reduceGE, mu19, Nat.reduceBEq, ↓wrap_up, ↓wrap_down, ↓wrap_pred, ↓wrap_sub_nat, Int.reduceToNat]
  exact ⟨_, rfl⟩
def re0 : Re := .mk 4 [] [.mk 3 [] [setRe 97, setRe 98] 0 0 0 0 false] 1 (-1) 0 0 false
def g0 : Prg := ⟨[⟨2, 1, 3, 0, []⟩, ⟨1, 0, 0, 0, [(97, 97)]⟩, ⟨3, 4, 0, 0, []⟩, ⟨1, 0, 0, 0, [(98, 98)]⟩, ⟨2, 5, 10, 0, []⟩, ⟨2, 6, 8, 0, []⟩, ⟨1, 0, 0, 0, [(97, 97)]⟩, ⟨3, 9, 0, 0, []⟩, ⟨1, 0, 0, 0, [(98, 98)]⟩, ⟨3, 4, 0, 0, []⟩, ⟨0, 0, 0, 0, []⟩], 0, false⟩
theorem comp0 : compP ⟨re0, 0, false⟩ = (g0, 0) := by kernel_rfl
theorem run0 : runI (progOf g0 [97, 98]) g0.ins.length (-1) 100 [⟨⟨0, 0, m1s⟩, 0, 0⟩] [] = some [⟨10, 2, m1s⟩, ⟨10, 1, m1s⟩] := by kernel_rfl
theorem check0 : checkG g0 2 0 (-1) 100 = 0 := by kernel_rfl

theorem f18 (H : List MB) : call Try.prog pol1 18 [] H = some (.bool true, H) := by
  have h19 := f19
  have hl8 := reC_len re0
  have h14 : ∀ H, call Try.prog pol1 14 [.agg (reC re0 ++ [I 0, .bool false])] H = some (.tup [.agg [.sl false (g0.ins.map insAV), I 0, .bool false], I 0], H) := fun H => by
    have := f14 ⟨re0, 0, false⟩ (by decide) H
    rw [comp0] at this
    exact this
  have h23 : ∀ H, call Try.prog pol1 23 [.agg [.sl false (g0.ins.map insAV), I 0, .bool false], .sl true [I 97, I 98], I 0, I (-1), I 100] H =
      some (.tup [.sl false [.agg [I 0, I 2, .sl false []], .agg [I 0, I 1, .sl false []]], I 0], H) := fun H => by
    have h := f23 g0 ⟨by decide, by decide⟩ [97, 98] 0 (-1) 100 0 rfl check0 (by omega) H
    rw [show (100 : Int).toNat = 100 from rfl, show (0 : Int).toNat = 0 from rfl, run0] at h
    refine (call_frz' (H := H) (l := [prgAV g0, .sl false ([97, 98].map I), I 0, I (-1), I 100]) (H1 := H) rfl ?_ (by simp [AV.plain, AV.plainL, plain_ins])).trans h
    have hby : ∀ i, pol1.byref 23 i = false := fun i => rfl
    have hz : fz (prgAV g0) H = some (prgAV g0, H) := fz_plain _ (plain_prg g0)
    have hz2 : fz (.sl true [I 97, I 98]) H = some (.sl false [I 97, I 98], H) := rfl
    have hz3 : ∀ n, fz (I n) H = some (I n, H) := fun n => rfl
    simp only [frzArgs, hby, Bool.false_eq_true, if_false, hz, hz2, hz3]
    rfl
  have hz : ∀ H, fzs [.agg [I 4, .sl true [], .sl true [.agg [I 3, .sl true [], .sl true [reAV (setRe 97), reAV (setRe 98)], I 0, I 0, I 0, I 0, .bool false]], I 1, I (-1), I 0, I 0, .bool false]] H = some ([reAV re0], H) := fun H => rfl
  refine call_run Try.func18 rfl rfl rfl rfl rfl rfl (fun _ => rfl) rfl rfl ?_ H
  have hln : g0.ins.length = 11 := rfl
  have i0 : g0.ins[0]? = some ⟨2, 1, 3, 0, []⟩ := rfl
  have i2 : g0.ins[2]? = some ⟨3, 4, 0, 0, []⟩ := rfl
  have i4 : g0.ins[4]? = some ⟨2, 5, 10, 0, []⟩ := rfl
  have i5 : g0.ins[5]? = some ⟨2, 6, 8, 0, []⟩ := rfl
  have i9 : g0.ins[9]? = some ⟨3, 4, 0, 0, []⟩ := rfl
  have i10 : g0.ins[10]? = some ⟨0, 0, 0, 0, []⟩ := rfl
  simp +contextual (disch := omega) only [Try.f18, dd18, go_sem, ↓reduceIte, List.reduceReplicate, Nat.reduceAdd, Nat.reduceSub, reduceCtorEq, Nat.reduceLeDiff, Nat.reduceMul, Nat.reduceLT, Nat.reduceEqDiff, Int.reduceBNe, Int.reduceBEq, Int.reduceEq, Int.reduceLT, Int.reduceLE, Int.reduceGT, Int.reduceGE, mu18, Nat.reduceBEq, ↓wrap_up, ↓wrap_down, ↓wrap_pred, ↓wrap_sub_nat, Int.reduceToNat, h19, h14, h23, hz, AV.beqL_refl, reC_len, reC_ok, reC_take, hln, i0, i2, i4, i5, i9, i10]
  exact ⟨_, rfl⟩
end
end Go.Ev
namespace Go.Ev

/-- Alike in all that matters: the first registers. -/
def Way.same (n : Nat) (a b : Way) : Prop := a.pc = b.pc ∧ a.at_ = b.at_ ∧ a.regs.take (2 * n) = b.regs.take (2 * n)
def sameL (n : Nat) : List Way → List Way → Prop
  | [], [] => True
  | a :: l, b :: m => a.same n b ∧ sameL n l m
  | _, _ => False
theorem sameL_append {n : Nat} : ∀ {a b c d : List Way}, sameL n a b → sameL n c d → sameL n (a ++ c) (b ++ d)
  | [], [], _, _, _, h => h
  | _ :: _, _ :: _, _, _, h1, h2 => ⟨h1.1, sameL_append h1.2 h2⟩
  | [], _ :: _, _, _, h, _ => h.elim
  | _ :: _, [], _, _, h, _ => h.elim
theorem sameL_len {n : Nat} : ∀ {a b : List Way}, sameL n a b → a.length = b.length
  | [], [], _ => rfl
  | _ :: _, _ :: _, h => by simp [sameL_len h.2]
  | [], _ :: _, h => h.elim
  | _ :: _, [], h => h.elim

theorem step_same {p : Prog1} {n : Nat} {a b : Way} (h : a.same n b) : (stepW p a = .done ∧ stepW p b = .done) ∨ ∃ l m, stepW p a = .ways l ∧ stepW p b = .ways m ∧ sameL n l m := by
  obtain ⟨h1, h2, h3⟩ := h
  unfold stepW
  rw [h1, h2]
  cases p.ins b.pc with
  | none => exact .inr ⟨[], [], rfl, rfl, trivial⟩
  | some i =>
    simp only []
    split
    · exact .inl ⟨rfl, rfl⟩
    · refine .inr ?_
      split
      · split
        · exact ⟨_, _, rfl, rfl, ⟨rfl, rfl, h3⟩, trivial⟩
        · exact ⟨_, _, rfl, rfl, trivial⟩
      · split
        · exact ⟨_, _, rfl, rfl, ⟨rfl, rfl, h3⟩, ⟨rfl, rfl, h3⟩, trivial⟩
        · split
          · exact ⟨_, _, rfl, rfl, ⟨rfl, rfl, h3⟩, trivial⟩
          · split
            · refine ⟨_, _, rfl, rfl, ⟨rfl, rfl, ?_⟩, trivial⟩
              show (a.regs.set i.n.toNat _).take _ = (b.regs.set i.n.toNat _).take _
              rw [List.take_set, List.take_set, h3]
            · split
              · exact ⟨_, _, rfl, rfl, ⟨rfl, rfl, h3⟩, trivial⟩
              · exact ⟨_, _, rfl, rfl, trivial⟩

theorem run_same {p : Prog1} {n : Nat} {most : Int} : ∀ (fuel : Nat) (todo todo' out out' : List Way), sameL n todo todo' → sameL n out out' →
    (runW p most fuel todo out = none ∧ runW p most fuel todo' out' = none) ∨ ∃ o o', runW p most fuel todo out = some o ∧ runW p most fuel todo' out' = some o' ∧ sameL n o o'
  | fuel, [], [], out, out', _, h => .inr ⟨out, out', by unfold runW; rfl, by unfold runW; rfl, h⟩
  | _, [], _ :: _, _, _, h, _ => h.elim
  | _, _ :: _, [], _, _, h, _ => h.elim
  | 0, w :: todo, w' :: todo', out, out', h, h' => by
    have hl := sameL_len h'
    by_cases ho : (out.length : Int) = most
    · exact .inr ⟨out, out', runW_full ho, runW_full (by rw [← hl]; exact ho), h'⟩
    · exact .inl ⟨runW_zero ho, runW_zero (by rw [← hl]; exact ho)⟩
  | fuel + 1, w :: todo, w' :: todo', out, out', h, h' => by
    have hl := sameL_len h'
    by_cases ho : (out.length : Int) = most
    · exact .inr ⟨out, out', runW_full ho, runW_full (by rw [← hl]; exact ho), h'⟩
    · rw [runW_step ho, runW_step (by rw [← hl]; exact ho)]
      rcases step_same (p := p) h.1 with ⟨h1, h2⟩ | ⟨l, m, h1, h2, h3⟩
      · rw [h1, h2]
        exact run_same fuel todo todo' _ _ h.2 (sameL_append h' ⟨h.1, trivial⟩)
      · rw [h1, h2]
        exact run_same fuel _ _ _ _ (sameL_append h3 h.2) h'

theorem caps_same {n : Nat} {a b : Way} (pos : Int) (h : a.same n b) : matOf pos n a = matOf pos n b := by
  obtain ⟨h1, h2, h3⟩ := h
  have hg : ∀ k, k < 2 * n → a.regs.getD k 0 = b.regs.getD k 0 := fun k hk => by
    have e : ∀ l : List Int, (l.take (2 * n))[k]? = l[k]? := fun l => by rw [List.getElem?_take, if_pos hk]
    rw [List.getD_eq_getElem?_getD, List.getD_eq_getElem?_getD, ← e a.regs, ← e b.regs, h3]
  unfold matOf capsN
  rw [h2]
  congr 2
  apply List.map_congr_left
  intro k hk
  have := List.mem_range.1 hk
  rw [hg (2 * k) (by omega), hg (2 * k + 1) (by omega)]
theorem mats_same {n : Nat} (pos : Int) : ∀ {l m : List Way}, sameL n l m → l.map (matOf pos n) = m.map (matOf pos n)
  | [], [], _ => rfl
  | _ :: _, _ :: _, h => by simp [caps_same pos h.1, mats_same pos h.2]
  | [], _ :: _, h => h.elim
  | _ :: _, [], h => h.elim

/-- The matches of a run. -/
def matsOf (pos : Int) (n : Nat) (o : Option (List Way)) : Option (List M3) := o.map fun l => l.map (matOf pos n)
theorem matsOf_same {p : Prog1} {n : Nat} {most : Int} (pos : Int) (fuel : Nat) (w w' : Way) (h : w.same n w') : matsOf pos n (runW p most fuel [w] []) = matsOf pos n (runW p most fuel [w'] []) := by
  rcases run_same (p := p) (n := n) (most := most) fuel [w] [w'] [] [] ⟨h, trivial⟩ trivial with ⟨h1, h2⟩ | ⟨o, o', h1, h2, h3⟩
  · rw [h1, h2]
  · rw [h1, h2]
    simp only [matsOf, Option.map_some, mats_same pos h3]

/-- What was found stays found, in front. -/
theorem run_front {p : Prog1} {most : Int} : ∀ (fuel : Nat) (todo out o : List Way), runW p most fuel todo out = some o → out <+: o ∧ o.length ≤ out.length + fuel
  | fuel, [], out, o, h => by
    unfold runW at h
    simp at h; subst h
    exact ⟨List.prefix_refl _, by omega⟩
  | 0, w :: todo, out, o, h => by
    by_cases ho : (out.length : Int) = most
    · rw [runW_full ho] at h; cases h; exact ⟨List.prefix_refl _, by omega⟩
    · rw [runW_zero ho] at h; cases h
  | fuel + 1, w :: todo, out, o, h => by
    by_cases ho : (out.length : Int) = most
    · rw [runW_full ho] at h; cases h; exact ⟨List.prefix_refl _, by omega⟩
    · rw [runW_step ho] at h
      cases hs : stepW p w with
      | done =>
        rw [hs] at h
        obtain ⟨h1, h2⟩ := run_front fuel _ _ _ h
        exact ⟨(List.prefix_append _ _).trans h1, by simp at h2; omega⟩
      | ways l =>
        rw [hs] at h
        obtain ⟨h1, h2⟩ := run_front fuel _ _ _ h
        exact ⟨h1, by omega⟩


end Go.Ev
namespace Go.Ev
attribute [local go_sem] eq_self bindW_some bindW_map bindW_ite bindW_iteN W_seq W_region W_draw W_cond W_condK W_ret W_skip W_exit W_scope W_label blockK_norm blockK_ret blockK_exit WO_nil WO_cons WO_guard WD_nil WD_cons WD_guard guardV guardW_boolT guardW_boolF guardW_tup fpL_some fpL_none footprint thenK_norm thenK_ret thenK_exit put_some put_none ev_tmp ev_con ev_func ofK_int ofK_bool ofK_str ofK_nil evOp evBuiltin evCall evLen getElem_16 getElem_4 List.length_cons List.length_nil List.cons_append List.nil_append List.append_nil if_false if_true Bool.false_eq_true Bool.true_eq_false Option.map_some Option.map_none List.map_cons List.map_nil evBinOp evBin evUn asB_bool splitB_decide splitB_true splitB_false splitB_beq splitB_bne splitB_not endK_ret endK_norm List.getElem?_cons_zero List.getElem?_cons_succ evResults evResult packRes retK_norm retK_ret cellsAt mkVal evFieldAddr evField evIndexAddr evPart evStore evBuild evBuildSlice fillC fillE evSlice evMakeSlice evConvert getRow AV.cells List.head?_cons List.drop_zero List.drop_succ_cons List.take_zero List.take_succ_cons List.drop_nil List.take_nil List.all_cons List.all_nil AV.ok Bool.and_self Bool.and_true Bool.true_and and_self and_true true_and Nat.zero_add Nat.add_zero setCells splice pairsOk pairsX altW_none altW_some cfg_al WI_nil WI_cons FP.apart heapEq_refl sameAt_refl Bool.or_true Bool.true_or Bool.or_false srcElems elemsOf mutDst roundK_norm roundK_exit roundK_ret List.length_map List.getElem?_map Int.toNat_natCast decide_true decide_false Bool.not_true Bool.not_false List.set set_0 set_1 set_2 set_3 set_4 look_hit look lookD_hit lookD_cons lookD_nil ins_hit ins upd_hit upd rem1_hit rem1 dropT dropSt_eq initT cfg_dd cfg_bd cfg_ra actL_nil actL_cons act1 updT_hit updT frzB retE_norm retE_ret bndO bnd evEq eqCells not_false_eq_true not_true_eq_false toList_some Array.size_empty List.length_append List.map_append endE_norm endE_ret head_take1 List.contains_nil List.contains_cons Bool.or_self dlt_t dlt_f dle_t dle_f dgt_t dgt_f dge_t dge_f beq_t beq_f bne_t bne_f lt_T le_T nle_T nle_F Go.IntWalk.i64_in Go.IntWalk.i64_quo Go.IntWalk.rem_in ty0 ty3 ty4
section
attribute [local go_sem] evAppend ty22 ty23 ty39 ty41 ty86 ty108
open Go.Proofs Go.RowKit Go.IntWalk
set_option maxRecDepth 100000
set_option linter.unusedSimpArgs false
set_option linter.unusedVariables false
set_option maxHeartbeats 4000000

abbrev insAVt (i : Ins) : AV := .agg [I i.op, I i.x, I i.y, I i.n, .sl true (i.set.map spanAV)]
def T21 (l : List Int) (n caps : Int) (runes : Bool) : List Ins → St
  | [] => (⟨119, [(5, I ((0 : Nat) : Int)), (4, .rf 1 1 0 0), (3, I n), (2, .rf 0 1 0 0), (0, .sl false (l.map I))], [.row 3 [.agg [.sl true [], I 0, .bool false]] 0, .row 3 [.agg [.sl true [], I caps, .bool runes]] 0]⟩ : St)
  | x :: xs => (⟨119, [(5, I ((xs.length + 1 : Nat) : Int)), (4, .rf 1 1 0 0), (3, I n), (2, .rf 0 1 0 0), (0, .sl false (l.map I))], [.row 3 [.agg [.sl true [], I 0, .bool false]] 0, .row 3 [.agg [.ms 3 5 (xs.length + 1) 0 (xs.length + 1), I caps, .bool runes]] 0, .row 5 [insAVt x] 0, .row 5 (insAVt x :: xs.map insAVt) 0]⟩ : St)

/-- What `Some` returns is valid, and small. -/
structure SomeOk (g : Prg) : Prop where
  len : 1 ≤ g.ins.length ∧ g.ins.length ≤ 12
  caps : 0 ≤ g.caps ∧ g.caps ≤ 2
  ok : ∀ i ∈ g.ins, okIns g.ins.length g.caps g.runes i = true
  last : lastGood g = true
  sets : ∀ i ∈ g.ins, i.set.length ≤ 1

theorem underL_insT (n : Nat) (l : List Ins) : AV.underL n (l.map insAVt) = true := by
  induction l with
  | nil => rfl
  | cons a l ih => simp [AV.underL, AV.under, underL_plain, plain_span, ih]
theorem fzT_one (j : List AV → List MB → Option (List AV × List MB)) (i : Ins) (H : List MB) : fzA j (insAVt i) H = some (insAV i, H) := by
  simp only [fzA_agg, fzL, fzA_int, fzA_sl, fzL_plain _ _ _ (plain_span i.set)]
theorem fz_allT {id tot : Nat} {ins : List Ins} {caps : Int} {runes : Bool} {H : List MB} (hr : getRow H id = some (5, ins.map insAVt, 0)) (hn : tot = ins.length) :
    ∃ H', fz (.agg [.ms id 5 tot 0 tot, I caps, .bool runes]) H = some (prgAV ⟨ins, caps, runes⟩, H') := by
  subst hn
  simp only [fz, fzA_agg, fzL]
  rw [fzA_ms (n := 5) (k := 5) (ys := ins.map insAV) hr (by simp) (by simp) (by
    rw [List.drop_zero, List.take_of_length_le (by simp)]; exact fzL_map (fun i H => fzT_one _ i H) _ _)]
  exact ⟨_, rfl⟩
theorem lastGood_app (xs : List Ins) (x : Ins) (c : Int) (r : Bool) (h : x.op = 0 ∨ x.op = 2 ∨ x.op = 3) : lastGood ⟨xs ++ [x], c, r⟩ = true := by
  simp [lastGood]; omega
theorem ok_zero (n : Nat) (c : Int) (r : Bool) : okIns n c r ⟨0, 0, 0, 0, []⟩ = true := by simp [okIns]
theorem next21 {n : Nat} {caps : Int} {runes : Bool} {xs : List Ins} {x : Ins} (h1 : xs.length < n) (h2 : ∀ i ∈ xs, okIns n caps runes i = true ∧ i.set.length ≤ 1) (hx : okIns n caps runes x = true ∧ x.set.length ≤ 1)
    (hl : xs.length + 1 = n → x.op = 0 ∨ x.op = 2 ∨ x.op = 3) :
    (xs ++ [x]).length ≤ n ∧ (∀ i ∈ xs ++ [x], okIns n caps runes i = true ∧ i.set.length ≤ 1) ∧ ((xs ++ [x]).length = n → lastGood ⟨xs ++ [x], caps, runes⟩ = true) :=
  ⟨by simp; omega, fun i hi => by
    rcases List.mem_append.1 hi with h | h
    · exact h2 i h
    · rw [List.mem_singleton.1 h]; exact hx, fun h => lastGood_app _ _ _ _ (hl (by simpa using h))⟩

theorem f21 (l : List Int) (hl : ∀ x ∈ l, In64 x) : ∃ r, (∃ g, SomeOk g ∧ r = prgAV g) ∧ ∀ H, call Try.prog pol1 21 [.sl false (l.map I)] H = some (r, H) := by
  obtain ⟨n, hn1, hn2, hn3⟩ : ∃ n : Nat, (n : Int) = 1 + pickI l 0 12 ∧ 1 ≤ n ∧ n ≤ 12 := by
    have := pick_lt (l := l) (i := 0) (m := 12) (by omega)
    exact ⟨(1 + pickI l 0 12).toNat, by omega, by omega, by omega⟩
  have hw : IntKind.i64.wrap (1 + pickI l 0 12) = n := by rw [i64_in] <;> omega
  have hcaps := pick_lt (l := l) (i := 1) (m := 3) (by omega)
  refine call_runA Try.func21 rfl rfl rfl rfl rfl rfl (fun _ => rfl) (by simp [AV.plain, AV.plainL, plain_ints, plain_span, plain_ins, plain_prg]) ?_ ?_
  · rintro _ ⟨g, _, rfl⟩; exact plain_prg g
  have hP := fun i m h => f57 l i m hl h
  simp +contextual (disch := omega) only [Try.f21, dd21, go_sem, ↓reduceIte, W_block, List.reduceReplicate, Nat.reduceAdd, Nat.reduceSub, reduceCtorEq, Nat.reduceLeDiff, Nat.reduceMul, Nat.reduceLT, Nat.reduceEqDiff, Int.reduceBNe, Int.reduceBEq, Int.reduceEq, Int.reduceLT, Int.reduceLE, Int.reduceGT, Int.reduceGE, mu21, Nat.reduceBEq, ↓wrap_up, ↓wrap_down, ↓wrap_pred, ↓wrap_sub_nat, Int.reduceToNat, hP 0 12 (by omega), hP 1 3 (by omega), hP 2 3 (by omega), hw]
  generalize pickI l 1 3 = caps at *
  generalize (pickI l 2 3 == 0) = runes at *
  refine W_for (M := (mskOf (pol1.mask 21) (pol1.gc 21) (pol1.acts 21) 0 4)) rfl (T21 l n caps runes) (fun xs => xs.length ≤ n ∧ (∀ i ∈ xs, okIns n caps runes i = true ∧ i.set.length ≤ 1) ∧ (xs.length = n → lastGood ⟨xs, caps, runes⟩ = true)) (fun xs => n - xs.length) [] ?_ ⟨by simp, by simp, by simp; omega⟩ _ (by first | rfl | (refine prep_cut rfl (by rfl) (by rfl) (by rfl) ?_ ?_ <;> simp [AV.underL, AV.under, MB.under, underL_plain, under_plain, plain_ints, plain_span, plain_ins, plain_prg, -List.map_take]))
  rintro xs ⟨h1, h2, h3⟩
  by_cases hlt : xs.length < n
  · have hk := pick_lt (l := l) (i := 3 + xs.length) (m := 1048576) (by omega)
    have hPk := hP (3 + xs.length) 1048576 (by omega)
    generalize pickI l (3 + xs.length) 1048576 = k at *
    have hm3 : ∀ z : Int, 0 < caps → 0 ≤ z % (2 * caps) ∧ z % (2 * caps) < 2 * caps := fun z h => ⟨Int.emod_nonneg _ (by omega), Int.emod_lt_of_pos _ (by omega)⟩
    have hmod : ∀ z : Int, 0 ≤ z % n ∧ z % n < n := fun z => ⟨Int.emod_nonneg _ (by omega), Int.emod_lt_of_pos _ (by omega)⟩
    have hm1 := fun z => (hmod z).1
    have hm2 := fun z => (hmod z).2
    cases xs with
    | nil =>
      simp only [T21]
      simp only [List.length_nil] at hPk hlt
      simp +contextual (disch := omega) only [Try.f21, dd21, go_sem, ↓reduceIte, List.reduceReplicate, Nat.reduceAdd, Nat.reduceSub, reduceCtorEq, Nat.reduceLeDiff, Nat.reduceMul, Nat.reduceLT, Nat.reduceEqDiff, Int.reduceBNe, Int.reduceBEq, Int.reduceEq, Int.reduceLT, Int.reduceLE, Int.reduceGT, Int.reduceGE, mu21, Nat.reduceBEq, ↓wrap_up, ↓wrap_down, ↓wrap_pred, ↓wrap_sub_nat, Int.reduceToNat, W_block (id := 1), hPk]
      refine W_cut (fun s => ∃ x : Ins, x.set.length ≤ 1 ∧ okIns n caps runes x = true ∧ s = ⟨119, [(7, .rf 2 1 0 0), (5, I ((0 : Nat) : Int)), (4, .rf 1 1 0 0), (3, I n), (2, .rf 0 1 0 0), (0, .sl false (l.map I))],
        [.row 3 [.agg [.sl true [], I 0, .bool false]] 0, .row 3 [.agg [.sl true [], I caps, .bool runes]] 0, .row 5 [insAVt x] 0]⟩) ?_ ?_
      · simp +contextual (disch := omega) only [Try.f21, dd21, go_sem, ↓reduceIte, W_block, List.reduceReplicate, Nat.reduceAdd, Nat.reduceSub, reduceCtorEq, Nat.reduceLeDiff, Nat.reduceMul, Nat.reduceLT, Nat.reduceEqDiff, Int.reduceBNe, Int.reduceBEq, Int.reduceEq, Int.reduceLT, Int.reduceLE, Int.reduceGT, Int.reduceGE, mu21, Nat.reduceBEq, ↓wrap_up, ↓wrap_down, ↓wrap_pred, ↓wrap_sub_nat, Int.reduceToNat, cut_norm]
        repeat' (first | intro _ | apply And.intro)
        all_goals first
          | omega
          | (unfold dOk; kernel_rfl)
          | kernel_rfl
          | (refine ⟨⟨_, _, _, _, []⟩, ?_, ?_, rfl⟩ <;> simp [okIns, refSpans, badAt, lastOk, hm1, hm2] <;> done)
          | (refine ⟨⟨_, _, _, _, []⟩, ?_, ?_, rfl⟩ <;> simp [okIns, refSpans, badAt, lastOk, hm1, hm2] <;> omega)
          | (refine ⟨⟨_, _, _, _, []⟩, ?_, ?_, rfl⟩
             · simp
             · have q := hm3 (k / 8) (by omega)
               simp [okIns, refSpans, badAt, lastOk]
               omega)
          | (refine ⟨⟨_, _, _, _, [(97, _)]⟩, ?_, ?_, rfl⟩
             · simp
             · simp [okIns, refSpans, badAt, lastOk]
               (try split) <;> omega)
      · rintro _ ⟨z, hz1, hz2, rfl⟩
        have hop := okIns_op hz2
        by_cases h1n : 0 + 1 = n
        · by_cases ha : z.op = 1
          · simp +contextual (disch := omega) only [Try.f21, dd21, go_sem, ↓reduceIte, W_block, List.reduceReplicate, Nat.reduceAdd, Nat.reduceSub, reduceCtorEq, Nat.reduceLeDiff, Nat.reduceMul, Nat.reduceLT, Nat.reduceEqDiff, Int.reduceBNe, Int.reduceBEq, Int.reduceEq, Int.reduceLT, Int.reduceLE, Int.reduceGT, Int.reduceGE, mu21, Nat.reduceBEq, ↓wrap_up, ↓wrap_down, ↓wrap_pred, ↓wrap_sub_nat, Int.reduceToNat]
            refine ⟨by simp [roomFor], [] ++ [⟨0, 0, 0, 0, []⟩], next21 (by simpa using hlt) h2 ⟨ok_zero _ _ _, by simp⟩ (fun h => by simp only [List.length_nil, List.length_cons] at h; first | exact Or.inl rfl | omega), by simp; omega, ?_⟩
            exact (by first | rfl | (refine prep_cut rfl (by rfl) (by rfl) (by rfl) ?_ ?_ <;> simp [AV.underL, AV.under, MB.under, underL_plain, under_plain, plain_ints, plain_span, plain_ins, plain_prg, -List.map_take, underL_insT]))
          · by_cases hb : 4 ≤ z.op
            · simp +contextual (disch := omega) only [Try.f21, dd21, go_sem, ↓reduceIte, W_block, List.reduceReplicate, Nat.reduceAdd, Nat.reduceSub, reduceCtorEq, Nat.reduceLeDiff, Nat.reduceMul, Nat.reduceLT, Nat.reduceEqDiff, Int.reduceBNe, Int.reduceBEq, Int.reduceEq, Int.reduceLT, Int.reduceLE, Int.reduceGT, Int.reduceGE, mu21, Nat.reduceBEq, ↓wrap_up, ↓wrap_down, ↓wrap_pred, ↓wrap_sub_nat, Int.reduceToNat]
              refine ⟨by simp [roomFor], [] ++ [⟨0, 0, 0, 0, []⟩], next21 (by simpa using hlt) h2 ⟨ok_zero _ _ _, by simp⟩ (fun h => by simp only [List.length_nil, List.length_cons] at h; first | exact Or.inl rfl | omega), by simp; omega, ?_⟩
              exact (by first | rfl | (refine prep_cut rfl (by rfl) (by rfl) (by rfl) ?_ ?_ <;> simp [AV.underL, AV.under, MB.under, underL_plain, under_plain, plain_ints, plain_span, plain_ins, plain_prg, -List.map_take, underL_insT]))
            · simp +contextual (disch := omega) only [Try.f21, dd21, go_sem, ↓reduceIte, W_block, List.reduceReplicate, Nat.reduceAdd, Nat.reduceSub, reduceCtorEq, Nat.reduceLeDiff, Nat.reduceMul, Nat.reduceLT, Nat.reduceEqDiff, Int.reduceBNe, Int.reduceBEq, Int.reduceEq, Int.reduceLT, Int.reduceLE, Int.reduceGT, Int.reduceGE, mu21, Nat.reduceBEq, ↓wrap_up, ↓wrap_down, ↓wrap_pred, ↓wrap_sub_nat, Int.reduceToNat]
              refine ⟨by simp [roomFor], [] ++ [z], next21 (by simpa using hlt) h2 ⟨hz2, hz1⟩ (fun h => by simp only [List.length_nil, List.length_cons] at h; first | exact Or.inl rfl | omega), by simp; omega, ?_⟩
              exact (by first | rfl | (refine prep_cut rfl (by rfl) (by rfl) (by rfl) ?_ ?_ <;> simp [AV.underL, AV.under, MB.under, underL_plain, under_plain, plain_ints, plain_span, plain_ins, plain_prg, -List.map_take, underL_insT]))
        · simp +contextual (disch := omega) only [Try.f21, dd21, go_sem, ↓reduceIte, W_block, List.reduceReplicate, Nat.reduceAdd, Nat.reduceSub, reduceCtorEq, Nat.reduceLeDiff, Nat.reduceMul, Nat.reduceLT, Nat.reduceEqDiff, Int.reduceBNe, Int.reduceBEq, Int.reduceEq, Int.reduceLT, Int.reduceLE, Int.reduceGT, Int.reduceGE, mu21, Nat.reduceBEq, ↓wrap_up, ↓wrap_down, ↓wrap_pred, ↓wrap_sub_nat, Int.reduceToNat]
          refine ⟨by simp [roomFor], [] ++ [z], next21 (by simpa using hlt) h2 ⟨hz2, hz1⟩ (fun h => by simp only [List.length_nil, List.length_cons] at h; first | exact Or.inl rfl | omega), by simp; omega, ?_⟩
          exact (by first | rfl | (refine prep_cut rfl (by rfl) (by rfl) (by rfl) ?_ ?_ <;> simp [AV.underL, AV.under, MB.under, underL_plain, under_plain, plain_ints, plain_span, plain_ins, plain_prg, -List.map_take, underL_insT]))
    | cons x xs =>
      simp only [T21]
      simp only [List.length_cons] at hPk hlt
      simp +contextual (disch := omega) only [Try.f21, dd21, go_sem, ↓reduceIte, List.reduceReplicate, Nat.reduceAdd, Nat.reduceSub, reduceCtorEq, Nat.reduceLeDiff, Nat.reduceMul, Nat.reduceLT, Nat.reduceEqDiff, Int.reduceBNe, Int.reduceBEq, Int.reduceEq, Int.reduceLT, Int.reduceLE, Int.reduceGT, Int.reduceGE, mu21, Nat.reduceBEq, ↓wrap_up, ↓wrap_down, ↓wrap_pred, ↓wrap_sub_nat, Int.reduceToNat, W_block (id := 1), hPk]
      refine W_cut (fun s => ∃ z : Ins, z.set.length ≤ 1 ∧ okIns n caps runes z = true ∧ s = ⟨119, [(7, .rf 4 1 0 0), (5, I ((xs.length + 1 : Nat) : Int)), (4, .rf 1 1 0 0), (3, I n), (2, .rf 0 1 0 0), (0, .sl false (l.map I))],
        [.row 3 [.agg [.sl true [], I 0, .bool false]] 0, .row 3 [.agg [.ms 3 5 (xs.length + 1) 0 (xs.length + 1), I caps, .bool runes]] 0, .row 5 [insAVt x] 0, .row 5 (insAVt x :: xs.map insAVt) 0, .row 5 [insAVt z] 0]⟩) ?_ ?_
      · simp +contextual (disch := omega) only [Try.f21, dd21, go_sem, ↓reduceIte, W_block, List.reduceReplicate, Nat.reduceAdd, Nat.reduceSub, reduceCtorEq, Nat.reduceLeDiff, Nat.reduceMul, Nat.reduceLT, Nat.reduceEqDiff, Int.reduceBNe, Int.reduceBEq, Int.reduceEq, Int.reduceLT, Int.reduceLE, Int.reduceGT, Int.reduceGE, mu21, Nat.reduceBEq, ↓wrap_up, ↓wrap_down, ↓wrap_pred, ↓wrap_sub_nat, Int.reduceToNat, cut_norm]
        repeat' (first | intro _ | apply And.intro)
        all_goals first
          | omega
          | (unfold dOk; kernel_rfl)
          | kernel_rfl
          | (refine ⟨⟨_, _, _, _, []⟩, ?_, ?_, rfl⟩ <;> simp [okIns, refSpans, badAt, lastOk, hm1, hm2] <;> done)
          | (refine ⟨⟨_, _, _, _, []⟩, ?_, ?_, rfl⟩ <;> simp [okIns, refSpans, badAt, lastOk, hm1, hm2] <;> omega)
          | (refine ⟨⟨_, _, _, _, []⟩, ?_, ?_, rfl⟩
             · simp
             · have q := hm3 (k / 8) (by omega)
               simp [okIns, refSpans, badAt, lastOk]
               omega)
          | (refine ⟨⟨_, _, _, _, [(97, _)]⟩, ?_, ?_, rfl⟩
             · simp
             · simp [okIns, refSpans, badAt, lastOk]
               (try split) <;> omega)
      · rintro _ ⟨z, hz1, hz2, rfl⟩
        have hop := okIns_op hz2
        by_cases h1n : xs.length + 1 + 1 = n
        · by_cases ha : z.op = 1
          · simp +contextual (disch := omega) only [Try.f21, dd21, go_sem, ↓reduceIte, W_block, List.reduceReplicate, Nat.reduceAdd, Nat.reduceSub, reduceCtorEq, Nat.reduceLeDiff, Nat.reduceMul, Nat.reduceLT, Nat.reduceEqDiff, Int.reduceBNe, Int.reduceBEq, Int.reduceEq, Int.reduceLT, Int.reduceLE, Int.reduceGT, Int.reduceGE, mu21, Nat.reduceBEq, ↓wrap_up, ↓wrap_down, ↓wrap_pred, ↓wrap_sub_nat, Int.reduceToNat]
            refine ⟨by simp [roomFor]; omega, (x :: xs) ++ [⟨0, 0, 0, 0, []⟩], next21 (by simpa using hlt) h2 ⟨ok_zero _ _ _, by simp⟩ (fun h => by simp only [List.length_nil, List.length_cons] at h; first | exact Or.inl rfl | omega), by simp; omega, ?_⟩
            simp only [List.cons_append, T21, List.length_append, List.length_cons, List.length_nil, Nat.zero_add]
            refine prep_cut (n := 4) rfl (by rfl) rfl ?_ ?_ ?_
            · simp [List.take_of_length_le]
            · simp [AV.underL, AV.under, underL_plain, plain_ints]
            · simp [AV.underL, AV.under, MB.under, underL_plain, plain_span, underL_insT, underL_append]
          · by_cases hb : 4 ≤ z.op
            · simp +contextual (disch := omega) only [Try.f21, dd21, go_sem, ↓reduceIte, W_block, List.reduceReplicate, Nat.reduceAdd, Nat.reduceSub, reduceCtorEq, Nat.reduceLeDiff, Nat.reduceMul, Nat.reduceLT, Nat.reduceEqDiff, Int.reduceBNe, Int.reduceBEq, Int.reduceEq, Int.reduceLT, Int.reduceLE, Int.reduceGT, Int.reduceGE, mu21, Nat.reduceBEq, ↓wrap_up, ↓wrap_down, ↓wrap_pred, ↓wrap_sub_nat, Int.reduceToNat]
              refine ⟨by simp [roomFor]; omega, (x :: xs) ++ [⟨0, 0, 0, 0, []⟩], next21 (by simpa using hlt) h2 ⟨ok_zero _ _ _, by simp⟩ (fun h => by simp only [List.length_nil, List.length_cons] at h; first | exact Or.inl rfl | omega), by simp; omega, ?_⟩
              simp only [List.cons_append, T21, List.length_append, List.length_cons, List.length_nil, Nat.zero_add]
              refine prep_cut (n := 4) rfl (by rfl) rfl ?_ ?_ ?_
              · simp [List.take_of_length_le]
              · simp [AV.underL, AV.under, underL_plain, plain_ints]
              · simp [AV.underL, AV.under, MB.under, underL_plain, plain_span, underL_insT, underL_append]
            · simp +contextual (disch := omega) only [Try.f21, dd21, go_sem, ↓reduceIte, W_block, List.reduceReplicate, Nat.reduceAdd, Nat.reduceSub, reduceCtorEq, Nat.reduceLeDiff, Nat.reduceMul, Nat.reduceLT, Nat.reduceEqDiff, Int.reduceBNe, Int.reduceBEq, Int.reduceEq, Int.reduceLT, Int.reduceLE, Int.reduceGT, Int.reduceGE, mu21, Nat.reduceBEq, ↓wrap_up, ↓wrap_down, ↓wrap_pred, ↓wrap_sub_nat, Int.reduceToNat]
              refine ⟨by simp [roomFor]; omega, (x :: xs) ++ [z], next21 (by simpa using hlt) h2 ⟨hz2, hz1⟩ (fun h => by simp only [List.length_nil, List.length_cons] at h; first | exact Or.inl rfl | omega), by simp; omega, ?_⟩
              simp only [List.cons_append, T21, List.length_append, List.length_cons, List.length_nil, Nat.zero_add]
              refine prep_cut (n := 4) rfl (by rfl) rfl ?_ ?_ ?_
              · simp [List.take_of_length_le]
              · simp [AV.underL, AV.under, underL_plain, plain_ints]
              · simp [AV.underL, AV.under, MB.under, underL_plain, plain_span, underL_insT, underL_append]
        · simp +contextual (disch := omega) only [Try.f21, dd21, go_sem, ↓reduceIte, W_block, List.reduceReplicate, Nat.reduceAdd, Nat.reduceSub, reduceCtorEq, Nat.reduceLeDiff, Nat.reduceMul, Nat.reduceLT, Nat.reduceEqDiff, Int.reduceBNe, Int.reduceBEq, Int.reduceEq, Int.reduceLT, Int.reduceLE, Int.reduceGT, Int.reduceGE, mu21, Nat.reduceBEq, ↓wrap_up, ↓wrap_down, ↓wrap_pred, ↓wrap_sub_nat, Int.reduceToNat]
          refine ⟨by simp [roomFor]; omega, (x :: xs) ++ [z], next21 (by simpa using hlt) h2 ⟨hz2, hz1⟩ (fun h => by simp only [List.length_nil, List.length_cons] at h; first | exact Or.inl rfl | omega), by simp; omega, ?_⟩
          simp only [List.cons_append, T21, List.length_append, List.length_cons, List.length_nil, Nat.zero_add]
          refine prep_cut (n := 4) rfl (by rfl) rfl ?_ ?_ ?_
          · simp [List.take_of_length_le]
          · simp [AV.underL, AV.under, underL_plain, plain_ints]
          · simp [AV.underL, AV.under, MB.under, underL_plain, plain_span, underL_insT, underL_append]
  · have hn' : xs.length = n := by omega
    cases xs with
    | nil => simp at hn'; omega
    | cons x xs =>
      simp only [T21]
      simp only [List.length_cons] at hn'
      simp +contextual (disch := omega) only [Try.f21, dd21, go_sem, ↓reduceIte, W_block, List.reduceReplicate, Nat.reduceAdd, Nat.reduceSub, reduceCtorEq, Nat.reduceLeDiff, Nat.reduceMul, Nat.reduceLT, Nat.reduceEqDiff, Int.reduceBNe, Int.reduceBEq, Int.reduceEq, Int.reduceLT, Int.reduceLE, Int.reduceGT, Int.reduceGE, mu21, Nat.reduceBEq, ↓wrap_up, ↓wrap_down, ↓wrap_pred, ↓wrap_sub_nat, Int.reduceToNat]
      exact ⟨_, ⟨⟨x :: xs, caps, runes⟩, ⟨by simp; omega, by simp only []; omega, fun i hi => by simp only [List.length_cons, hn']; exact (h2 i hi).1, h3 hn', fun i hi => (h2 i hi).2⟩, rfl⟩, fz_allT (ins := x :: xs) rfl (by simp)⟩
end
section
attribute [local go_sem] W_block evAppend tySzE List.head?_drop Nat.mul_one sameAt_zero sameAt_two sameAt_three sameAt_four sameAt_five room_ok ty22 ty23 ty36 ty39 ty41 ty53 ty108 ty112 ty129 ty130
open Go.Proofs Go.RowKit Go.IntWalk
set_option maxRecDepth 100000
set_option linter.unusedSimpArgs false
set_option linter.unusedVariables false
set_option maxHeartbeats 8000000

theorem f25e (g : Prg) (hb : PrgB g) (t : List Int) (ht : t.length ≤ 1000000000) (pos most fuel : Int) (he : checkG g t.length pos most fuel ≠ 0) (H : List MB) :
    call Try.prog pol1 25 [.agg [.sl false (g.ins.map insAV), I g.caps, .bool g.runes], .sl false (t.map I), I pos, I most, I fuel] H = some (.tup [.sl false [], I (checkG g t.length pos most fuel)], H) := by
  refine call_run Try.func25 rfl rfl rfl rfl rfl rfl (fun _ => rfl) (by simp [AV.plain, AV.plainL, plain_ints, plain_span, plain_ins, plain_prg]) (by simp [AV.plain, AV.plainL, plain_ints, plain_span, plain_ins, plain_prg]) ?_ H
  have hc := f62 g hb t ht pos most fuel
  generalize checkG g t.length pos most fuel = c at *
  simp +contextual (disch := omega) only [Try.f25, dd25, go_sem, ↓reduceIte, List.reduceReplicate, Nat.reduceAdd, Nat.reduceSub, reduceCtorEq, Nat.reduceLeDiff, Nat.reduceMul, Nat.reduceLT, Nat.reduceEqDiff, Int.reduceBNe, Int.reduceBEq, Int.reduceEq, Int.reduceLT, Int.reduceLE, Int.reduceGT, Int.reduceGE, mu25, Nat.reduceBEq, ↓wrap_up, ↓wrap_down, ↓wrap_pred, ↓wrap_sub_nat, Int.reduceToNat, hc]
  exact ⟨_, rfl⟩

theorem step_pc {g : Prg} (h : Okay g) {t : List Int} {w : Way} (hw : w.pc < g.ins.length) {l : List Way} (hs : stepW (progOf g t) w = .ways l) : ∀ v ∈ l, v.pc < g.ins.length := by
  obtain ⟨i, hi⟩ : ∃ i, g.ins[w.pc]? = some i := ⟨_, List.getElem?_eq_getElem hw⟩
  have hok := h.ok i (List.mem_of_getElem? hi)
  have hf := ok_facts hok
  have hop := okIns_op hok
  have hn := h.next hi
  have hp : (progOf g t).ins w.pc = some i := hi
  simp only [stepW, hp] at hs
  repeat' split at hs
  all_goals first
    | (cases hs; done)
    | (cases hs; intro v hv; simp at hv; done)
    | (cases hs; intro v hv; rw [List.mem_singleton.1 hv]; exact hn (by omega))
    | (cases hs; rename_i e; have := hf.2.1 e; intro v hv; rw [List.mem_singleton.1 hv]; show i.x.toNat < _; omega)
    | (cases hs; rename_i e; have := hf.1 e; intro v hv; rcases List.mem_cons.1 hv with e | e
       · rw [e]; show i.x.toNat < _; omega
       · rw [List.mem_singleton.1 e]; show i.y.toNat < _; omega)

/-- What Paths returns: the matches, the error. -/
def resP (g : Prg) (t : List Int) (pos most fuel : Int) : List M3 × Int :=
  if checkG g t.length pos most fuel ≠ 0 then ([], checkG g t.length pos most fuel)
  else match runW (progOf g t) most fuel.toNat [⟨0, pos.toNat, List.replicate (2 * g.caps.toNat) (-1)⟩] [] with
    | some out => (out.map (matOf pos g.caps.toNat), 0)
    | none => ([], 11)
abbrev resPA (r : List M3 × Int) : AV := .tup [.sl false (r.1.map mA), I r.2]

theorem resA_eq (pos : Int) (n : Nat) (o : Option (List Way)) : resA pos n o = match matsOf pos n o with
    | some l => .tup [.sl false (l.map mA), I 0]
    | none => .tup [.sl false [], I 11] := by
  cases o with
  | none => rfl
  | some out =>
    simp only [resA, matsOf, Option.map_some, List.map_map]
    rfl

theorem paths25 (g : Prg) (hb : PrgB g) (t : List Int) (ht : t.length ≤ 1000000000) (pos most fuel : Int) (hf : fuel ≤ 1000000) (H : List MB) :
    call Try.prog pol1 25 [.agg [.sl false (g.ins.map insAV), I g.caps, .bool g.runes], .sl false (t.map I), I pos, I most, I fuel] H = some (resPA (resP g t pos most fuel), H) := by
  by_cases hc : checkG g t.length pos most fuel = 0
  · have hv : validG g = 0 := by
      unfold checkG at hc
      split at hc
      · rename_i h; exact absurd hc h
      · rename_i h; simpa using h
    have hk := (okay_of hv).caps
    have h1 := f25 g hb t pos most fuel g.caps.toNat (by omega) hc hf H
    rw [show prgAV g = .agg [.sl false (g.ins.map insAV), I g.caps, .bool g.runes] from rfl] at h1
    rw [h1, resA_eq]
    unfold resP
    rw [if_neg (by simp [hc])]
    cases runW (progOf g t) most fuel.toNat [⟨0, pos.toNat, List.replicate (2 * g.caps.toNat) (-1)⟩] [] <;> rfl
  · rw [f25e g hb t ht pos most fuel hc H]
    unfold resP
    rw [if_pos hc]
    rfl

theorem paths23 (g : Prg) (hb : PrgB g) (t : List Int) (ht : t.length ≤ 1000000000) (pos most fuel : Int) (hf : fuel ≤ 1000000) (H : List MB) :
    call Try.prog pol1 23 [.agg [.sl false (g.ins.map insAV), I g.caps, .bool g.runes], .sl false (t.map I), I pos, I most, I fuel] H = some (resPA (resP g t pos most fuel), H) := by
  by_cases hc : checkG g t.length pos most fuel = 0
  · have hv : validG g = 0 := by
      unfold checkG at hc
      split at hc
      · rename_i h; exact absurd hc h
      · rename_i h; simpa using h
    have hok := okay_of hv
    have hk := hok.caps
    have hl := hok.len
    have h1 := f23 g hb t pos most fuel g.caps.toNat (by omega) hc hf H
    rw [show prgAV g = .agg [.sl false (g.ins.map insAV), I g.caps, .bool g.runes] from rfl] at h1
    have hpos : 0 ≤ pos ∧ pos ≤ t.length := by
      unfold checkG at hc
      split at hc
      · rename_i h; exact absurd hc h
      · split at hc
        · cases hc
        · split at hc
          · cases hc
          · omega
    have hcl : ∀ w l, w.pc < g.ins.length → stepW (progOf g t) w = .ways l → ∀ v ∈ l, v.pc < g.ins.length := by
      intro w l hw hs v hv
      exact step_pc hok hw hs v hv
    rw [h1, runI_eq hcl most fuel.toNat ⟨0, pos.toNat, m1s⟩ (by show 0 < _; omega), resA_eq]
    have hsame : Way.same g.caps.toNat ⟨0, pos.toNat, m1s⟩ ⟨0, pos.toNat, List.replicate (2 * g.caps.toNat) (-1)⟩ := by
      refine ⟨rfl, rfl, ?_⟩
      show (List.replicate 18 (-1 : Int)).take _ = (List.replicate _ (-1)).take _
      rw [List.take_replicate, List.take_replicate]
      congr 1
      omega
    rw [matsOf_same pos fuel.toNat _ _ hsame]
    unfold resP
    rw [if_neg (by simp [hc])]
    cases runW (progOf g t) most fuel.toNat [⟨0, pos.toNat, List.replicate (2 * g.caps.toNat) (-1)⟩] [] <;> rfl
  · rw [f23e g hb t ht pos most fuel hc H]
    unfold resP
    rw [if_pos hc]
    rfl

theorem resP_small (g : Prg) (t : List Int) (pos most fuel : Int) (hf : fuel ≤ 1000000) (hc : g.caps ≤ 9) : (resP g t pos most fuel).1.length ≤ 1000000 ∧ ∀ m ∈ (resP g t pos most fuel).1, m.2.2.length ≤ 1000 := by
  unfold resP
  split
  · exact ⟨by simp, fun m h => by simp at h⟩
  · cases hr : runW (progOf g t) most fuel.toNat [⟨0, pos.toNat, List.replicate (2 * g.caps.toNat) (-1)⟩] [] with
    | none => exact ⟨by simp, fun m h => by simp at h⟩
    | some out =>
      have := (run_front _ _ _ _ hr).2
      simp only [List.length_nil] at this
      refine ⟨by simp; omega, fun m hm => ?_⟩
      obtain ⟨w, _, rfl⟩ := List.mem_map.1 hm
      simp only [matOf, capsN_len]
      omega
end
end Go.Ev
