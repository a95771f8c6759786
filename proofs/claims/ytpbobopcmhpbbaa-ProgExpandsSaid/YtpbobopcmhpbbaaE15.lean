/- Functions of the program, each with what it computes; no further conditions. -/
import Derived.Test.YtpbobopcmhpbbaaE05
import Derived.Test.YtpbobopcmhpbbaaE10
import Derived.Test.YtpbobopcmhpbbaaE14
set_option linter.unusedVariables false
set_option linter.unusedSimpArgs false
namespace Go.Ev
attribute [local go_sem] eq_self bindW_some bindW_map bindW_ite bindW_iteN W_seq W_region W_draw W_cond W_condK W_ret W_skip W_exit W_scope W_label W_block blockK_norm blockK_ret blockK_exit WO_nil WO_cons WO_guard WD_nil WD_cons WD_guard guardV guardW_boolT guardW_boolF guardW_tup fpL_some fpL_none footprint thenK_norm thenK_ret thenK_exit put_some put_none ev_tmp ev_con ev_func ofK_int ofK_bool ofK_str ofK_nil evOp evBuiltin evCall evLen getElem_16 getElem_4 List.length_cons List.length_nil List.cons_append List.nil_append List.append_nil if_false if_true Bool.false_eq_true Bool.true_eq_false Option.map_some Option.map_none List.map_cons List.map_nil evBinOp evBin evUn asB_bool splitB_decide splitB_true splitB_false splitB_beq splitB_bne splitB_not endK_ret endK_norm List.getElem?_cons_zero List.getElem?_cons_succ evResults evResult packRes retK_norm retK_ret cellsAt mkVal evFieldAddr evField evIndexAddr evPart evStore evBuild evBuildSlice fillC fillE evSlice evMakeSlice evConvert getRow AV.cells List.head?_cons List.drop_zero List.drop_succ_cons List.take_zero List.take_succ_cons List.drop_nil List.take_nil List.all_cons List.all_nil AV.ok Bool.and_self Bool.and_true Bool.true_and and_self and_true true_and Nat.zero_add Nat.add_zero setCells splice pairsOk pairsX altW_none altW_some cfg_al WI_nil WI_cons FP.apart heapEq_refl sameAt_refl Bool.or_true Bool.true_or Bool.or_false srcElems elemsOf mutDst indDst roundK_norm roundK_exit roundK_ret List.length_map List.getElem?_map Int.toNat_natCast decide_true decide_false Bool.not_true Bool.not_false List.set set_0 set_1 set_2 set_3 set_4 look_hit look lookD_hit lookD_cons lookD_nil ins_hit ins upd_hit upd rem1_hit rem1 dropT dropSt_eq initT cfg_dd cfg_bd cfg_ra actL_nil actL_cons act1 updT_hit updT frzB retE_norm retE_ret bndO bnd evEq eqCells not_false_eq_true not_true_eq_false toList_some Array.size_empty List.length_append tySzE List.head?_drop Nat.mul_one sameAt_zero sameAt_two sameAt_three sameAt_four sameAt_five endE_norm endE_ret head_take1 List.contains_nil List.contains_cons Bool.or_self dlt_t dlt_f dle_t dle_f dgt_t dgt_f dge_t dge_f beq_t beq_f bne_t bne_f lt_T le_T nle_T nle_F Go.IntWalk.i64_in Go.IntWalk.i64_quo Go.IntWalk.rem_in room_ok
section
attribute [local go_sem] evAppend List.map_append ty0 ty3 ty4 ty23 ty24 ty26 ty86 ty212
open Go.Proofs Go.RowKit Go.IntWalk
set_option maxRecDepth 100000
set_option linter.unusedSimpArgs false
set_option linter.unusedVariables false
set_option maxHeartbeats 8000000
theorem f150 (op:Int) (H:List MB):call Try.prog pol1 150 [I op] H =
 some (.tup [I (if op=2∨op=3 then 2 else if op=4∨op=5∨op=7∨op=8∨op=9 then 1 else if op=10 then 2 else 0),I (if op=2∨op=3 then -1 else if op=4∨op=5∨op=7∨op=8∨op=9 then 1 else if op=10 then 2 else 0)],H):=by
 refine call_run Try.func150 rfl rfl rfl rfl rfl rfl (fun _=>rfl) rfl rfl ?_ H
 by_cases h1:op=2∨op=3
 ·rw[if_pos h1,if_pos h1]
  rcases h1 with rfl|rfl
  all_goals (
   simp +contextual (disch:=omega) only[Try.f150,dd150,go_sem,↓reduceIte,List.reduceReplicate,Nat.reduceAdd,Nat.reduceSub,reduceCtorEq,Nat.reduceLeDiff,Nat.reduceMul,Nat.reduceLT,Nat.reduceEqDiff,Int.reduceBNe,Int.reduceBEq,Int.reduceEq,Int.reduceLT,Int.reduceLE,Int.reduceGT,Int.reduceGE,mu150,Nat.reduceBEq,↓wrap_up,↓wrap_down,↓wrap_pred,↓wrap_sub_nat,Int.reduceToNat]
   exact fzEq rfl rfl)
 ·rw[if_neg h1,if_neg h1]
  by_cases h2:op=4∨op=5∨op=7∨op=8∨op=9
  ·rw[if_pos h2]
   rcases h2 with rfl|rfl|rfl|rfl|rfl
   all_goals (
    simp +contextual (disch:=omega) only[Try.f150,dd150,go_sem,↓reduceIte,List.reduceReplicate,Nat.reduceAdd,Nat.reduceSub,reduceCtorEq,Nat.reduceLeDiff,Nat.reduceMul,Nat.reduceLT,Nat.reduceEqDiff,Int.reduceBNe,Int.reduceBEq,Int.reduceEq,Int.reduceLT,Int.reduceLE,Int.reduceGT,Int.reduceGE,mu150,Nat.reduceBEq,↓wrap_up,↓wrap_down,↓wrap_pred,↓wrap_sub_nat,Int.reduceToNat]
    exact fzEq rfl rfl)
  ·rw[if_neg h2]
   by_cases h3:op=10
   ·rw[if_pos h3]
    subst h3
    simp +contextual (disch:=omega) only[Try.f150,dd150,go_sem,↓reduceIte,List.reduceReplicate,Nat.reduceAdd,Nat.reduceSub,reduceCtorEq,Nat.reduceLeDiff,Nat.reduceMul,Nat.reduceLT,Nat.reduceEqDiff,Int.reduceBNe,Int.reduceBEq,Int.reduceEq,Int.reduceLT,Int.reduceLE,Int.reduceGT,Int.reduceGE,mu150,Nat.reduceBEq,↓wrap_up,↓wrap_down,↓wrap_pred,↓wrap_sub_nat,Int.reduceToNat]
    exact fzEq rfl rfl
   ·rw[if_neg h3]
    simp +contextual (disch:=omega) only[Try.f150,dd150,go_sem,↓reduceIte,List.reduceReplicate,Nat.reduceAdd,Nat.reduceSub,reduceCtorEq,Nat.reduceLeDiff,Nat.reduceMul,Nat.reduceLT,Nat.reduceEqDiff,Int.reduceBNe,Int.reduceBEq,Int.reduceEq,Int.reduceLT,Int.reduceLE,Int.reduceGT,Int.reduceGE,mu150,Nat.reduceBEq,↓wrap_up,↓wrap_down,↓wrap_pred,↓wrap_sub_nat,Int.reduceToNat]
    exact fzEq rfl rfl
theorem f151 (l:List (Int×Int)) (top:Int) (ht:top≤1114111) (hl:l.length≤1000000) (H:List MB):call Try.prog pol1 151 [.sl false (l.map spanAV),I top] H=some (.bool (spansG l top),H):=by
 refine call_run Try.func151 rfl rfl rfl rfl rfl rfl (fun _=>rfl) (by simp[AV.plain,AV.plainL,plain_span]) rfl ?_ H
 by_cases h64:64 < l.length
 ·rw[spansG_long h64]
  simp +contextual (disch:=omega) only[Try.f151,dd151,go_sem,↓reduceIte,List.reduceReplicate,Nat.reduceAdd,Nat.reduceSub,reduceCtorEq,Nat.reduceLeDiff,Nat.reduceMul,Nat.reduceLT,Nat.reduceEqDiff,Int.reduceBNe,Int.reduceBEq,Int.reduceEq,Int.reduceLT,Int.reduceLE,Int.reduceGT,Int.reduceGE,mu151,Nat.reduceBEq,↓wrap_up,↓wrap_down,↓wrap_pred,↓wrap_sub_nat,Int.reduceToNat]
  exact fzEq rfl rfl
 ·simp +contextual (disch:=omega) only[Try.f151,dd151,go_sem,↓reduceIte,List.reduceReplicate,Nat.reduceAdd,Nat.reduceSub,reduceCtorEq,Nat.reduceLeDiff,Nat.reduceMul,Nat.reduceLT,Nat.reduceEqDiff,Int.reduceBNe,Int.reduceBEq,Int.reduceEq,Int.reduceLT,Int.reduceLE,Int.reduceGT,Int.reduceGE,mu151,Nat.reduceBEq,↓wrap_up,↓wrap_down,↓wrap_pred,↓wrap_sub_nat,Int.reduceToNat]
  refine W_count (M:=(mskOf (pol1.mask 151) (pol1.gc 151) (pol1.acts 151) 0 4)) rfl l.length (fun i=>(⟨62,[(5,I i),(1,I top),(0,.sl false (l.map spanAV))],[]⟩:St)) (fun i=>∀ k,k < i→badS l top k=false) ?_ ?_ (fun k h=>by omega) _ (by first|rfl|(refine prep_to (n:=0) (m:=⟨some [5,1,0],some 0,[]⟩) rfl rfl ?_ ?_ ?_<;>first|rfl|(simp[keepT,AV.underL,AV.under,MB.under,underL_plain,under_plain,underL_append,plain_ints,plain_span,plain_ins,plain_prg,-List.map_take,-List.map_replicate,-List.map_set];done)|(simp[keepT,AV.underL,AV.under,MB.under,underL_plain,under_plain,underL_append,plain_ints,plain_span,plain_ins,plain_prg,-List.map_take,-List.map_replicate,-List.map_set];omega)))
  ·intro i hlt hg
   obtain⟨p,hp⟩:∃ p,l[i]?=some p:=⟨_,List.getElem?_eq_getElem hlt⟩
   have ext:badS l top i=false→∀ k,k < i+1→badS l top k=false:=fun h k hk=>by
    rcases Nat.lt_or_ge k i with h1|h1
    ·exact hg k h1
    ·obtain rfl:k=i:=by omega
     exact h
   by_cases hgd:p.1 < 0∨p.2 < p.1∨top < p.2
   ·rw[spansG_bad hlt (badS_lt hp hgd)]
    have hgd':p.1 < 0∨(¬ p.1 < 0∧p.2 < p.1)∨(¬ p.1 < 0∧¬ p.2 < p.1∧top < p.2):=by omega
    rcases hgd' with h|⟨h,h'⟩|⟨h,h',h''⟩
    all_goals (
     simp +contextual (disch:=omega) only[Try.f151,dd151,go_sem,↓reduceIte,List.reduceReplicate,Nat.reduceAdd,Nat.reduceSub,reduceCtorEq,Nat.reduceLeDiff,Nat.reduceMul,Nat.reduceLT,Nat.reduceEqDiff,Int.reduceBNe,Int.reduceBEq,Int.reduceEq,Int.reduceLT,Int.reduceLE,Int.reduceGT,Int.reduceGE,mu151,Nat.reduceBEq,↓wrap_up,↓wrap_down,↓wrap_pred,↓wrap_sub_nat,Int.reduceToNat,hp,spanAV]
     repeat' (first|intro _|apply And.intro|(unfold dOk;kernel_rfl)|exact St.beq_refl _|(show altO _ _ _ _=true;kernel_rfl)|(show (_ || _)=true;kernel_rfl)|(show (_ && _)=true;kernel_rfl))
     all_goals exact fzEq rfl rfl)
   ·rcases i with _|i
    ·simp +contextual (disch:=omega) only[Try.f151,dd151,go_sem,↓reduceIte,List.reduceReplicate,Nat.reduceAdd,Nat.reduceSub,reduceCtorEq,Nat.reduceLeDiff,Nat.reduceMul,Nat.reduceLT,Nat.reduceEqDiff,Int.reduceBNe,Int.reduceBEq,Int.reduceEq,Int.reduceLT,Int.reduceLE,Int.reduceGT,Int.reduceGE,mu151,Nat.reduceBEq,↓wrap_up,↓wrap_down,↓wrap_pred,↓wrap_sub_nat,Int.reduceToNat,hp,spanAV]
     repeat' (first|intro _|apply And.intro|(unfold dOk;kernel_rfl)|exact St.beq_refl _|(show altO _ _ _ _=true;kernel_rfl)|(show (_ || _)=true;kernel_rfl)|(show (_ && _)=true;kernel_rfl))
     ·exact ext (badS_zero hp hgd) _ ‹_›
     ·exact(by first|rfl|(refine prep_to (n:=0) (m:=⟨some [5,1,0],some 0,[]⟩) rfl rfl ?_ ?_ ?_<;>first|rfl|(simp[keepT,AV.underL,AV.under,MB.under,underL_plain,under_plain,underL_append,plain_ints,plain_span,plain_ins,plain_prg,-List.map_take,-List.map_replicate,-List.map_set];done)|(simp[keepT,AV.underL,AV.under,MB.under,underL_plain,under_plain,underL_append,plain_ints,plain_span,plain_ins,plain_prg,-List.map_take,-List.map_replicate,-List.map_set];omega)))
    ·obtain⟨q,hq⟩:∃ q,l[i]?=some q:=⟨_,List.getElem?_eq_getElem (by omega)⟩
     have hqb:=badS_hi hq (hg i (by omega))
     have hb:=badS_succ hp hq hgd
     by_cases h2:p.1 < q.2+2
     ·rw[spansG_bad hlt (by rw[hb];simp[h2])]
      simp +contextual (disch:=omega) only[Try.f151,dd151,go_sem,↓reduceIte,List.reduceReplicate,Nat.reduceAdd,Nat.reduceSub,reduceCtorEq,Nat.reduceLeDiff,Nat.reduceMul,Nat.reduceLT,Nat.reduceEqDiff,Int.reduceBNe,Int.reduceBEq,Int.reduceEq,Int.reduceLT,Int.reduceLE,Int.reduceGT,Int.reduceGE,mu151,Nat.reduceBEq,↓wrap_up,↓wrap_down,↓wrap_pred,↓wrap_sub_nat,Int.reduceToNat,hp,hq,spanAV]
      repeat' (first|intro _|apply And.intro|(unfold dOk;kernel_rfl)|exact St.beq_refl _|(show altO _ _ _ _=true;kernel_rfl)|(show (_ || _)=true;kernel_rfl)|(show (_ && _)=true;kernel_rfl))
      all_goals exact fzEq rfl rfl
     ·simp +contextual (disch:=omega) only[Try.f151,dd151,go_sem,↓reduceIte,List.reduceReplicate,Nat.reduceAdd,Nat.reduceSub,reduceCtorEq,Nat.reduceLeDiff,Nat.reduceMul,Nat.reduceLT,Nat.reduceEqDiff,Int.reduceBNe,Int.reduceBEq,Int.reduceEq,Int.reduceLT,Int.reduceLE,Int.reduceGT,Int.reduceGE,mu151,Nat.reduceBEq,↓wrap_up,↓wrap_down,↓wrap_pred,↓wrap_sub_nat,Int.reduceToNat,hp,hq,spanAV]
      repeat' (first|intro _|apply And.intro|(unfold dOk;kernel_rfl)|exact St.beq_refl _|(show altO _ _ _ _=true;kernel_rfl)|(show (_ || _)=true;kernel_rfl)|(show (_ && _)=true;kernel_rfl))
      ·exact ext (by rw[hb];simp[h2]) _ ‹_›
      ·exact(by first|rfl|(refine prep_to (n:=0) (m:=⟨some [5,1,0],some 0,[]⟩) rfl rfl ?_ ?_ ?_<;>first|rfl|(simp[keepT,AV.underL,AV.under,MB.under,underL_plain,under_plain,underL_append,plain_ints,plain_span,plain_ins,plain_prg,-List.map_take,-List.map_replicate,-List.map_set];done)|(simp[keepT,AV.underL,AV.under,MB.under,underL_plain,under_plain,underL_append,plain_ints,plain_span,plain_ins,plain_prg,-List.map_take,-List.map_replicate,-List.map_set];omega)))
  ·intro hg
   rw[spansG_good (by omega) hg]
   simp +contextual (disch:=omega) only[Try.f151,dd151,go_sem,↓reduceIte,List.reduceReplicate,Nat.reduceAdd,Nat.reduceSub,reduceCtorEq,Nat.reduceLeDiff,Nat.reduceMul,Nat.reduceLT,Nat.reduceEqDiff,Int.reduceBNe,Int.reduceBEq,Int.reduceEq,Int.reduceLT,Int.reduceLE,Int.reduceGT,Int.reduceGE,mu151,Nat.reduceBEq,↓wrap_up,↓wrap_down,↓wrap_pred,↓wrap_sub_nat,Int.reduceToNat]
   exact fzEq rfl rfl
theorem f135 (caps top:Int) (ht:top≤1114111) (op:Int) (set:List (Int×Int)) (kids:List Re) (mn mx md n:Int) (neg:Bool) (hs:set.length≤1000000) (hk:kids.length≤1000000) (H:List MB) :
 call Try.prog pol1 135 [.agg (nodeL op set kids mn mx md n neg),I caps,I top] H=some (.bool (formedG caps top (.mk op set kids mn mx md n neg)),H):=by
 refine call_run Try.func135 rfl rfl rfl rfl rfl rfl (fun _=>rfl) (by simp[AV.plain,AV.plainL,plain_span,plain_kids]) rfl ?_ H
 have h151:=f151 set top ht hs
 have h150:=f150 op
 by_cases h0:op < 0∨11 < op
 ·have e:formedG caps top (.mk op set kids mn mx md n neg)=false:=by
   have:¬ (0≤op∧op≤11):=by omega
   simp only[formedG,Bool.and_eq_false_iff,decide_eq_false_iff_not]
   omega
  rw[e]
  have h0':op < 0∨(¬ op < 0∧11 < op):=by omega
  rcases h0' with h|⟨h,h'⟩
  all_goals (
   simp +contextual (disch:=omega) only[Try.f135,dd135,go_sem,↓reduceIte,List.reduceReplicate,Nat.reduceAdd,Nat.reduceSub,reduceCtorEq,Nat.reduceLeDiff,Nat.reduceMul,Nat.reduceLT,Nat.reduceEqDiff,Int.reduceBNe,Int.reduceBEq,Int.reduceEq,Int.reduceLT,Int.reduceLE,Int.reduceGT,Int.reduceGE,mu135,Nat.reduceBEq,↓wrap_up,↓wrap_down,↓wrap_pred,↓wrap_sub_nat,Int.reduceToNat,h150]
   repeat' (first|intro _|apply And.intro|(unfold dOk;kernel_rfl)|exact St.beq_refl _|(show altO _ _ _ _=true;kernel_rfl)|(show (_ || _)=true;kernel_rfl)|(show (_ && _)=true;kernel_rfl))
   all_goals exact fzEq rfl rfl)
 have hop:op=1∨op=4∨op=0∨op=2∨op=3∨op=5∨op=6∨op=7∨op=8∨op=9∨op=10∨op=11:=by omega
 clear h0
 rcases hop with rfl|rfl|rfl|rfl|rfl|rfl|rfl|rfl|rfl|rfl|rfl|rfl
 ·cases hsp:spansG set top
  all_goals (
   rw[hsp]at h151
   simp at h150
   cases neg <;>
   simp +contextual (disch:=omega) only[Try.f135,dd135,go_sem,↓reduceIte,List.reduceReplicate,Nat.reduceAdd,Nat.reduceSub,reduceCtorEq,Nat.reduceLeDiff,Nat.reduceMul,Nat.reduceLT,Nat.reduceEqDiff,Int.reduceBNe,Int.reduceBEq,Int.reduceEq,Int.reduceLT,Int.reduceLE,Int.reduceGT,Int.reduceGE,mu135,Nat.reduceBEq,↓wrap_up,↓wrap_down,↓wrap_pred,↓wrap_sub_nat,Int.reduceToNat,h150,h151]
   repeat' (first|intro _|apply And.intro|(unfold dOk;kernel_rfl)|exact St.beq_refl _|(show altO _ _ _ _=true;kernel_rfl)|(show (_ || _)=true;kernel_rfl)|(show (_ && _)=true;kernel_rfl))
   all_goals (clear h151 h150;refine fzEq rfl (congrArg AV.bool ?_);first|(simp_all [formedG,kidsG,repG,-List.length_eq_zero_iff];done)|(simp_all [formedG,kidsG,repG,-List.length_eq_zero_iff];omega)))
 all_goals (
  simp at h150
  cases neg <;>
  simp +contextual (disch:=omega) only[Try.f135,dd135,go_sem,↓reduceIte,List.reduceReplicate,Nat.reduceAdd,Nat.reduceSub,reduceCtorEq,Nat.reduceLeDiff,Nat.reduceMul,Nat.reduceLT,Nat.reduceEqDiff,Int.reduceBNe,Int.reduceBEq,Int.reduceEq,Int.reduceLT,Int.reduceLE,Int.reduceGT,Int.reduceGE,mu135,Nat.reduceBEq,↓wrap_up,↓wrap_down,↓wrap_pred,↓wrap_sub_nat,Int.reduceToNat,h150]
  repeat' (first|intro _|apply And.intro|(unfold dOk;kernel_rfl)|exact St.beq_refl _|(show altO _ _ _ _=true;kernel_rfl)|(show (_ || _)=true;kernel_rfl)|(show (_ && _)=true;kernel_rfl))
  all_goals (clear h151 h150;refine fzEq rfl (congrArg AV.bool ?_);first|(simp_all [formedG,kidsG,repG,-List.length_eq_zero_iff];done)|(simp_all [formedG,kidsG,repG,-List.length_eq_zero_iff];omega)))
end
section
attribute [local go_sem] evAppend List.map_append ty0 ty3 ty4 ty24 ty26 ty28 ty36
open Go.Proofs Go.RowKit Go.IntWalk
set_option maxRecDepth 100000
set_option linter.unusedSimpArgs false
set_option linter.unusedVariables false
set_option maxHeartbeats 8000000
theorem f114 (caps top:Int) (ht:top≤1114111):∀(N:Nat) (r:Re),r.wt≤N→r.wt≤1000000→∀ H,call Try.prog pol1 114 [reAV r,I caps,I top] H=some (.bool (wholeG caps top r),H)
 | 0,r,h,_,_=>by have:=r.wt_pos;omega
 | N+1,.mk op set kids mn mx md n neg,h,hN,H=>by
   have hkl:=Re.wtL_len kids
   have hwt:1+set.length+Re.wtL kids=(Re.mk op set kids mn mx md n neg).wt:=by simp[Re.wt]
   have ih:=fun k (hk:k∈kids)=>f114 caps top ht N k (by have:=Re.wtL_mem hk;omega) (by have:=Re.wtL_mem hk;omega)
   have h135:=f135 caps top ht op set kids mn mx md n neg (by omega) (by omega)
   rw[show reAV (.mk op set kids mn mx md n neg)=.agg (nodeL op set kids mn mx md n neg) from congrArg AV.agg reC_mk]
   refine call_run Try.func114 rfl rfl rfl rfl rfl rfl (fun _=>rfl) (by simp[AV.plain,AV.plainL,plain_span,plain_kids]) rfl ?_ H
   rw[wholeG]
   cases hfg:formedG caps top (.mk op set kids mn mx md n neg) with
   | false=>
     rw[hfg]at h135
     simp +contextual (disch:=omega) only[Try.f114,dd114,go_sem,↓reduceIte,List.reduceReplicate,Nat.reduceAdd,Nat.reduceSub,reduceCtorEq,Nat.reduceLeDiff,Nat.reduceMul,Nat.reduceLT,Nat.reduceEqDiff,Int.reduceBNe,Int.reduceBEq,Int.reduceEq,Int.reduceLT,Int.reduceLE,Int.reduceGT,Int.reduceGE,mu114,Nat.reduceBEq,↓wrap_up,↓wrap_down,↓wrap_pred,↓wrap_sub_nat,Int.reduceToNat,h135]
     exact fzEq rfl rfl
   | true=>
     rw[hfg]at h135
     simp +contextual (disch:=omega) only[Try.f114,dd114,go_sem,↓reduceIte,List.reduceReplicate,Nat.reduceAdd,Nat.reduceSub,reduceCtorEq,Nat.reduceLeDiff,Nat.reduceMul,Nat.reduceLT,Nat.reduceEqDiff,Int.reduceBNe,Int.reduceBEq,Int.reduceEq,Int.reduceLT,Int.reduceLE,Int.reduceGT,Int.reduceGE,mu114,Nat.reduceBEq,↓wrap_up,↓wrap_down,↓wrap_pred,↓wrap_sub_nat,Int.reduceToNat,h135]
     refine W_count (M:=(mskOf (pol1.mask 114) (pol1.gc 114) (pol1.acts 114) 0 4)) rfl kids.length (fun i=>(⟨29,[(7,I i),(3,.rf 0 1 0 0),(2,I top),(1,I caps)],[.row 8 [.agg (nodeL op set kids mn mx md n neg)] 0]⟩:St)) (fun i=>wholeL caps top (kids.take i)=true) ?_ ?_ (by simp[wholeL]) _ (by first|rfl|(refine prep_to (n:=1) (m:=⟨some [7,3,2,1],some 1,[]⟩) rfl rfl ?_ ?_ ?_<;>first|rfl|(simp[keepT,AV.underL,AV.under,MB.under,underL_plain,under_plain,underL_append,plain_ints,plain_span,plain_ins,plain_prg,-List.map_take,-List.map_replicate,-List.map_set,plain_kids];done)|(simp[keepT,AV.underL,AV.under,MB.under,underL_plain,under_plain,underL_append,plain_ints,plain_span,plain_ins,plain_prg,-List.map_take,-List.map_replicate,-List.map_set,plain_kids];omega)))
     ·intro i hi hg
      obtain⟨k,hk⟩:∃ k,kids[i]?=some k:=⟨_,List.getElem?_eq_getElem hi⟩
      have ihk:=ih k (List.mem_of_getElem? hk)
      have hl8:=reC_len k
      have ht8:=reC_take k
      have e3:=wholeL_take (caps:=caps) (top:=top) hk
      cases hn:wholeG caps top k with
      | false=>
        rw[hn]at ihk
        have hf:wholeL caps top kids=false:=by
         rw[Bool.eq_false_iff]
         intro hw
         rw[wholeL_iff]at hw
         have:=hw k (List.mem_of_getElem? hk)
         rw[hn]at this;cases this
        rw[hf]
        simp +contextual (disch:=omega) only[Try.f114,dd114,go_sem,↓reduceIte,List.reduceReplicate,Nat.reduceAdd,Nat.reduceSub,reduceCtorEq,Nat.reduceLeDiff,Nat.reduceMul,Nat.reduceLT,Nat.reduceEqDiff,Int.reduceBNe,Int.reduceBEq,Int.reduceEq,Int.reduceLT,Int.reduceLE,Int.reduceGT,Int.reduceGE,mu114,Nat.reduceBEq,↓wrap_up,↓wrap_down,↓wrap_pred,↓wrap_sub_nat,Int.reduceToNat,hk,ihk,hl8,ht8]
        exact fzEq rfl rfl
      | true=>
        rw[hn]at ihk
        rw[e3,hg,hn]
        simp +contextual (disch:=omega) only[Try.f114,dd114,go_sem,↓reduceIte,List.reduceReplicate,Nat.reduceAdd,Nat.reduceSub,reduceCtorEq,Nat.reduceLeDiff,Nat.reduceMul,Nat.reduceLT,Nat.reduceEqDiff,Int.reduceBNe,Int.reduceBEq,Int.reduceEq,Int.reduceLT,Int.reduceLE,Int.reduceGT,Int.reduceGE,mu114,Nat.reduceBEq,↓wrap_up,↓wrap_down,↓wrap_pred,↓wrap_sub_nat,Int.reduceToNat,hk,ihk,hl8,ht8]
        exact(by first|rfl|(refine prep_to (n:=1) (m:=⟨some [7,3,2,1],some 1,[]⟩) rfl rfl ?_ ?_ ?_<;>first|rfl|(simp[keepT,AV.underL,AV.under,MB.under,underL_plain,under_plain,underL_append,plain_ints,plain_span,plain_ins,plain_prg,-List.map_take,-List.map_replicate,-List.map_set,plain_kids];done)|(simp[keepT,AV.underL,AV.under,MB.under,underL_plain,under_plain,underL_append,plain_ints,plain_span,plain_ins,plain_prg,-List.map_take,-List.map_replicate,-List.map_set,plain_kids];omega)))
     ·intro hg
      rw[List.take_length]at hg
      rw[hg]
      simp +contextual (disch:=omega) only[Try.f114,dd114,go_sem,↓reduceIte,List.reduceReplicate,Nat.reduceAdd,Nat.reduceSub,reduceCtorEq,Nat.reduceLeDiff,Nat.reduceMul,Nat.reduceLT,Nat.reduceEqDiff,Int.reduceBNe,Int.reduceBEq,Int.reduceEq,Int.reduceLT,Int.reduceLE,Int.reduceGT,Int.reduceGE,mu114,Nat.reduceBEq,↓wrap_up,↓wrap_down,↓wrap_pred,↓wrap_sub_nat,Int.reduceToNat]
      exact fzEq rfl rfl
theorem f52 (p:Pat) (hw:p.re.wt≤1000000) (H:List MB):call Try.prog pol1 52 [patAV p] H=some (I (validP p),H):=by
 obtain⟨re,caps,runes⟩:=p
 simp only at hw
 refine call_run Try.func52 rfl rfl rfl rfl rfl rfl (fun _=>rfl) (by simp[AV.plainL,AV.plain];exact plain_patC _) rfl ?_ H
 have hl8:=reC_len re
 have hget8:(reC re++[I caps,.bool runes])[8]?=some (I caps):=by rw[List.getElem?_append_right (by omega),hl8];rfl
 have hget9:(reC re++[I caps,.bool runes])[9]?=some (.bool runes):=by rw[List.getElem?_append_right (by omega),hl8];rfl
 have htk8:∀ l,List.take 8 (reC re++l)=reC re:=fun l=>by
  rw[List.take_append_of_le_length (by omega)];exact List.take_of_length_le (by omega)
 have hall:=reC_ok re
 have h112:=f112 re.wt re (Nat.le_refl _) hw
 have h113:=f113 re.wt re (Nat.le_refl _) hw
 have h114:=f114 caps (topI runes) (topI_le runes) re.wt re (Nat.le_refl _) hw
 have hsw:=re.size_wt
 cases runes
 ·rw[show topI false=255 from rfl]at h114
  by_cases h1:256 < re.size
  ·rw[show validP ⟨re,caps,false⟩=4 from if_pos (.inl h1)]
   simp +contextual (disch:=omega) only[Try.f52,dd52,go_sem,↓reduceIte,List.reduceReplicate,Nat.reduceAdd,Nat.reduceSub,reduceCtorEq,Nat.reduceLeDiff,Nat.reduceMul,Nat.reduceLT,Nat.reduceEqDiff,Int.reduceBNe,Int.reduceBEq,Int.reduceEq,Int.reduceLT,Int.reduceLE,Int.reduceGT,Int.reduceGE,mu52,Nat.reduceBEq,↓wrap_up,↓wrap_down,↓wrap_pred,↓wrap_sub_nat,Int.reduceToNat,hl8,hget8,hget9,h112,h113,hall,htk8,List.all_append]
   repeat' (first|intro _|apply And.intro|(unfold dOk;kernel_rfl)|exact St.beq_refl _|(show altO _ _ _ _=true;kernel_rfl)|(show (_ || _)=true;kernel_rfl)|(show (_ && _)=true;kernel_rfl))
   all_goals exact fzEq rfl rfl
  by_cases h2:24 < re.depth
  ·rw[show validP ⟨re,caps,false⟩=4 from if_pos (.inr h2)]
   simp +contextual (disch:=omega) only[Try.f52,dd52,go_sem,↓reduceIte,List.reduceReplicate,Nat.reduceAdd,Nat.reduceSub,reduceCtorEq,Nat.reduceLeDiff,Nat.reduceMul,Nat.reduceLT,Nat.reduceEqDiff,Int.reduceBNe,Int.reduceBEq,Int.reduceEq,Int.reduceLT,Int.reduceLE,Int.reduceGT,Int.reduceGE,mu52,Nat.reduceBEq,↓wrap_up,↓wrap_down,↓wrap_pred,↓wrap_sub_nat,Int.reduceToNat,hl8,hget8,hget9,h112,h113,hall,htk8,List.all_append]
   repeat' (first|intro _|apply And.intro|(unfold dOk;kernel_rfl)|exact St.beq_refl _|(show altO _ _ _ _=true;kernel_rfl)|(show (_ || _)=true;kernel_rfl)|(show (_ && _)=true;kernel_rfl))
   all_goals exact fzEq rfl rfl
  have hno:¬ (256 < re.size∨24 < re.depth):=by omega
  have hcp:(caps < 0)∨(¬ caps < 0∧9 < caps)∨(¬ caps < 0∧¬ 9 < caps):=by omega
  rcases hcp with h3|⟨h3,h4⟩|⟨h3,h4⟩
  ·rw[show validP ⟨re,caps,false⟩=1 from(if_neg hno).trans (if_pos (.inl h3))]
   simp +contextual (disch:=omega) only[Try.f52,dd52,go_sem,↓reduceIte,List.reduceReplicate,Nat.reduceAdd,Nat.reduceSub,reduceCtorEq,Nat.reduceLeDiff,Nat.reduceMul,Nat.reduceLT,Nat.reduceEqDiff,Int.reduceBNe,Int.reduceBEq,Int.reduceEq,Int.reduceLT,Int.reduceLE,Int.reduceGT,Int.reduceGE,mu52,Nat.reduceBEq,↓wrap_up,↓wrap_down,↓wrap_pred,↓wrap_sub_nat,Int.reduceToNat,hl8,hget8,hget9,h112,h113,hall,htk8,List.all_append]
   repeat' (first|intro _|apply And.intro|(unfold dOk;kernel_rfl)|exact St.beq_refl _|(show altO _ _ _ _=true;kernel_rfl)|(show (_ || _)=true;kernel_rfl)|(show (_ && _)=true;kernel_rfl))
   all_goals exact fzEq rfl rfl
  ·rw[show validP ⟨re,caps,false⟩=1 from(if_neg hno).trans (if_pos (.inr (.inl h4)))]
   simp +contextual (disch:=omega) only[Try.f52,dd52,go_sem,↓reduceIte,List.reduceReplicate,Nat.reduceAdd,Nat.reduceSub,reduceCtorEq,Nat.reduceLeDiff,Nat.reduceMul,Nat.reduceLT,Nat.reduceEqDiff,Int.reduceBNe,Int.reduceBEq,Int.reduceEq,Int.reduceLT,Int.reduceLE,Int.reduceGT,Int.reduceGE,mu52,Nat.reduceBEq,↓wrap_up,↓wrap_down,↓wrap_pred,↓wrap_sub_nat,Int.reduceToNat,hl8,hget8,hget9,h112,h113,hall,htk8,List.all_append]
   repeat' (first|intro _|apply And.intro|(unfold dOk;kernel_rfl)|exact St.beq_refl _|(show altO _ _ _ _=true;kernel_rfl)|(show (_ || _)=true;kernel_rfl)|(show (_ && _)=true;kernel_rfl))
   all_goals exact fzEq rfl rfl
  ·cases hwg:wholeG caps 255 re with
   | true=>
     rw[hwg]at h114
     rw[show validP ⟨re,caps,false⟩=0 from(if_neg hno).trans (if_neg (by simp only[topI,Bool.false_eq_true,if_false,if_true,hwg];simp;omega))]
     simp +contextual (disch:=omega) only[Try.f52,dd52,go_sem,↓reduceIte,List.reduceReplicate,Nat.reduceAdd,Nat.reduceSub,reduceCtorEq,Nat.reduceLeDiff,Nat.reduceMul,Nat.reduceLT,Nat.reduceEqDiff,Int.reduceBNe,Int.reduceBEq,Int.reduceEq,Int.reduceLT,Int.reduceLE,Int.reduceGT,Int.reduceGE,mu52,Nat.reduceBEq,↓wrap_up,↓wrap_down,↓wrap_pred,↓wrap_sub_nat,Int.reduceToNat,hl8,hget8,hget9,h112,h113,h114,hall,htk8,List.all_append]
     repeat' (first|intro _|apply And.intro|(unfold dOk;kernel_rfl)|exact St.beq_refl _|(show altO _ _ _ _=true;kernel_rfl)|(show (_ || _)=true;kernel_rfl)|(show (_ && _)=true;kernel_rfl))
     all_goals exact fzEq rfl rfl
   | false=>
     rw[hwg]at h114
     rw[show validP ⟨re,caps,false⟩=1 from(if_neg hno).trans (if_pos (.inr (.inr hwg)))]
     simp +contextual (disch:=omega) only[Try.f52,dd52,go_sem,↓reduceIte,List.reduceReplicate,Nat.reduceAdd,Nat.reduceSub,reduceCtorEq,Nat.reduceLeDiff,Nat.reduceMul,Nat.reduceLT,Nat.reduceEqDiff,Int.reduceBNe,Int.reduceBEq,Int.reduceEq,Int.reduceLT,Int.reduceLE,Int.reduceGT,Int.reduceGE,mu52,Nat.reduceBEq,↓wrap_up,↓wrap_down,↓wrap_pred,↓wrap_sub_nat,Int.reduceToNat,hl8,hget8,hget9,h112,h113,h114,hall,htk8,List.all_append]
     repeat' (first|intro _|apply And.intro|(unfold dOk;kernel_rfl)|exact St.beq_refl _|(show altO _ _ _ _=true;kernel_rfl)|(show (_ || _)=true;kernel_rfl)|(show (_ && _)=true;kernel_rfl))
     all_goals exact fzEq rfl rfl
 ·rw[show topI true=1114111 from rfl]at h114
  by_cases h1:256 < re.size
  ·rw[show validP ⟨re,caps,true⟩=4 from if_pos (.inl h1)]
   simp +contextual (disch:=omega) only[Try.f52,dd52,go_sem,↓reduceIte,List.reduceReplicate,Nat.reduceAdd,Nat.reduceSub,reduceCtorEq,Nat.reduceLeDiff,Nat.reduceMul,Nat.reduceLT,Nat.reduceEqDiff,Int.reduceBNe,Int.reduceBEq,Int.reduceEq,Int.reduceLT,Int.reduceLE,Int.reduceGT,Int.reduceGE,mu52,Nat.reduceBEq,↓wrap_up,↓wrap_down,↓wrap_pred,↓wrap_sub_nat,Int.reduceToNat,hl8,hget8,hget9,h112,h113,hall,htk8,List.all_append]
   repeat' (first|intro _|apply And.intro|(unfold dOk;kernel_rfl)|exact St.beq_refl _|(show altO _ _ _ _=true;kernel_rfl)|(show (_ || _)=true;kernel_rfl)|(show (_ && _)=true;kernel_rfl))
   all_goals exact fzEq rfl rfl
  by_cases h2:24 < re.depth
  ·rw[show validP ⟨re,caps,true⟩=4 from if_pos (.inr h2)]
   simp +contextual (disch:=omega) only[Try.f52,dd52,go_sem,↓reduceIte,List.reduceReplicate,Nat.reduceAdd,Nat.reduceSub,reduceCtorEq,Nat.reduceLeDiff,Nat.reduceMul,Nat.reduceLT,Nat.reduceEqDiff,Int.reduceBNe,Int.reduceBEq,Int.reduceEq,Int.reduceLT,Int.reduceLE,Int.reduceGT,Int.reduceGE,mu52,Nat.reduceBEq,↓wrap_up,↓wrap_down,↓wrap_pred,↓wrap_sub_nat,Int.reduceToNat,hl8,hget8,hget9,h112,h113,hall,htk8,List.all_append]
   repeat' (first|intro _|apply And.intro|(unfold dOk;kernel_rfl)|exact St.beq_refl _|(show altO _ _ _ _=true;kernel_rfl)|(show (_ || _)=true;kernel_rfl)|(show (_ && _)=true;kernel_rfl))
   all_goals exact fzEq rfl rfl
  have hno:¬ (256 < re.size∨24 < re.depth):=by omega
  have hcp:(caps < 0)∨(¬ caps < 0∧9 < caps)∨(¬ caps < 0∧¬ 9 < caps):=by omega
  rcases hcp with h3|⟨h3,h4⟩|⟨h3,h4⟩
  ·rw[show validP ⟨re,caps,true⟩=1 from(if_neg hno).trans (if_pos (.inl h3))]
   simp +contextual (disch:=omega) only[Try.f52,dd52,go_sem,↓reduceIte,List.reduceReplicate,Nat.reduceAdd,Nat.reduceSub,reduceCtorEq,Nat.reduceLeDiff,Nat.reduceMul,Nat.reduceLT,Nat.reduceEqDiff,Int.reduceBNe,Int.reduceBEq,Int.reduceEq,Int.reduceLT,Int.reduceLE,Int.reduceGT,Int.reduceGE,mu52,Nat.reduceBEq,↓wrap_up,↓wrap_down,↓wrap_pred,↓wrap_sub_nat,Int.reduceToNat,hl8,hget8,hget9,h112,h113,hall,htk8,List.all_append]
   repeat' (first|intro _|apply And.intro|(unfold dOk;kernel_rfl)|exact St.beq_refl _|(show altO _ _ _ _=true;kernel_rfl)|(show (_ || _)=true;kernel_rfl)|(show (_ && _)=true;kernel_rfl))
   all_goals exact fzEq rfl rfl
  ·rw[show validP ⟨re,caps,true⟩=1 from(if_neg hno).trans (if_pos (.inr (.inl h4)))]
   simp +contextual (disch:=omega) only[Try.f52,dd52,go_sem,↓reduceIte,List.reduceReplicate,Nat.reduceAdd,Nat.reduceSub,reduceCtorEq,Nat.reduceLeDiff,Nat.reduceMul,Nat.reduceLT,Nat.reduceEqDiff,Int.reduceBNe,Int.reduceBEq,Int.reduceEq,Int.reduceLT,Int.reduceLE,Int.reduceGT,Int.reduceGE,mu52,Nat.reduceBEq,↓wrap_up,↓wrap_down,↓wrap_pred,↓wrap_sub_nat,Int.reduceToNat,hl8,hget8,hget9,h112,h113,hall,htk8,List.all_append]
   repeat' (first|intro _|apply And.intro|(unfold dOk;kernel_rfl)|exact St.beq_refl _|(show altO _ _ _ _=true;kernel_rfl)|(show (_ || _)=true;kernel_rfl)|(show (_ && _)=true;kernel_rfl))
   all_goals exact fzEq rfl rfl
  ·cases hwg:wholeG caps 1114111 re with
   | true=>
     rw[hwg]at h114
     rw[show validP ⟨re,caps,true⟩=0 from(if_neg hno).trans (if_neg (by simp only[topI,Bool.false_eq_true,if_false,if_true,hwg];simp;omega))]
     simp +contextual (disch:=omega) only[Try.f52,dd52,go_sem,↓reduceIte,List.reduceReplicate,Nat.reduceAdd,Nat.reduceSub,reduceCtorEq,Nat.reduceLeDiff,Nat.reduceMul,Nat.reduceLT,Nat.reduceEqDiff,Int.reduceBNe,Int.reduceBEq,Int.reduceEq,Int.reduceLT,Int.reduceLE,Int.reduceGT,Int.reduceGE,mu52,Nat.reduceBEq,↓wrap_up,↓wrap_down,↓wrap_pred,↓wrap_sub_nat,Int.reduceToNat,hl8,hget8,hget9,h112,h113,h114,hall,htk8,List.all_append]
     repeat' (first|intro _|apply And.intro|(unfold dOk;kernel_rfl)|exact St.beq_refl _|(show altO _ _ _ _=true;kernel_rfl)|(show (_ || _)=true;kernel_rfl)|(show (_ && _)=true;kernel_rfl))
     all_goals exact fzEq rfl rfl
   | false=>
     rw[hwg]at h114
     rw[show validP ⟨re,caps,true⟩=1 from(if_neg hno).trans (if_pos (.inr (.inr hwg)))]
     simp +contextual (disch:=omega) only[Try.f52,dd52,go_sem,↓reduceIte,List.reduceReplicate,Nat.reduceAdd,Nat.reduceSub,reduceCtorEq,Nat.reduceLeDiff,Nat.reduceMul,Nat.reduceLT,Nat.reduceEqDiff,Int.reduceBNe,Int.reduceBEq,Int.reduceEq,Int.reduceLT,Int.reduceLE,Int.reduceGT,Int.reduceGE,mu52,Nat.reduceBEq,↓wrap_up,↓wrap_down,↓wrap_pred,↓wrap_sub_nat,Int.reduceToNat,hl8,hget8,hget9,h112,h113,h114,hall,htk8,List.all_append]
     repeat' (first|intro _|apply And.intro|(unfold dOk;kernel_rfl)|exact St.beq_refl _|(show altO _ _ _ _=true;kernel_rfl)|(show (_ || _)=true;kernel_rfl)|(show (_ && _)=true;kernel_rfl))
     all_goals exact fzEq rfl rfl
end
section
attribute [local go_sem] List.map_append ty0 ty3 ty4 ty26 ty28 ty36 ty39 ty41 ty108
open Go.Proofs Go.RowKit Go.IntWalk
set_option maxRecDepth 100000
set_option linter.unusedSimpArgs false
set_option linter.unusedVariables false
set_option maxHeartbeats 8000000
def compP (p:Pat):Prg×Int:=
 if validP p=0 then
  if compG [] p.re=true then
   if lenG p.re+1≤8192 then(⟨codeG p.re 0++[⟨0,0,0,0,[]⟩],p.caps,p.runes⟩,0) else(⟨[],0,false⟩,4)
  else(⟨[],0,false⟩,10)
 else(⟨[],0,false⟩,validP p)
theorem valid_facts {p:Pat} (h:validP p=0):p.re.size≤256∧p.re.depth≤24∧0≤p.caps∧p.caps≤9∧wholeG p.caps (topI p.runes) p.re=true:=by
 unfold validP at h
 split at h
 ·cases h
 ·split at h
  ·cases h
  ·rename_i h1 h2
   cases hw:wholeG p.caps (topI p.runes) p.re with
   | true=>exact⟨by omega,by omega,by omega,by omega,rfl⟩
   | false=>exact absurd (.inr (.inr hw)) h2
theorem f53n (caps top:Int) (r:Re) (hN:r.wt≤1000000) (hw:wholeG caps top r=true) (H:List MB):call Try.prog pol1 53 [reAV r,.sl true []] H=some (.bool (compG [] r),H):=by
 rw[← f53 caps top r.wt r [] (Nat.le_refl _) hN (by simp;omega) hw H]
 refine call_frz' rfl ?_ (by simp[AV.plain,AV.plainL,plain_reC])
 have hby:∀ i,pol1.byref 53 i=false:=fun i=>rfl
 have hz:fz (reAV r) H=some (reAV r,H):=fz_plain _ (by simp[AV.plain,plain_reC])
 have h2:fz (.sl true []) H=some (.sl false [],H):=rfl
 simp only[frzArgs,hby,Bool.false_eq_true,if_false,hz,h2,List.map_nil]
theorem fin_prg {H:List MB} {id n:Nat} {els:List AV} {c:List Ins} (caps:Int) (runes:Bool) (hl:els.length=n) (hk:∀ j H,fzL j els H=some (c.map insAV,H)) (hr:getRow H id=some (5,els,0)) :
 ∃ H',fz (.tup [.agg [.ms id 5 n 0 n,I caps,.bool runes],I 0]) H=some (.tup [prgAV ⟨c,caps,runes⟩,I 0],H'):=by
 have h2:fzA (fzJ 6) (.ms id 5 n 0 n) H=some (.sl false (c.map insAV),mark H id n):=by
  have:=fzA_ms (n:=5) (off:=0) (len:=n) (ys:=c.map insAV) (H':=mark H id (0+n)) hr hl (by omega) (by rw[List.drop_zero,List.take_of_length_le (by omega)];exact hk _ _)
  rwa [Nat.zero_add]at this
 refine⟨mark H id n,?_⟩
 simp only[fz,fzA_tup,fzA_agg,fzL,h2,fzA_int]
 rfl
theorem f15 (p:Pat) (hw:p.re.wt≤1000000) (H:List MB):call Try.prog pol1 15 [patAV p] H=some (.tup [prgAV (compP p).1,I (compP p).2],H):=by
 have h52:=f52 p hw
 obtain⟨re,caps,runes⟩:=p
 simp only at hw
 have hl8:=reC_len re
 have hget8:(reC re++[I caps,.bool runes])[8]?=some (I caps):=by rw[List.getElem?_append_right (by omega),hl8];rfl
 have hget9:(reC re++[I caps,.bool runes])[9]?=some (.bool runes):=by rw[List.getElem?_append_right (by omega),hl8];rfl
 have htk8:∀ l,List.take 8 (reC re++l)=reC re:=fun l=>by
  rw[List.take_append_of_le_length (by omega)];exact List.take_of_length_le (by omega)
 have hall:=reC_ok re
 have ht10:List.take 10 (patC ⟨re,caps,runes⟩)=patC ⟨re,caps,runes⟩:=List.take_of_length_le (by simp[hl8])
 have hpl:∀ x:Prg×Int,AV.plain (.tup [prgAV x.1,I x.2])=true:=fun x=>by simp[AV.plain,AV.plainL,plain_ins]
 refine call_run Try.func15 rfl rfl rfl rfl rfl rfl (fun _=>rfl) (by simp[AV.plainL,AV.plain];exact plain_patC _) (hpl _) ?_ H
 unfold compP
 by_cases hv:validP ⟨re,caps,runes⟩=0
 ·rw[if_pos hv]
  obtain⟨hsz,hdp,hc0,hc9,hwg⟩:=valid_facts hv
  simp only at hc0 hc9 hwg
  rw[hv]at h52
  have h53:=f53n _ _ re hw hwg
  have h54:=f54 _ _ re.wt re (Nat.le_refl _) hw hwg
  cases hc:compG [] re with
  | false=>
    rw[hc]at h53
    rw[if_neg Bool.false_ne_true]
    simp +contextual (disch:=omega) only[Try.f15,dd15,go_sem,↓reduceIte,evAppend,List.reduceReplicate,Nat.reduceAdd,Nat.reduceSub,reduceCtorEq,Nat.reduceLeDiff,Nat.reduceMul,Nat.reduceLT,Nat.reduceEqDiff,Int.reduceBNe,Int.reduceBEq,Int.reduceEq,Int.reduceLT,Int.reduceLE,Int.reduceGT,Int.reduceGE,mu15,Nat.reduceBEq,↓wrap_up,↓wrap_down,↓wrap_pred,↓wrap_sub_nat,Int.reduceToNat,h52,h53,ht10,hl8,hget8,hget9,hall,htk8,List.all_append]
    exact⟨_,rfl⟩
  | true=>
    rw[hc]at h53
    rw[if_pos rfl]
    by_cases hL:lenG re+1≤8192
    ·rw[if_pos hL]
     have hg:GoodC caps (topI runes) re:=⟨hwg,codable_of re [] hc⟩
     have h55:∀ H,call Try.prog pol1 55 [reAV re,I 0] H=some (.ms H.length 5 (lenG re) 0 (lenG re),H++[.row 5 ((codeG re 0).map insAV) 0]):=fun H=>f55 caps (topI runes) (by omega) re.wt re (Nat.le_refl _) hw hg (by omega) 0 (by omega) H
     have hlen:=codeG_len caps (topI runes) re 0 hg
     rw[Nat.min_eq_left (by omega)]at h54
     generalize codeG re 0=C at *
     have hap:=fun b0 b1 x=>app_one (H:=[b0,b1,.row 5 (C.map insAV) 0]) (i:=2) (n:=lenG re) (t:=true) (y:=.agg [I 0,I 0,I 0,I 0,.sl true x]) rfl (by rw[List.length_map];exact hlen) rfl (Nat.zero_le _) (by omega)
     simp +contextual (disch:=omega) only[Try.f15,dd15,go_sem,↓reduceIte,List.reduceReplicate,Nat.reduceAdd,Nat.reduceSub,reduceCtorEq,Nat.reduceLeDiff,Nat.reduceMul,Nat.reduceLT,Nat.reduceEqDiff,Int.reduceBNe,Int.reduceBEq,Int.reduceEq,Int.reduceLT,Int.reduceLE,Int.reduceGT,Int.reduceGE,mu15,Nat.reduceBEq,↓wrap_up,↓wrap_down,↓wrap_pred,↓wrap_sub_nat,Int.reduceToNat,h52,h53,h54,h55,hap,ht10,hl8,hget8,hget9,hall,htk8,List.all_append]
     repeat' (first|intro _|apply And.intro|(unfold dOk;kernel_rfl)|exact St.beq_refl _|(show altO _ _ _ _=true;kernel_rfl)|(show (_ || _)=true;kernel_rfl)|(show (_ && _)=true;kernel_rfl))
     have hk:∀ j H,fzL j (C.map insAV++[.agg [I 0,I 0,I 0,I 0,.sl true []]]) H=some ((C++[(⟨0,0,0,0,[]⟩:Ins)]).map insAV,H):=fun j H=>by
      rw[List.map_append]
      exact((keep_ins C).append (.one fun H=>rfl)).fz H
     exact fin_prg caps runes (by simp[hlen]) hk rfl
    ·rw[if_neg hL]
     simp +contextual (disch:=omega) only[Try.f15,dd15,go_sem,↓reduceIte,evAppend,List.reduceReplicate,Nat.reduceAdd,Nat.reduceSub,reduceCtorEq,Nat.reduceLeDiff,Nat.reduceMul,Nat.reduceLT,Nat.reduceEqDiff,Int.reduceBNe,Int.reduceBEq,Int.reduceEq,Int.reduceLT,Int.reduceLE,Int.reduceGT,Int.reduceGE,mu15,Nat.reduceBEq,↓wrap_up,↓wrap_down,↓wrap_pred,↓wrap_sub_nat,Int.reduceToNat,h52,h53,h54,ht10,hl8,hget8,hget9,hall,htk8,List.all_append]
     exact⟨_,rfl⟩
 ·rw[if_neg hv]
  simp +contextual (disch:=omega) only[Try.f15,dd15,go_sem,↓reduceIte,evAppend,List.reduceReplicate,Nat.reduceAdd,Nat.reduceSub,reduceCtorEq,Nat.reduceLeDiff,Nat.reduceMul,Nat.reduceLT,Nat.reduceEqDiff,Int.reduceBNe,Int.reduceBEq,Int.reduceEq,Int.reduceLT,Int.reduceLE,Int.reduceGT,Int.reduceGE,mu15,Nat.reduceBEq,↓wrap_up,↓wrap_down,↓wrap_pred,↓wrap_sub_nat,Int.reduceToNat,h52,hv,ht10,hl8,hget8,hget9,hall,htk8,List.all_append]
  exact⟨_,rfl⟩
end
section
attribute [local go_sem] ty0 ty3 ty33 ty104
open Go.Proofs Go.RowKit Go.IntWalk
set_option maxRecDepth 100000
set_option linter.unusedSimpArgs false
set_option linter.unusedVariables false
set_option maxHeartbeats 8000000
theorem app_oneP {H:List MB} {i n z:Nat} {els:List AV} {y:AV} {t:Bool} (hi:getRow H i=some (5,els,z)) (hn:els.length=n) (hy:(decide (y.cells.length=5) && y.cells.all AV.ok)=true) (hz:z≤n) (hr:n+1≤4000000000) :
 evAppend Try.prog H 33 33 (.ms i 5 n 0 n) (.sl t [y])=some (.ms i 5 (n+1) 0 (n+1),H.set i (.row 5 (els++[y]) z)):=by
 have hs:srcElems Try.prog H 104 (.sl t [y])=some [y]:=rfl
 rw[evAppend_end (e:=104) (by kernel_rfl) (by kernel_rfl) (k:=5) (by kernel_rfl) (by_:=56) (by kernel_rfl) (ze:=.agg [I 0,I 0,I 0,I 0,.sl true []]) (by kernel_rfl) rfl (by omega) hs (by simp only[List.all_cons,List.all_nil,hy,Bool.and_true]) hi hn hz (room_ok hr (by omega))]
 rfl
theorem keptOk_app:∀(n:Nat) (l m:List MB),keptOk n l (l++m)=true
 | _,[],_=>rfl
 | n,x::xs,m=>by simp[keptOk,MB.beq_refl,keptOk_app n xs m]
theorem get_last {α:Type} (K:List α) (b:α):(K++[b])[K.length]?=some b:=by simp
theorem set_last {α:Type} (K:List α) (b c:α):(K++[b]).set K.length c=K++[c]:=by simp
abbrev codeH (C:List Ins) (n:Nat) (R:List MB):List MB:=.row 1 [.ms 1 5 n 0 n] 0::.row 5 (C.map insAV) 0::R
theorem kept_code {C C':List Ins} {n n' m:Nat} {R S:List MB} (hm:2≤m):keptOk m (codeH C n R) (codeH C' n' (R++S))=true:=by
 simp[keptOk,keptOk_app,MB.under,AV.underL,AV.under,underL_plain _ _ (plain_ins C')]
 omega
theorem f107 (a b c d:Int) (t:Bool) (s:List (Int×Int)) (C:List Ins) (n:Nat) (R:List MB) (hn:C.length=n) (hb:n≤1000000) :
 call Try.prog pol1 107 [.agg [I a,I b,I c,I d,.sl t (s.map spanAV)],.rf 0 1 0 0] (codeH C n R)=some (I n,codeH (C++[⟨a,b,c,d,s⟩]) (n+1) R):=by
 have fr:frzArgs pol1 107 0 [.agg [I a,I b,I c,I d,.sl t (s.map spanAV)],.rf 0 1 0 0] (codeH C n R)=some ([.agg [I a,I b,I c,I d,.sl false (s.map spanAV)],.rf 0 1 0 0],codeH C n R):=by
  have h0:pol1.byref 107 0=false:=rfl
  have h1:pol1.byref 107 1=true:=rfl
  have h2:∀ H,fzL (fzJ 6) (s.map spanAV) H=some (s.map spanAV,H):=fun H=>fzL_plain _ _ H (plain_span s)
  simp only[frzArgs,h0,h1,Bool.false_eq_true,if_false,if_true,fz,fzA,fzL,h2]
 refine call_run2 (pol:=pol1) Try.func107 rfl rfl rfl rfl fr ?_
 have hap:=fun X=>app_oneP (H:=codeH C n (R++[X])) (i:=1) (n:=n) (t:=true) (y:=insAV ⟨a,b,c,d,s⟩) rfl (by rw[List.length_map];exact hn) rfl (Nat.zero_le _) (by omega)
 have hmp:C.map insAV++[insAV ⟨a,b,c,d,s⟩]=(C++[(⟨a,b,c,d,s⟩:Ins)]).map insAV:=by simp
 simp +contextual (disch:=omega) only[Try.f107,dd107,go_sem,↓reduceIte,List.reduceReplicate,Nat.reduceAdd,Nat.reduceSub,reduceCtorEq,Nat.reduceLeDiff,Nat.reduceMul,Nat.reduceLT,Nat.reduceEqDiff,Int.reduceBNe,Int.reduceBEq,Int.reduceEq,Int.reduceLT,Int.reduceLE,Int.reduceGT,Int.reduceGE,mu107,Nat.reduceBEq,↓wrap_up,↓wrap_down,↓wrap_pred,↓wrap_sub_nat,Int.reduceToNat,hap,get_last,set_last,hmp]
 refine retPol_keep rfl rfl rfl (kept_code (by simp)) (by simp)
end
section
attribute [local go_sem] evAppend ty0 ty3 ty4 ty23 ty24 ty26 ty100 ty104 ty169 ty170 ty172
open Go.Proofs Go.RowKit Go.IntWalk
set_option maxRecDepth 100000
set_option linter.unusedSimpArgs false
set_option linter.unusedVariables false
set_option maxHeartbeats 8000000
theorem f109 (x y md:Int) (H:List MB):call Try.prog pol1 109 [I x,I y,I md] H=some (insAV (insSplit md x y),H):=by
 refine call_run Try.func109 rfl rfl rfl rfl rfl rfl (fun _=>rfl) rfl (by simp[AV.plain,AV.plainL,plain_span]) ?_ H
 by_cases h:md=1
 ·subst h
  simp +contextual (disch:=omega) only[Try.f109,dd109,go_sem,↓reduceIte,List.reduceReplicate,Nat.reduceAdd,Nat.reduceSub,reduceCtorEq,Nat.reduceLeDiff,Nat.reduceMul,Nat.reduceLT,Nat.reduceEqDiff,Int.reduceBNe,Int.reduceBEq,Int.reduceEq,Int.reduceLT,Int.reduceLE,Int.reduceGT,Int.reduceGE,List.map_append,mu109,Nat.reduceBEq,↓wrap_up,↓wrap_down,↓wrap_pred,↓wrap_sub_nat,Int.reduceToNat]
  exact⟨_,rfl⟩
 ·rw[insSplit,if_neg h]
  simp +contextual (disch:=omega) only[Try.f109,dd109,go_sem,↓reduceIte,List.reduceReplicate,Nat.reduceAdd,Nat.reduceSub,reduceCtorEq,Nat.reduceLeDiff,Nat.reduceMul,Nat.reduceLT,Nat.reduceEqDiff,Int.reduceBNe,Int.reduceBEq,Int.reduceEq,Int.reduceLT,Int.reduceLE,Int.reduceGT,Int.reduceGE,List.map_append,mu109,Nat.reduceBEq,↓wrap_up,↓wrap_down,↓wrap_pred,↓wrap_sub_nat,Int.reduceToNat]
  exact⟨_,rfl⟩
theorem cloneX (l:List (Int×Int)) (hl:l.length≤1000000):(((l.map spanAV).all fun y=>decide (y.cells.length=2) && y.cells.all AV.ok)=true∧roomFor (l.map spanAV).length 16=true∧AV.plainL (l.map spanAV)=true):=by
 refine⟨?_,room_ok (by rw[List.length_map];omega) (by omega),plain_span l⟩
 rw[List.all_eq_true]
 intro x hx
 obtain⟨i,_,rfl⟩:=List.mem_map.1 hx
 rfl
theorem f92 (l:List (Int×Int)) (hl:l.length≤1000000) (b:MB) (H:List MB):call Try.prog pol1 92 [.sl false (l.map spanAV)] (b::H)=some (.sl false (l.map spanAV),b::H):=by
 rw[call_eq]
 unfold evStep
 have hx:cloneExt 2 16 [.sl false (l.map spanAV)] (b::H)=some (.sl false (l.map spanAV),b::H):=by
  simp only[cloneExt,elemsOf]
  rw[if_pos (cloneX l hl)]
 rw[if_neg (show ¬ pol1.pure 92=true by decide)]
 exact hx
abbrev cS (K:List MB) (C:List Ins) (n:Nat):List MB:=codeH C n (.row 1 [.clo 107 [.rf 0 1 0 0]] 0::.row 1 [.clo 111 [.rf 2 1 0 0,.rf 3 1 0 0,.rf 5 1 0 0,.rf 4 1 0 0]] 0::.row 1 [.clo 108 [.rf 3 1 0 0,.rf 2 1 0 0,.rf 0 1 0 0]] 0::.row 1 [.clo 110 [.rf 2 1 0 0,.rf 3 1 0 0,.rf 0 1 0 0]] 0::K)
def Does111 (r:Re):Prop:=∀(K:List MB) (C:List Ins) (n:Nat),C.length=n→n+lenG r≤100000→lenG r≤8192 →
 call Try.prog pol1 111 [.pt (reC r),.rf 2 1 0 0,.rf 3 1 0 0,.rf 5 1 0 0,.rf 4 1 0 0] (cS K C n)=some (.tup [],cS K (C++codeG r n) (n+lenG r))
def Does108 (r:Re):Prop:=∀(K:List MB) (C:List Ins) (n:Nat),C.length=n→n+lenG r≤100000→lenG r≤8192 →
 call Try.prog pol1 108 [.pt (reC r),.rf 3 1 0 0,.rf 2 1 0 0,.rf 0 1 0 0] (cS K C n)=some (.tup [],cS K (C++codeG r n) (n+lenG r))
def Does110 (l:List Re):Prop:=∀(K:List MB) (C:List Ins) (n:Nat),C.length=n→n+lenL l+2 * (l.length - 1)≤100000→lenL l+2 * (l.length - 1)≤8192 →
 call Try.prog pol1 110 [.sl false (l.map reAV),.rf 2 1 0 0,.rf 3 1 0 0,.rf 0 1 0 0] (cS K C n)=some (.tup [],cS K (C++codeAlt l n) (n+lenL l+2 * (l.length - 1)))
theorem f111_of (caps top:Int) (hcaps:caps≤1000):∀ r:Re,r.wt≤1000000→GoodC caps top r→(∀ op set kids mn mx md n neg,r=.mk op set kids mn mx md n neg→(op=4→Does108 r)∧(op=3→Does110 kids)∧∀ k∈kids,Does111 k)→Does111 r
 | .mk op set kids mn mx md n neg,hN,hw,hk=>by
   obtain⟨d108,d110,ih⟩:=hk _ _ _ _ _ _ _ _ rfl
   intro K C m hC hb hl
   have hkl:=Re.wtL_len kids
   have hwt:1+set.length+Re.wtL kids=(Re.mk op set kids mn mx md n neg).wt:=by simp[Re.wt]
   have hop:=hw.op
   have hlen:=codeG_len caps top _ m hw
   obtain⟨hwk,hkd,hrp,hnn,ho1,ho2⟩:=whole_facts hw.whole
   have hgk:=hw.kids
   have hrc:(.pt (reC (.mk op set kids mn mx md n neg)):AV)=.pt (nodeL op set kids mn mx md n neg):=congrArg AV.pt reC_mk
   have fr:∀ H,frzArgs pol1 111 0 [.pt (nodeL op set kids mn mx md n neg),.rf 2 1 0 0,.rf 3 1 0 0,.rf 5 1 0 0,.rf 4 1 0 0] H=some ([.pt (nodeL op set kids mn mx md n neg),.rf 2 1 0 0,.rf 3 1 0 0,.rf 5 1 0 0,.rf 4 1 0 0],H):=fun H=>
    frzArgs_mix _ _ _ (by simp[mixOk,show pol1.byref 111 1=true from rfl,show pol1.byref 111 2=true from rfl,show pol1.byref 111 3=true from rfl,show pol1.byref 111 4=true from rfl,AV.plain,AV.plainL,plain_span,plain_kids])
   have h107:=f107
   rw[hrc]
   refine call_run2 (pol:=pol1) Try.func111 rfl rfl rfl rfl (fr _) ?_
   have rt:∀ C' n',retPol pol1 111 (cS K C m) (.tup []) (cS K C' n')=some (.tup [],cS K C' n'):=fun C' n'=>
    retPol_keep rfl rfl rfl (by have:=@kept_code C C' m n' (cS K C m).length (.row 1 [.clo 107 [.rf 0 1 0 0]] 0::.row 1 [.clo 111 [.rf 2 1 0 0,.rf 3 1 0 0,.rf 5 1 0 0,.rf 4 1 0 0]] 0::.row 1 [.clo 108 [.rf 3 1 0 0,.rf 2 1 0 0,.rf 0 1 0 0]] 0::.row 1 [.clo 110 [.rf 2 1 0 0,.rf 3 1 0 0,.rf 0 1 0 0]] 0::K) [] (by simp);simpa using this) (by simp)
   rcases hop with rfl|rfl|rfl|rfl|rfl|rfl|rfl
   ·have hk0:kids=[]:=List.length_eq_zero_iff.1 (by simpa [kidsG] using hkd)
    subst hk0
    have hc:codeG (.mk 0 set [] mn mx md n neg) m=[]:=by rw[codeG];rfl
    rw[← hlen,hc,List.append_nil]
    simp +contextual (disch:=omega) only[Try.f111,dd111,go_sem,↓reduceIte,List.reduceReplicate,Nat.reduceAdd,Nat.reduceSub,reduceCtorEq,Nat.reduceLeDiff,Nat.reduceMul,Nat.reduceLT,Nat.reduceEqDiff,Int.reduceBNe,Int.reduceBEq,Int.reduceEq,Int.reduceLT,Int.reduceLE,Int.reduceGT,Int.reduceGE,mu111,Nat.reduceBEq,↓wrap_up,↓wrap_down,↓wrap_pred,↓wrap_sub_nat,Int.reduceToNat]
    exact rt C m
   ·have hc:codeG (.mk 1 set kids mn mx md n neg) m=[⟨1,0,0,0,set⟩]:=by rw[codeG];rfl
    have h1:=fun R=>f107 1 0 0 0 false set C m R hC (by omega)
    have h92:=f92 set (by omega)
    rw[← hlen,hc]
    simp +contextual (disch:=omega) only[Try.f111,dd111,go_sem,↓reduceIte,List.reduceReplicate,Nat.reduceAdd,Nat.reduceSub,reduceCtorEq,Nat.reduceLeDiff,Nat.reduceMul,Nat.reduceLT,Nat.reduceEqDiff,Int.reduceBNe,Int.reduceBEq,Int.reduceEq,Int.reduceLT,Int.reduceLE,Int.reduceGT,Int.reduceGE,mu111,Nat.reduceBEq,↓wrap_up,↓wrap_down,↓wrap_pred,↓wrap_sub_nat,Int.reduceToNat,h1,h92]
    repeat' (first|intro _|apply And.intro|(unfold dOk;kernel_rfl)|exact St.beq_refl _|(show altO _ _ _ _=true;kernel_rfl)|(show (_ || _)=true;kernel_rfl)|(show (_ && _)=true;kernel_rfl))
    exact rt _ _
   ·have hc:codeG (.mk 2 set kids mn mx md n neg) m=codeCat kids m:=by rw[codeG];rfl
    have hL:lenG (.mk 2 set kids mn mx md n neg)=lenL kids:=by rw[lenG];rfl
    rw[hL]at hl hb hlen ⊢
    rw[hc]at hlen ⊢
    simp +contextual (disch:=omega) only[Try.f111,dd111,go_sem,↓reduceIte,List.reduceReplicate,Nat.reduceAdd,Nat.reduceSub,reduceCtorEq,Nat.reduceLeDiff,Nat.reduceMul,Nat.reduceLT,Nat.reduceEqDiff,Int.reduceBNe,Int.reduceBEq,Int.reduceEq,Int.reduceLT,Int.reduceLE,Int.reduceGT,Int.reduceGE,mu111,Nat.reduceBEq,↓wrap_up,↓wrap_down,↓wrap_pred,↓wrap_sub_nat,Int.reduceToNat]
    refine W_count (M:=(mskOf (pol1.mask 111) (pol1.gc 111) (pol1.acts 111) 0 7)) rfl kids.length (fun i=>(⟨89,[(37,I i),(36,I kids.length),(2,.rf 3 1 0 0),(0,.pt (nodeL 2 set kids mn mx md n neg))],cS K (C++codeCat (kids.take i) m) (m+lenL (kids.take i))⟩:St)) (fun _=>True) ?_ ?_ trivial _ ?_
    ·intro i hi _
     obtain⟨k,hk⟩:∃ k,kids[i]?=some k:=⟨_,List.getElem?_eq_getElem hi⟩
     have hkm:=List.mem_of_getElem? hk
     have hl8:=reC_len k
     have ht8:=reC_take k
     have e1:=lenL_take hk
     have e2:=codeCat_take hk m
     have e4:=lenL_take_le kids (i+1)
     have hck:=codeCat_len caps top (kids.take i) m (fun k h=>hgk k (List.mem_of_mem_take h))
     have h2:=ih k hkm K (C++codeCat (kids.take i) m) (m+lenL (kids.take i)) (by simp[hC,hck]) (by omega) (by omega)
     simp +contextual (disch:=omega) only[Try.f111,dd111,go_sem,↓reduceIte,List.reduceReplicate,Nat.reduceAdd,Nat.reduceSub,reduceCtorEq,Nat.reduceLeDiff,Nat.reduceMul,Nat.reduceLT,Nat.reduceEqDiff,Int.reduceBNe,Int.reduceBEq,Int.reduceEq,Int.reduceLT,Int.reduceLE,Int.reduceGT,Int.reduceGE,mu111,Nat.reduceBEq,↓wrap_up,↓wrap_down,↓wrap_pred,↓wrap_sub_nat,Int.reduceToNat,hk,h2,hl8,ht8]
     rw[e1,e2,← List.append_assoc,← Nat.add_assoc]
     repeat' (first|intro _|apply And.intro|(unfold dOk;kernel_rfl)|exact St.beq_refl _|(show altO _ _ _ _=true;kernel_rfl)|(show (_ || _)=true;kernel_rfl)|(show (_ && _)=true;kernel_rfl))
     rfl
    ·intro _
     rw[List.take_length]
     simp +contextual (disch:=omega) only[Try.f111,dd111,go_sem,↓reduceIte,List.reduceReplicate,Nat.reduceAdd,Nat.reduceSub,reduceCtorEq,Nat.reduceLeDiff,Nat.reduceMul,Nat.reduceLT,Nat.reduceEqDiff,Int.reduceBNe,Int.reduceBEq,Int.reduceEq,Int.reduceLT,Int.reduceLE,Int.reduceGT,Int.reduceGE,mu111,Nat.reduceBEq,↓wrap_up,↓wrap_down,↓wrap_pred,↓wrap_sub_nat,Int.reduceToNat]
     exact rt _ _
    ·skip
     simp[codeCat,lenL]
     rfl
   ·have hc:codeG (.mk 3 set kids mn mx md n neg) m=codeAlt kids m:=by rw[codeG];rfl
    have hL:lenG (.mk 3 set kids mn mx md n neg)=lenL kids+2 * (kids.length - 1):=by rw[lenG,if_neg (by omega),if_pos rfl]
    rw[hL]at hl hb hlen ⊢
    rw[hc]at hlen ⊢
    have h1:=d110 rfl K C m hC (by omega) hl
    rw[Nat.add_assoc]at h1
    simp +contextual (disch:=omega) only[Try.f111,dd111,go_sem,↓reduceIte,List.reduceReplicate,Nat.reduceAdd,Nat.reduceSub,reduceCtorEq,Nat.reduceLeDiff,Nat.reduceMul,Nat.reduceLT,Nat.reduceEqDiff,Int.reduceBNe,Int.reduceBEq,Int.reduceEq,Int.reduceLT,Int.reduceLE,Int.reduceGT,Int.reduceGE,mu111,Nat.reduceBEq,↓wrap_up,↓wrap_down,↓wrap_pred,↓wrap_sub_nat,Int.reduceToNat,h1]
    repeat' (first|intro _|apply And.intro|(unfold dOk;kernel_rfl)|exact St.beq_refl _|(show altO _ _ _ _=true;kernel_rfl)|(show (_ || _)=true;kernel_rfl)|(show (_ && _)=true;kernel_rfl))
    exact rt _ _
   ·have h1:=d108 rfl K C m hC hb hl
    rw[hrc]at h1
    simp +contextual (disch:=omega) only[Try.f111,dd111,go_sem,↓reduceIte,List.reduceReplicate,Nat.reduceAdd,Nat.reduceSub,reduceCtorEq,Nat.reduceLeDiff,Nat.reduceMul,Nat.reduceLT,Nat.reduceEqDiff,Int.reduceBNe,Int.reduceBEq,Int.reduceEq,Int.reduceLT,Int.reduceLE,Int.reduceGT,Int.reduceGE,mu111,Nat.reduceBEq,↓wrap_up,↓wrap_down,↓wrap_pred,↓wrap_sub_nat,Int.reduceToNat,h1]
    repeat' (first|intro _|apply And.intro|(unfold dOk;kernel_rfl)|exact St.beq_refl _|(show altO _ _ _ _=true;kernel_rfl)|(show (_ || _)=true;kernel_rfl)|(show (_ && _)=true;kernel_rfl))
    exact rt _ _
   ·obtain⟨k,rfl⟩:∃ k,kids=[k]:=List.length_eq_one_iff.1 (by simpa [kidsG] using hkd)
    have hn1:=hnn (.inl rfl)
    have hc:codeG (.mk 5 set [k] mn mx md n neg) m=[⟨4,0,0,2 * n - 2,[]⟩]++codeG k (m+1)++[⟨4,0,0,2 * n - 1,[]⟩]:=by rw[codeG];rfl
    have hL:lenG (.mk 5 set [k] mn mx md n neg)=1+lenG k+1:=by
     rw[lenG,if_neg (by omega),if_neg (by omega),if_pos rfl];simp[lenL];omega
    rw[hL]at hlen hl hb ⊢
    have hl8:=reC_len k
    have ht8:=reC_take k
    have hk5:=codeG_len caps top k (m+1) (hgk k (List.mem_singleton.2 rfl))
    have h1:=fun R=>f107 4 0 0 (2 * n - 2) true [] C m R hC (by omega)
    have h2:=ih k (List.mem_singleton.2 rfl) K (C++[⟨4,0,0,2 * n - 2,[]⟩]) (m+1) (by simp[hC]) (by omega) (by omega)
    have h3:=fun R=>f107 4 0 0 (2 * n - 1) true [] (C++[⟨4,0,0,2 * n - 2,[]⟩]++codeG k (m+1)) (m+1+lenG k) R (by simp[hC,hk5];omega) (by omega)
    have ha:C++([⟨4,0,0,2 * n - 2,[]⟩]++codeG k (m+1)++[⟨4,0,0,2 * n - 1,[]⟩])=C++[⟨4,0,0,2 * n - 2,[]⟩]++codeG k (m+1)++[⟨4,0,0,2 * n - 1,[]⟩]:=by simp
    have hm:m+(1+lenG k+1)=m+1+lenG k+1:=by omega
    rw[hc,ha,hm]
    simp only[List.map_nil]at h1 h3
    generalize codeG k (m+1)=B at *
    simp +contextual (disch:=omega) only[Try.f111,dd111,go_sem,↓reduceIte,List.reduceReplicate,Nat.reduceAdd,Nat.reduceSub,reduceCtorEq,Nat.reduceLeDiff,Nat.reduceMul,Nat.reduceLT,Nat.reduceEqDiff,Int.reduceBNe,Int.reduceBEq,Int.reduceEq,Int.reduceLT,Int.reduceLE,Int.reduceGT,Int.reduceGE,mu111,Nat.reduceBEq,↓wrap_up,↓wrap_down,↓wrap_pred,↓wrap_sub_nat,Int.reduceToNat,h1,h2,h3,hl8,ht8]
    repeat' (first|intro _|apply And.intro|(unfold dOk;kernel_rfl)|exact St.beq_refl _|(show altO _ _ _ _=true;kernel_rfl)|(show (_ || _)=true;kernel_rfl)|(show (_ && _)=true;kernel_rfl))
    exact rt _ _
   ·have hc:codeG (.mk 11 set kids mn mx md n neg) m=[⟨5,0,0,n,[]⟩]:=by rw[codeG];rfl
    have h1:=fun R=>f107 5 0 0 n true [] C m R hC (by omega)
    simp only[List.map_nil]at h1
    rw[← hlen,hc]
    simp +contextual (disch:=omega) only[Try.f111,dd111,go_sem,↓reduceIte,List.reduceReplicate,Nat.reduceAdd,Nat.reduceSub,reduceCtorEq,Nat.reduceLeDiff,Nat.reduceMul,Nat.reduceLT,Nat.reduceEqDiff,Int.reduceBNe,Int.reduceBEq,Int.reduceEq,Int.reduceLT,Int.reduceLE,Int.reduceGT,Int.reduceGE,mu111,Nat.reduceBEq,↓wrap_up,↓wrap_down,↓wrap_pred,↓wrap_sub_nat,Int.reduceToNat,h1]
    repeat' (first|intro _|apply And.intro|(unfold dOk;kernel_rfl)|exact St.beq_refl _|(show altO _ _ _ _=true;kernel_rfl)|(show (_ || _)=true;kernel_rfl)|(show (_ && _)=true;kernel_rfl))
    exact rt _ _
end
section
attribute [local go_sem] evAppend List.map_append
open Go.Proofs Go.RowKit Go.IntWalk
set_option maxRecDepth 100000
set_option linter.unusedSimpArgs false
set_option linter.unusedVariables false
set_option maxHeartbeats 8000000
theorem fzs_set (C:List Ins) (a b c d:Int) (t:Bool):∀(i:Nat) (H:List MB),fzs ((C.map insAV).set i (.agg [I a,I b,I c,I d,.sl t []])) H=some ((C.set i ⟨a,b,c,d,[]⟩).map insAV,H):=by
 have key:∀(C:List Ins) (i:Nat),KeepL (fzJ 6) ((C.map insAV).set i (.agg [I a,I b,I c,I d,.sl t []])) ((C.set i ⟨a,b,c,d,[]⟩).map insAV):=by
  intro C
  induction C with
  | nil=>intro i;exact .nil
  | cons x C ih=>
    intro i
    cases i with
    | zero=>exact .cons (fun H=>rfl) (keep_ins C)
    | succ i=>exact .cons (fun H=>fzA_plain _ _ H (by simp[AV.plain,AV.plainL,plain_span])) (ih i)
 intro i H
 exact(key C i).fz H
def altM (e:Int):List Re→Nat→Nat→List Ins
 | [],_,_=>[]
 | k::ks,f,j=>if ks.length=0 then codeG k f else⟨2,(f+1:Nat),(f+lenG k+2:Nat),0,[]⟩::(codeG k (f+1)++(⟨3,if 0 < j then e else 0,0,0,[]⟩::altM e ks (f+lenG k+2) (j - 1)))
def altP:List Re→Nat→Nat→List Ins
 | k::ks,f,i+1=>⟨2,(f+1:Nat),(f+lenG k+2:Nat),0,[]⟩::(codeG k (f+1)++(⟨3,0,0,0,[]⟩::altP ks (f+lenG k+2) i))
 | _,_,_=>[]
def jumpsP:List Re→Nat→Nat→List Nat
 | k::ks,f,i+1=>(f+1+lenG k)::jumpsP ks (f+lenG k+2) i
 | _,_,_=>[]
theorem altP_zero (l:List Re) (f:Nat):altP l f 0=[]:=by cases l<;>rfl
theorem jumpsP_zero (l:List Re) (f:Nat):jumpsP l f 0=[]:=by cases l<;>rfl
theorem altP_succ:∀(l:List Re) (f i:Nat) (k:Re),l[i]?=some k→altP l f (i+1)=altP l f i++(⟨2,(f+lenL (l.take i)+2 * i+1:Nat),(f+lenL (l.take i)+2 * i+lenG k+2:Nat),0,[]⟩::(codeG k (f+lenL (l.take i)+2 * i+1)++[⟨3,0,0,0,[]⟩]))
 | [],_,i,_,h=>by cases h
 | q::ks,f,0,k,h=>by
   simp only[List.getElem?_cons_zero,Option.some.injEq]at h
   subst h
   simp[altP,altP_zero,lenL]
 | q::ks,f,i+1,k,h=>by
   rw[List.getElem?_cons_succ]at h
   have ih:=altP_succ ks (f+lenG q+2) i k h
   have e1:f+lenG q+2+lenL (ks.take i)+2 * i=f+lenL ((q::ks).take (i+1))+2 * (i+1):=by rw[List.take_succ_cons,lenL];omega
   rw[e1]at ih
   rw[altP,ih]
   conv=>rhs;rw[altP]
   simp
theorem jumpsP_succ:∀(l:List Re) (f i:Nat) (k:Re),l[i]?=some k→jumpsP l f (i+1)=jumpsP l f i++[f+lenL (l.take i)+2 * i+1+lenG k]
 | [],_,i,_,h=>by cases h
 | q::ks,f,0,k,h=>by
   simp only[List.getElem?_cons_zero,Option.some.injEq]at h
   subst h
   simp[jumpsP,jumpsP_zero,lenL]
 | q::ks,f,i+1,k,h=>by
   rw[List.getElem?_cons_succ]at h
   have ih:=jumpsP_succ ks (f+lenG q+2) i k h
   have e1:f+lenG q+2+lenL (ks.take i)+2 * i=f+lenL ((q::ks).take (i+1))+2 * (i+1):=by rw[List.take_succ_cons,lenL];omega
   rw[e1]at ih
   rw[jumpsP,ih]
   conv=>rhs;rw[jumpsP]
   simp
theorem jumpsP_len:∀(l:List Re) (f i:Nat),i≤l.length→(jumpsP l f i).length=i
 | [],_,i,h=>by
   have:i=0:=by simpa using h
   subst this;rfl
 | q::ks,f,0,h=>rfl
 | q::ks,f,i+1,h=>by simp[jumpsP,jumpsP_len ks _ i (by simpa using h)]
theorem altP_len (caps top:Int):∀(l:List Re) (f i:Nat),(∀ k∈l,GoodC caps top k)→i≤l.length→(altP l f i).length=lenL (l.take i)+2 * i
 | [],_,i,_,h=>by
   have:i=0:=by simpa using h
   subst this;rfl
 | q::ks,f,0,hg,h=>rfl
 | q::ks,f,i+1,hg,h=>by
   simp only[altP,List.length_cons,List.length_append,altP_len caps top ks _ i (fun k h=>hg k (List.mem_cons_of_mem _ h)) (by simpa using h),codeG_len caps top q _ (hg q (List.mem_cons_self ..)),List.take_succ_cons,lenL]
   omega
theorem altM_zero (e:Int):∀(l:List Re) (f:Nat) (k:Re),l[l.length - 1]?=some k→altM e l f 0=altP l f (l.length - 1)++codeG k (f+lenL (l.take (l.length - 1))+2 * (l.length - 1))
 | [],_,_,h=>by cases h
 | [q],f,k,h=>by
   simp at h
   subst h
   simp[altM,altP_zero,lenL]
 | q::q2::ks,f,k,h=>by
   have h2:(q2::ks)[(q2::ks).length - 1]?=some k:=by simpa using h
   have ih:=altM_zero e (q2::ks) (f+lenG q+2) k h2
   have e0:(q::q2::ks).length - 1=((q2::ks).length - 1)+1:=by simp
   have e1:f+lenG q+2+lenL ((q2::ks).take ((q2::ks).length - 1))+2 * ((q2::ks).length - 1)=f+lenL ((q::q2::ks).take ((q::q2::ks).length - 1))+2 * ((q::q2::ks).length - 1):=by
    rw[e0,List.take_succ_cons,lenL];omega
   rw[e1]at ih
   rw[altM,if_neg (by simp),ih,e0,altP]
   simp
theorem altM_all (e:Int):∀(l:List Re) (f j:Nat),l.length≤j+1→e=(f+lenL l+2 * (l.length - 1):Nat)→altM e l f j=codeAlt l f
 | [],_,_,_,_=>rfl
 | k::ks,f,j,h,he=>by
   rw[altM,codeAlt]
   split
   ·rfl
   ·rename_i h0
    have hj:0 < j:=by simp at h;omega
    have e2:e=(f+lenG k+2+lenL ks+2 * (ks.length - 1):Nat):=by rw[he,lenL];simp only[List.length_cons];omega
    have e3:e=(f+lenL (k::ks)+2 * ks.length:Nat):=by rw[he];simp only[List.length_cons];omega
    rw[if_pos hj,altM_all e ks (f+lenG k+2) (j - 1) (by simp at h;omega) e2,← e3]
theorem altM_set (caps top e:Int):∀(l:List Re) (f j p:Nat),(∀ k∈l,GoodC caps top k)→(jumpsP l f (l.length - 1))[j]?=some p→f≤p∧(altM e l f j)[p - f]?=some ⟨3,0,0,0,[]⟩∧(altM e l f j).set (p - f) ⟨3,e,0,0,[]⟩=altM e l f (j+1)
 | [],_,_,_,_,h=>by cases h
 | [q],f,j,p,_,h=>by simp[jumpsP]at h
 | q::q2::ks,f,j,p,hg,h=>by
   have hq:=codeG_len caps top q (f+1) (hg q (List.mem_cons_self ..))
   rw[show (q::q2::ks).length - 1=((q2::ks).length - 1)+1 by simp,jumpsP]at h
   cases j with
   | zero=>
     simp only[List.getElem?_cons_zero,Option.some.injEq]at h
     subst h
     have hp:f+1+lenG q - f=(codeG q (f+1)).length+1:=by omega
     refine⟨by omega,?_,?_⟩
     ·rw[altM,if_neg (by simp),hp,List.getElem?_cons_succ,List.getElem?_append_right (Nat.le_refl _),Nat.sub_self];rfl
     ·rw[altM,if_neg (by simp),hp,List.set_cons_succ,List.set_append_right _ _ (Nat.le_refl _),Nat.sub_self]
      conv=>rhs;rw[altM,if_neg (by simp)]
      rfl
   | succ j=>
     rw[List.getElem?_cons_succ]at h
     obtain⟨h1,h2,h3⟩:=altM_set caps top e (q2::ks) (f+lenG q+2) j p (fun k h=>hg k (List.mem_cons_of_mem _ h)) h
     have hp:p - f=(codeG q (f+1)).length+((p - (f+lenG q+2))+1)+1:=by omega
     refine⟨by omega,?_,?_⟩
     ·rw[altM,if_neg (by simp),hp,List.getElem?_cons_succ,List.getElem?_append_right (by omega),Nat.add_sub_cancel_left,List.getElem?_cons_succ]
      exact h2
     ·rw[altM,if_neg (by simp),hp,List.set_cons_succ,List.set_append_right _ _ (by omega),Nat.add_sub_cancel_left,List.set_cons_succ]
      conv=>rhs;rw[altM,if_neg (by simp)]
      rw[show j+1 - 1=j from rfl,show j+1+1 - 1=j+1 from rfl,h3]
      simp
end
end Go.Ev
