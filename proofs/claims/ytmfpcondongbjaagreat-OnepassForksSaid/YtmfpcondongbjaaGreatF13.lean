/- Functions of the program, each with what it computes; no further conditions. -/
import Derived.Test.YtmfpcondongbjaaGreatF12
import Derived.Test.YtmfpcondongbjaaGreatF07
import Derived.Test.YtmfpcondongbjaaGreatF11
set_option linter.unusedVariables false
set_option linter.unusedSimpArgs false
namespace Go.Ev
open Go.Proofs Go.RowKit Go.IntWalk
set_option maxRecDepth 100000
set_option maxHeartbeats 2000000
theorem f136 (a b:Int) (H:List MB):call Tryz.prog pol1 116 [.agg [.int .i64 a,.int .i64 b]] H=some (.bool (decide (0≤a∧a≤b∧b≤1114111)),H):=by
 refine call_run Tryz.func116 rfl rfl rfl rfl rfl rfl (fun _=>rfl) (by simp[AV.plain,AV.plainL,plain_ints,plain_span,plain_ins,plain_prg]) (by simp[AV.plain,AV.plainL,plain_ints,plain_span,plain_ins,plain_prg]) ?_ H
 simp only[Tryz.f116,dd116,ty0,ty3,ty4,ty84,↓reduceIte,eq_self,bindW_some,bindW_map,bindW_ite,bindW_iteN,W_seq,W_region,W_draw,W_cond,W_condK,W_ret,W_skip,W_exit,W_scope,W_label,W_block,blockK_norm,blockK_ret,blockK_exit,WO_nil,WO_cons,WO_guard,WD_nil,WD_cons,WD_guard,guardV,guardW_boolT,guardW_boolF,guardW_tup,fpL_some,fpL_none,footprint,footprint0,fineF,thenK_norm,thenK_ret,thenK_exit,put_some,put_none,ev_tmp,ev_con,ev_func,ofK_int,ofK_bool,ofK_str,ofK_nil,ofK_agg,ofC_int,ofC_bool,ofC_str,ofC_nil,ofC_nilp,one_int,one_bool,one_str,one_nil,one_nilp,evOp,evBuiltin,evCall,cfn,yldF,evLen,evAppend,getElem_16,getElem_4,List.length_cons,List.length_nil,List.reduceReplicate,Nat.reduceAdd,Nat.reduceSub,List.cons_append,List.nil_append,List.append_nil,if_false,if_true,Bool.false_eq_true,Bool.true_eq_false,reduceCtorEq,Option.map_some,Option.map_none,List.map_cons,List.map_nil,evBinOp,evBin,evUn,asB_bool,splitB_decide,splitB_true,splitB_false,splitB_beq,splitB_bne,splitB_not,endK_ret,endK_norm,List.getElem?_cons_zero,List.getElem?_cons_succ,evResults,evResult,packRes,retK_norm,retK_ret,cellsAt,mkVal,evFieldAddr,evField,evIndexAddr,evPart,evStore,evBuild,evBuildSlice,fillC,fillE,evSlice,evMakeSlice,evConvert,getRow,AV.cells,List.head?_cons,List.drop_zero,List.drop_succ_cons,List.take_zero,List.take_succ_cons,List.drop_nil,List.take_nil,List.all_cons,List.all_nil,AV.ok,Bool.and_self,Bool.and_true,Bool.true_and,and_self,and_true,true_and,Nat.reduceLeDiff,Nat.reduceMul,Nat.reduceLT,Nat.reduceEqDiff,Nat.zero_add,Nat.add_zero,setCells,splice,pairsOk,pairsX,altW_none,altW_some,cfg_al,WI_nil,WI_cons,FP.apart,heapEq_refl,sameAt_refl,Bool.or_true,Bool.true_or,Bool.or_false,srcElems,elemsOf,mutDst,indDst,thwDst,evLenH,evMapUpd,evLookup,getMp,keyOk,resOk,strOf,roundK_norm,roundK_exit,roundK_ret,List.length_map,List.getElem?_map,Int.toNat_natCast,Int.reduceBNe,Int.reduceBEq,decide_true,decide_false,Bool.not_true,Bool.not_false,List.set,set_0,set_1,set_2,set_3,set_4,look_hit,look,lookD_hit,lookD_cons,lookD_nil,ins_hit,ins,upd_hit,upd,rem1_hit,rem1,dropT,dropSt_eq,initT,cfg_dd,cfg_bd,cfg_ra,actL_nil,actL_cons,act1,updT_hit,updT,frzB,mu116,List.contains_nil,List.contains_cons,Nat.reduceBEq,Bool.or_self]
 repeat' (first|intro _|apply And.intro|refine fzEq rfl ?_)
 all_goals (congr 1;simp only[decide_eq_decide,false_eq_decide_iff];omega)
def badAt (l:List (Int×Int)) (i:Nat):Bool:=
 match l[i]? with
 | some p=>!decide (0≤p.1∧p.1≤p.2∧p.2≤1114111) || (match i with
   | 0=>false
   | k+1=>match l[k]? with
     | some q=>decide (p.1 - q.2 < 2)
     | none=>false)
 | none=>false
def refSpans (l:List (Int×Int)):Int:=if(List.range l.length).any (badAt l) then 1 else if 64 < l.length then 4 else 0
theorem refSpans_bad {l:List (Int×Int)} {i:Nat} (hi:i < l.length) (h:badAt l i=true):refSpans l=1:=by
 unfold refSpans
 rw[if_pos]
 exact List.any_eq_true.2 ⟨i,List.mem_range.2 hi,h⟩
theorem refSpans_good {l:List (Int×Int)} (h:∀ k,k < l.length→badAt l k=false):refSpans l=if 64 < l.length then 4 else 0:=by
 unfold refSpans
 rw[if_neg]
 intro h2
 obtain⟨k,h3,h4⟩:=List.any_eq_true.1 h2
 rw[h k (List.mem_range.1 h3)]at h4
 cases h4
theorem f119 (l:List (Int×Int)) (hl:l.length≤1000000) (H:List MB):call Tryz.prog pol1 94 [.sl false (l.map spanAV)] H=some (I (refSpans l),H):=by
 refine call_run Tryz.func94 rfl rfl rfl rfl rfl rfl (fun _=>rfl) (by simp[AV.plain,AV.plainL,plain_ints,plain_span,plain_ins,plain_prg]) (by simp[AV.plain,AV.plainL,plain_ints,plain_span,plain_ins,plain_prg]) ?_ H
 simp only[Tryz.f94,dd94,ty0,ty3,ty4,ty30,ty60,ty84,↓reduceIte,eq_self,bindW_some,bindW_map,bindW_ite,bindW_iteN,W_seq,W_region,W_draw,W_cond,W_condK,W_ret,W_skip,W_exit,W_scope,W_label,W_block,blockK_norm,blockK_ret,blockK_exit,WO_nil,WO_cons,WO_guard,WD_nil,WD_cons,WD_guard,guardV,guardW_boolT,guardW_boolF,guardW_tup,fpL_some,fpL_none,footprint,footprint0,fineF,thenK_norm,thenK_ret,thenK_exit,put_some,put_none,ev_tmp,ev_con,ev_func,ofK_int,ofK_bool,ofK_str,ofK_nil,ofK_agg,ofC_int,ofC_bool,ofC_str,ofC_nil,ofC_nilp,one_int,one_bool,one_str,one_nil,one_nilp,evOp,evBuiltin,evCall,cfn,yldF,evLen,evAppend,getElem_16,getElem_4,List.length_cons,List.length_nil,List.reduceReplicate,Nat.reduceAdd,Nat.reduceSub,List.cons_append,List.nil_append,List.append_nil,if_false,if_true,Bool.false_eq_true,Bool.true_eq_false,reduceCtorEq,Option.map_some,Option.map_none,List.map_cons,List.map_nil,evBinOp,evBin,evUn,asB_bool,splitB_decide,splitB_true,splitB_false,splitB_beq,splitB_bne,splitB_not,endK_ret,endK_norm,List.getElem?_cons_zero,List.getElem?_cons_succ,evResults,evResult,packRes,retK_norm,retK_ret,cellsAt,mkVal,evFieldAddr,evField,evIndexAddr,evPart,evStore,evBuild,evBuildSlice,fillC,fillE,evSlice,evMakeSlice,evConvert,getRow,AV.cells,List.head?_cons,List.drop_zero,List.drop_succ_cons,List.take_zero,List.take_succ_cons,List.drop_nil,List.take_nil,List.all_cons,List.all_nil,AV.ok,Bool.and_self,Bool.and_true,Bool.true_and,and_self,and_true,true_and,Nat.reduceLeDiff,Nat.reduceMul,Nat.reduceLT,Nat.reduceEqDiff,Nat.zero_add,Nat.add_zero,setCells,splice,pairsOk,pairsX,altW_none,altW_some,cfg_al,WI_nil,WI_cons,FP.apart,heapEq_refl,sameAt_refl,Bool.or_true,Bool.true_or,Bool.or_false,srcElems,elemsOf,mutDst,indDst,thwDst,evLenH,evMapUpd,evLookup,getMp,keyOk,resOk,strOf,roundK_norm,roundK_exit,roundK_ret,List.length_map,List.getElem?_map,Int.toNat_natCast,Int.reduceBNe,Int.reduceBEq,decide_true,decide_false,Bool.not_true,Bool.not_false,List.set,set_0,set_1,set_2,set_3,set_4,look_hit,look,lookD_hit,lookD_cons,lookD_nil,ins_hit,ins,upd_hit,upd,rem1_hit,rem1,dropT,dropSt_eq,initT,cfg_dd,cfg_bd,cfg_ra,actL_nil,actL_cons,act1,updT_hit,updT,frzB,mu94,List.contains_nil,List.contains_cons,Nat.reduceBEq,Bool.or_self]
 refine W_count (M:=(mskOf (pol1.mask 94) (pol1.gc 94) (pol1.acts 94) 0 2)) rfl l.length (fun i=>(⟨40,[(3,I i),(0,.sl false (l.map spanAV))],[]⟩:St)) (fun i=>∀ k,k < i→badAt l k=false) ?_ ?_ (fun k h=>by omega) _ rfl
 ·intro i hlt hg
  obtain⟨p,hp⟩:∃ p,l[i]?=some p:=⟨_,List.getElem?_eq_getElem hlt⟩
  have ext:badAt l i=false→∀ k,k < i+1→badAt l k=false:=fun h k hk=>by
   rcases Nat.lt_or_ge k i with h1|h1
   ·exact hg k h1
   ·obtain rfl:k=i:=by omega
    exact h
  by_cases hgd:0≤p.1∧p.1≤p.2∧p.2≤1114111
  ·rcases i with _|i
   ·simp +contextual (disch:=omega) only[Tryz.f94,dd94,ty0,ty3,ty4,ty30,ty60,ty84,↓reduceIte,eq_self,bindW_some,bindW_map,bindW_ite,bindW_iteN,W_seq,W_region,W_draw,W_cond,W_condK,W_ret,W_skip,W_exit,W_scope,W_label,W_block,blockK_norm,blockK_ret,blockK_exit,WO_nil,WO_cons,WO_guard,WD_nil,WD_cons,WD_guard,guardV,guardW_boolT,guardW_boolF,guardW_tup,fpL_some,fpL_none,footprint,footprint0,fineF,thenK_norm,thenK_ret,thenK_exit,put_some,put_none,ev_tmp,ev_con,ev_func,ofK_int,ofK_bool,ofK_str,ofK_nil,ofK_agg,ofC_int,ofC_bool,ofC_str,ofC_nil,ofC_nilp,one_int,one_bool,one_str,one_nil,one_nilp,evOp,evBuiltin,evCall,cfn,yldF,evLen,evAppend,getElem_16,getElem_4,List.length_cons,List.length_nil,List.reduceReplicate,Nat.reduceAdd,Nat.reduceSub,List.cons_append,List.nil_append,List.append_nil,if_false,if_true,Bool.false_eq_true,Bool.true_eq_false,reduceCtorEq,Option.map_some,Option.map_none,List.map_cons,List.map_nil,evBinOp,evBin,evUn,asB_bool,splitB_decide,splitB_true,splitB_false,splitB_beq,splitB_bne,splitB_not,endK_ret,endK_norm,List.getElem?_cons_zero,List.getElem?_cons_succ,evResults,evResult,packRes,retK_norm,retK_ret,cellsAt,mkVal,evFieldAddr,evField,evIndexAddr,evPart,evStore,evBuild,evBuildSlice,fillC,fillE,evSlice,evMakeSlice,evConvert,getRow,AV.cells,List.head?_cons,List.drop_zero,List.drop_succ_cons,List.take_zero,List.take_succ_cons,List.drop_nil,List.take_nil,List.all_cons,List.all_nil,AV.ok,Bool.and_self,Bool.and_true,Bool.true_and,and_self,and_true,true_and,Nat.reduceLeDiff,Nat.reduceMul,Nat.reduceLT,Nat.reduceEqDiff,Nat.zero_add,Nat.add_zero,setCells,splice,pairsOk,pairsX,altW_none,altW_some,cfg_al,WI_nil,WI_cons,FP.apart,heapEq_refl,sameAt_refl,Bool.or_true,Bool.true_or,Bool.or_false,srcElems,elemsOf,mutDst,indDst,thwDst,evLenH,evMapUpd,evLookup,getMp,keyOk,resOk,strOf,roundK_norm,roundK_exit,roundK_ret,List.length_map,List.getElem?_map,Int.toNat_natCast,Int.reduceBNe,Int.reduceBEq,decide_true,decide_false,Bool.not_true,Bool.not_false,List.set,set_0,set_1,set_2,set_3,set_4,look_hit,look,lookD_hit,lookD_cons,lookD_nil,ins_hit,ins,upd_hit,upd,rem1_hit,rem1,dropT,dropSt_eq,initT,cfg_dd,cfg_bd,cfg_ra,actL_nil,actL_cons,act1,updT_hit,updT,frzB,mu94,List.contains_nil,List.contains_cons,Nat.reduceBEq,Bool.or_self,dlt_t,dlt_f,dle_t,dle_f,dgt_t,dgt_f,dge_t,dge_f,beq_t,beq_f,bne_t,bne_f,lt_T,le_T,nle_T,nle_F,↓wrap_up,↓wrap_down,↓wrap_pred,↓wrap_sub_nat,i64_in,i64_quo,rem_in,Int.reduceToNat,hp,spanAV,hgd,f136]
    refine⟨by unfold dOk;kernel_rfl,ext ?_,rfl⟩
    simp[badAt,hp,hgd]
   ·obtain⟨q,hq⟩:∃ q,l[i]?=some q:=⟨_,List.getElem?_eq_getElem (by omega)⟩
    have hbq:=hg i (by omega)
    simp only[badAt,hq,Bool.or_eq_false_iff,Bool.not_eq_false',decide_eq_true_eq]at hbq
    replace hbq:=hbq.1
    have hb:badAt l (i+1)=decide (p.1 - q.2 < 2):=by simp[badAt,hp,hq,hgd]
    simp +contextual (disch:=omega) only[Tryz.f94,dd94,ty0,ty3,ty4,ty30,ty60,ty84,↓reduceIte,eq_self,bindW_some,bindW_map,bindW_ite,bindW_iteN,W_seq,W_region,W_draw,W_cond,W_condK,W_ret,W_skip,W_exit,W_scope,W_label,W_block,blockK_norm,blockK_ret,blockK_exit,WO_nil,WO_cons,WO_guard,WD_nil,WD_cons,WD_guard,guardV,guardW_boolT,guardW_boolF,guardW_tup,fpL_some,fpL_none,footprint,footprint0,fineF,thenK_norm,thenK_ret,thenK_exit,put_some,put_none,ev_tmp,ev_con,ev_func,ofK_int,ofK_bool,ofK_str,ofK_nil,ofK_agg,ofC_int,ofC_bool,ofC_str,ofC_nil,ofC_nilp,one_int,one_bool,one_str,one_nil,one_nilp,evOp,evBuiltin,evCall,cfn,yldF,evLen,evAppend,getElem_16,getElem_4,List.length_cons,List.length_nil,List.reduceReplicate,Nat.reduceAdd,Nat.reduceSub,List.cons_append,List.nil_append,List.append_nil,if_false,if_true,Bool.false_eq_true,Bool.true_eq_false,reduceCtorEq,Option.map_some,Option.map_none,List.map_cons,List.map_nil,evBinOp,evBin,evUn,asB_bool,splitB_decide,splitB_true,splitB_false,splitB_beq,splitB_bne,splitB_not,endK_ret,endK_norm,List.getElem?_cons_zero,List.getElem?_cons_succ,evResults,evResult,packRes,retK_norm,retK_ret,cellsAt,mkVal,evFieldAddr,evField,evIndexAddr,evPart,evStore,evBuild,evBuildSlice,fillC,fillE,evSlice,evMakeSlice,evConvert,getRow,AV.cells,List.head?_cons,List.drop_zero,List.drop_succ_cons,List.take_zero,List.take_succ_cons,List.drop_nil,List.take_nil,List.all_cons,List.all_nil,AV.ok,Bool.and_self,Bool.and_true,Bool.true_and,and_self,and_true,true_and,Nat.reduceLeDiff,Nat.reduceMul,Nat.reduceLT,Nat.reduceEqDiff,Nat.zero_add,Nat.add_zero,setCells,splice,pairsOk,pairsX,altW_none,altW_some,cfg_al,WI_nil,WI_cons,FP.apart,heapEq_refl,sameAt_refl,Bool.or_true,Bool.true_or,Bool.or_false,srcElems,elemsOf,mutDst,indDst,thwDst,evLenH,evMapUpd,evLookup,getMp,keyOk,resOk,strOf,roundK_norm,roundK_exit,roundK_ret,List.length_map,List.getElem?_map,Int.toNat_natCast,Int.reduceBNe,Int.reduceBEq,decide_true,decide_false,Bool.not_true,Bool.not_false,List.set,set_0,set_1,set_2,set_3,set_4,look_hit,look,lookD_hit,lookD_cons,lookD_nil,ins_hit,ins,upd_hit,upd,rem1_hit,rem1,dropT,dropSt_eq,initT,cfg_dd,cfg_bd,cfg_ra,actL_nil,actL_cons,act1,updT_hit,updT,frzB,mu94,List.contains_nil,List.contains_cons,Nat.reduceBEq,Bool.or_self,dlt_t,dlt_f,dle_t,dle_f,dgt_t,dgt_f,dge_t,dge_f,beq_t,beq_f,bne_t,bne_f,lt_T,le_T,nle_T,nle_F,↓wrap_up,↓wrap_down,↓wrap_pred,↓wrap_sub_nat,i64_in,i64_quo,rem_in,Int.reduceToNat,hp,hq,spanAV,hgd,f136]
    refine⟨by unfold dOk;kernel_rfl,?_⟩
    refine⟨fun h=>fzEq rfl ?_,fun h=>⟨ext ?_,rfl⟩⟩
    ·rw[refSpans_bad hlt];simp[hb];omega
    ·simp[hb];omega
  ·simp +contextual (disch:=omega) only[Tryz.f94,dd94,ty0,ty3,ty4,ty30,ty60,ty84,↓reduceIte,eq_self,bindW_some,bindW_map,bindW_ite,bindW_iteN,W_seq,W_region,W_draw,W_cond,W_condK,W_ret,W_skip,W_exit,W_scope,W_label,W_block,blockK_norm,blockK_ret,blockK_exit,WO_nil,WO_cons,WO_guard,WD_nil,WD_cons,WD_guard,guardV,guardW_boolT,guardW_boolF,guardW_tup,fpL_some,fpL_none,footprint,footprint0,fineF,thenK_norm,thenK_ret,thenK_exit,put_some,put_none,ev_tmp,ev_con,ev_func,ofK_int,ofK_bool,ofK_str,ofK_nil,ofK_agg,ofC_int,ofC_bool,ofC_str,ofC_nil,ofC_nilp,one_int,one_bool,one_str,one_nil,one_nilp,evOp,evBuiltin,evCall,cfn,yldF,evLen,evAppend,getElem_16,getElem_4,List.length_cons,List.length_nil,List.reduceReplicate,Nat.reduceAdd,Nat.reduceSub,List.cons_append,List.nil_append,List.append_nil,if_false,if_true,Bool.false_eq_true,Bool.true_eq_false,reduceCtorEq,Option.map_some,Option.map_none,List.map_cons,List.map_nil,evBinOp,evBin,evUn,asB_bool,splitB_decide,splitB_true,splitB_false,splitB_beq,splitB_bne,splitB_not,endK_ret,endK_norm,List.getElem?_cons_zero,List.getElem?_cons_succ,evResults,evResult,packRes,retK_norm,retK_ret,cellsAt,mkVal,evFieldAddr,evField,evIndexAddr,evPart,evStore,evBuild,evBuildSlice,fillC,fillE,evSlice,evMakeSlice,evConvert,getRow,AV.cells,List.head?_cons,List.drop_zero,List.drop_succ_cons,List.take_zero,List.take_succ_cons,List.drop_nil,List.take_nil,List.all_cons,List.all_nil,AV.ok,Bool.and_self,Bool.and_true,Bool.true_and,and_self,and_true,true_and,Nat.reduceLeDiff,Nat.reduceMul,Nat.reduceLT,Nat.reduceEqDiff,Nat.zero_add,Nat.add_zero,setCells,splice,pairsOk,pairsX,altW_none,altW_some,cfg_al,WI_nil,WI_cons,FP.apart,heapEq_refl,sameAt_refl,Bool.or_true,Bool.true_or,Bool.or_false,srcElems,elemsOf,mutDst,indDst,thwDst,evLenH,evMapUpd,evLookup,getMp,keyOk,resOk,strOf,roundK_norm,roundK_exit,roundK_ret,List.length_map,List.getElem?_map,Int.toNat_natCast,Int.reduceBNe,Int.reduceBEq,decide_true,decide_false,Bool.not_true,Bool.not_false,List.set,set_0,set_1,set_2,set_3,set_4,look_hit,look,lookD_hit,lookD_cons,lookD_nil,ins_hit,ins,upd_hit,upd,rem1_hit,rem1,dropT,dropSt_eq,initT,cfg_dd,cfg_bd,cfg_ra,actL_nil,actL_cons,act1,updT_hit,updT,frzB,mu94,List.contains_nil,List.contains_cons,Nat.reduceBEq,Bool.or_self,dlt_t,dlt_f,dle_t,dle_f,dgt_t,dgt_f,dge_t,dge_f,beq_t,beq_f,bne_t,bne_f,lt_T,le_T,nle_T,nle_F,↓wrap_up,↓wrap_down,↓wrap_pred,↓wrap_sub_nat,i64_in,i64_quo,rem_in,Int.reduceToNat,hp,spanAV,hgd,f136]
   refine⟨by unfold dOk;kernel_rfl,fzEq rfl ?_⟩
   rw[refSpans_bad hlt (by simp only[badAt,hp];simp only[hgd,decide_false,Bool.not_false,Bool.true_or])]
 ·intro hg
  rw[refSpans_good hg]
  simp +contextual (disch:=omega) only[Tryz.f94,dd94,ty0,ty3,ty4,ty30,ty60,ty84,↓reduceIte,eq_self,bindW_some,bindW_map,bindW_ite,bindW_iteN,W_seq,W_region,W_draw,W_cond,W_condK,W_ret,W_skip,W_exit,W_scope,W_label,W_block,blockK_norm,blockK_ret,blockK_exit,WO_nil,WO_cons,WO_guard,WD_nil,WD_cons,WD_guard,guardV,guardW_boolT,guardW_boolF,guardW_tup,fpL_some,fpL_none,footprint,footprint0,fineF,thenK_norm,thenK_ret,thenK_exit,put_some,put_none,ev_tmp,ev_con,ev_func,ofK_int,ofK_bool,ofK_str,ofK_nil,ofK_agg,ofC_int,ofC_bool,ofC_str,ofC_nil,ofC_nilp,one_int,one_bool,one_str,one_nil,one_nilp,evOp,evBuiltin,evCall,cfn,yldF,evLen,evAppend,getElem_16,getElem_4,List.length_cons,List.length_nil,List.reduceReplicate,Nat.reduceAdd,Nat.reduceSub,List.cons_append,List.nil_append,List.append_nil,if_false,if_true,Bool.false_eq_true,Bool.true_eq_false,reduceCtorEq,Option.map_some,Option.map_none,List.map_cons,List.map_nil,evBinOp,evBin,evUn,asB_bool,splitB_decide,splitB_true,splitB_false,splitB_beq,splitB_bne,splitB_not,endK_ret,endK_norm,List.getElem?_cons_zero,List.getElem?_cons_succ,evResults,evResult,packRes,retK_norm,retK_ret,cellsAt,mkVal,evFieldAddr,evField,evIndexAddr,evPart,evStore,evBuild,evBuildSlice,fillC,fillE,evSlice,evMakeSlice,evConvert,getRow,AV.cells,List.head?_cons,List.drop_zero,List.drop_succ_cons,List.take_zero,List.take_succ_cons,List.drop_nil,List.take_nil,List.all_cons,List.all_nil,AV.ok,Bool.and_self,Bool.and_true,Bool.true_and,and_self,and_true,true_and,Nat.reduceLeDiff,Nat.reduceMul,Nat.reduceLT,Nat.reduceEqDiff,Nat.zero_add,Nat.add_zero,setCells,splice,pairsOk,pairsX,altW_none,altW_some,cfg_al,WI_nil,WI_cons,FP.apart,heapEq_refl,sameAt_refl,Bool.or_true,Bool.true_or,Bool.or_false,srcElems,elemsOf,mutDst,indDst,thwDst,evLenH,evMapUpd,evLookup,getMp,keyOk,resOk,strOf,roundK_norm,roundK_exit,roundK_ret,List.length_map,List.getElem?_map,Int.toNat_natCast,Int.reduceBNe,Int.reduceBEq,decide_true,decide_false,Bool.not_true,Bool.not_false,List.set,set_0,set_1,set_2,set_3,set_4,look_hit,look,lookD_hit,lookD_cons,lookD_nil,ins_hit,ins,upd_hit,upd,rem1_hit,rem1,dropT,dropSt_eq,initT,cfg_dd,cfg_bd,cfg_ra,actL_nil,actL_cons,act1,updT_hit,updT,frzB,mu94,List.contains_nil,List.contains_cons,Nat.reduceBEq,Bool.or_self,dlt_t,dlt_f,dle_t,dle_f,dgt_t,dgt_f,dge_t,dge_f,beq_t,beq_f,bne_t,bne_f,lt_T,le_T,nle_T,nle_F,↓wrap_up,↓wrap_down,↓wrap_pred,↓wrap_sub_nat,i64_in,i64_quo,rem_in,Int.reduceToNat]
  refine⟨fun h=>fzEq rfl ?_,fun h=>fzEq rfl ?_⟩
  ·rw[if_pos (by omega)]
  ·rw[if_neg (by omega)]
end Go.Ev
namespace Go.Ev
open Go.Proofs Go.RowKit Go.IntWalk
set_option maxRecDepth 100000
set_option maxHeartbeats 2000000
theorem f91 (a b:Int) (H:List MB):call Tryz.prog pol1 154 [.agg [.int .i64 a,.int .i64 b]] H=some (.bool (decide (0≤a∧a≤b∧b≤1114111)),H):=by
 refine call_run Tryz.func154 rfl rfl rfl rfl rfl rfl (fun _=>rfl) (by simp[AV.plain,AV.plainL,plain_ints,plain_span,plain_ins,plain_prg]) (by simp[AV.plain,AV.plainL,plain_ints,plain_span,plain_ins,plain_prg]) ?_ H
 simp only[Tryz.f154,dd154,ty0,ty3,ty4,ty84,↓reduceIte,eq_self,bindW_some,bindW_map,bindW_ite,bindW_iteN,W_seq,W_region,W_draw,W_cond,W_condK,W_ret,W_skip,W_exit,W_scope,W_label,W_block,blockK_norm,blockK_ret,blockK_exit,WO_nil,WO_cons,WO_guard,WD_nil,WD_cons,WD_guard,guardV,guardW_boolT,guardW_boolF,guardW_tup,fpL_some,fpL_none,footprint,footprint0,fineF,thenK_norm,thenK_ret,thenK_exit,put_some,put_none,ev_tmp,ev_con,ev_func,ofK_int,ofK_bool,ofK_str,ofK_nil,ofK_agg,ofC_int,ofC_bool,ofC_str,ofC_nil,ofC_nilp,one_int,one_bool,one_str,one_nil,one_nilp,evOp,evBuiltin,evCall,cfn,yldF,evLen,evAppend,getElem_16,getElem_4,List.length_cons,List.length_nil,List.reduceReplicate,Nat.reduceAdd,Nat.reduceSub,List.cons_append,List.nil_append,List.append_nil,if_false,if_true,Bool.false_eq_true,Bool.true_eq_false,reduceCtorEq,Option.map_some,Option.map_none,List.map_cons,List.map_nil,evBinOp,evBin,evUn,asB_bool,splitB_decide,splitB_true,splitB_false,splitB_beq,splitB_bne,splitB_not,endK_ret,endK_norm,List.getElem?_cons_zero,List.getElem?_cons_succ,evResults,evResult,packRes,retK_norm,retK_ret,cellsAt,mkVal,evFieldAddr,evField,evIndexAddr,evPart,evStore,evBuild,evBuildSlice,fillC,fillE,evSlice,evMakeSlice,evConvert,getRow,AV.cells,List.head?_cons,List.drop_zero,List.drop_succ_cons,List.take_zero,List.take_succ_cons,List.drop_nil,List.take_nil,List.all_cons,List.all_nil,AV.ok,Bool.and_self,Bool.and_true,Bool.true_and,and_self,and_true,true_and,Nat.reduceLeDiff,Nat.reduceMul,Nat.reduceLT,Nat.reduceEqDiff,Nat.zero_add,Nat.add_zero,setCells,splice,pairsOk,pairsX,altW_none,altW_some,cfg_al,WI_nil,WI_cons,FP.apart,heapEq_refl,sameAt_refl,Bool.or_true,Bool.true_or,Bool.or_false,srcElems,elemsOf,mutDst,indDst,thwDst,evLenH,evMapUpd,evLookup,getMp,keyOk,resOk,strOf,roundK_norm,roundK_exit,roundK_ret,List.length_map,List.getElem?_map,Int.toNat_natCast,Int.reduceBNe,Int.reduceBEq,decide_true,decide_false,Bool.not_true,Bool.not_false,List.set,set_0,set_1,set_2,set_3,set_4,look_hit,look,lookD_hit,lookD_cons,lookD_nil,ins_hit,ins,upd_hit,upd,rem1_hit,rem1,dropT,dropSt_eq,initT,cfg_dd,cfg_bd,cfg_ra,actL_nil,actL_cons,act1,updT_hit,updT,frzB,mu154,List.contains_nil,List.contains_cons,Nat.reduceBEq,Bool.or_self]
 repeat' (first|intro _|apply And.intro|refine fzEq rfl ?_)
 all_goals (congr 1;simp only[decide_eq_decide,false_eq_decide_iff];omega)
theorem f121 (l:List (Int×Int)) (hl:l.length≤1000000) (H:List MB):call Tryz.prog pol1 137 [.sl false (l.map spanAV)] H=some (I (refSpans l),H):=by
 refine call_run Tryz.func137 rfl rfl rfl rfl rfl rfl (fun _=>rfl) (by simp[AV.plain,AV.plainL,plain_ints,plain_span,plain_ins,plain_prg]) (by simp[AV.plain,AV.plainL,plain_ints,plain_span,plain_ins,plain_prg]) ?_ H
 simp only[Tryz.f137,dd137,ty0,ty3,ty4,ty30,ty60,ty84,↓reduceIte,eq_self,bindW_some,bindW_map,bindW_ite,bindW_iteN,W_seq,W_region,W_draw,W_cond,W_condK,W_ret,W_skip,W_exit,W_scope,W_label,W_block,blockK_norm,blockK_ret,blockK_exit,WO_nil,WO_cons,WO_guard,WD_nil,WD_cons,WD_guard,guardV,guardW_boolT,guardW_boolF,guardW_tup,fpL_some,fpL_none,footprint,footprint0,fineF,thenK_norm,thenK_ret,thenK_exit,put_some,put_none,ev_tmp,ev_con,ev_func,ofK_int,ofK_bool,ofK_str,ofK_nil,ofK_agg,ofC_int,ofC_bool,ofC_str,ofC_nil,ofC_nilp,one_int,one_bool,one_str,one_nil,one_nilp,evOp,evBuiltin,evCall,cfn,yldF,evLen,evAppend,getElem_16,getElem_4,List.length_cons,List.length_nil,List.reduceReplicate,Nat.reduceAdd,Nat.reduceSub,List.cons_append,List.nil_append,List.append_nil,if_false,if_true,Bool.false_eq_true,Bool.true_eq_false,reduceCtorEq,Option.map_some,Option.map_none,List.map_cons,List.map_nil,evBinOp,evBin,evUn,asB_bool,splitB_decide,splitB_true,splitB_false,splitB_beq,splitB_bne,splitB_not,endK_ret,endK_norm,List.getElem?_cons_zero,List.getElem?_cons_succ,evResults,evResult,packRes,retK_norm,retK_ret,cellsAt,mkVal,evFieldAddr,evField,evIndexAddr,evPart,evStore,evBuild,evBuildSlice,fillC,fillE,evSlice,evMakeSlice,evConvert,getRow,AV.cells,List.head?_cons,List.drop_zero,List.drop_succ_cons,List.take_zero,List.take_succ_cons,List.drop_nil,List.take_nil,List.all_cons,List.all_nil,AV.ok,Bool.and_self,Bool.and_true,Bool.true_and,and_self,and_true,true_and,Nat.reduceLeDiff,Nat.reduceMul,Nat.reduceLT,Nat.reduceEqDiff,Nat.zero_add,Nat.add_zero,setCells,splice,pairsOk,pairsX,altW_none,altW_some,cfg_al,WI_nil,WI_cons,FP.apart,heapEq_refl,sameAt_refl,Bool.or_true,Bool.true_or,Bool.or_false,srcElems,elemsOf,mutDst,indDst,thwDst,evLenH,evMapUpd,evLookup,getMp,keyOk,resOk,strOf,roundK_norm,roundK_exit,roundK_ret,List.length_map,List.getElem?_map,Int.toNat_natCast,Int.reduceBNe,Int.reduceBEq,decide_true,decide_false,Bool.not_true,Bool.not_false,List.set,set_0,set_1,set_2,set_3,set_4,look_hit,look,lookD_hit,lookD_cons,lookD_nil,ins_hit,ins,upd_hit,upd,rem1_hit,rem1,dropT,dropSt_eq,initT,cfg_dd,cfg_bd,cfg_ra,actL_nil,actL_cons,act1,updT_hit,updT,frzB,mu137,List.contains_nil,List.contains_cons,Nat.reduceBEq,Bool.or_self]
 refine W_count (M:=(mskOf (pol1.mask 137) (pol1.gc 137) (pol1.acts 137) 0 2)) rfl l.length (fun i=>(⟨35,[(7,I i),(6,I l.length),(5,.sl false (l.map spanAV)),(0,.sl false (l.map spanAV))],[]⟩:St)) (fun i=>∀ k,k < i→badAt l k=false) ?_ ?_ (fun k h=>by omega) _ (by first|rfl|(refine prep_cut rfl (by rfl) (by rfl) (by rfl) ?_ ?_<;>simp[AV.underL,AV.under,MB.under,underL_plain,under_plain,plain_ints,plain_span,plain_ins,plain_prg,-List.map_take]))
 ·intro i hlt hg
  obtain⟨p,hp⟩:∃ p,l[i]?=some p:=⟨_,List.getElem?_eq_getElem hlt⟩
  have ext:badAt l i=false→∀ k,k < i+1→badAt l k=false:=fun h k hk=>by
   rcases Nat.lt_or_ge k i with h1|h1
   ·exact hg k h1
   ·obtain rfl:k=i:=by omega
    exact h
  by_cases hgd:0≤p.1∧p.1≤p.2∧p.2≤1114111
  ·rcases i with _|i
   ·simp +contextual (disch:=omega) only[Tryz.f137,dd137,ty0,ty3,ty4,ty30,ty60,ty84,↓reduceIte,eq_self,bindW_some,bindW_map,bindW_ite,bindW_iteN,W_seq,W_region,W_draw,W_cond,W_condK,W_ret,W_skip,W_exit,W_scope,W_label,W_block,blockK_norm,blockK_ret,blockK_exit,WO_nil,WO_cons,WO_guard,WD_nil,WD_cons,WD_guard,guardV,guardW_boolT,guardW_boolF,guardW_tup,fpL_some,fpL_none,footprint,footprint0,fineF,thenK_norm,thenK_ret,thenK_exit,put_some,put_none,ev_tmp,ev_con,ev_func,ofK_int,ofK_bool,ofK_str,ofK_nil,ofK_agg,ofC_int,ofC_bool,ofC_str,ofC_nil,ofC_nilp,one_int,one_bool,one_str,one_nil,one_nilp,evOp,evBuiltin,evCall,cfn,yldF,evLen,evAppend,getElem_16,getElem_4,List.length_cons,List.length_nil,List.reduceReplicate,Nat.reduceAdd,Nat.reduceSub,List.cons_append,List.nil_append,List.append_nil,if_false,if_true,Bool.false_eq_true,Bool.true_eq_false,reduceCtorEq,Option.map_some,Option.map_none,List.map_cons,List.map_nil,evBinOp,evBin,evUn,asB_bool,splitB_decide,splitB_true,splitB_false,splitB_beq,splitB_bne,splitB_not,endK_ret,endK_norm,List.getElem?_cons_zero,List.getElem?_cons_succ,evResults,evResult,packRes,retK_norm,retK_ret,cellsAt,mkVal,evFieldAddr,evField,evIndexAddr,evPart,evStore,evBuild,evBuildSlice,fillC,fillE,evSlice,evMakeSlice,evConvert,getRow,AV.cells,List.head?_cons,List.drop_zero,List.drop_succ_cons,List.take_zero,List.take_succ_cons,List.drop_nil,List.take_nil,List.all_cons,List.all_nil,AV.ok,Bool.and_self,Bool.and_true,Bool.true_and,and_self,and_true,true_and,Nat.reduceLeDiff,Nat.reduceMul,Nat.reduceLT,Nat.reduceEqDiff,Nat.zero_add,Nat.add_zero,setCells,splice,pairsOk,pairsX,altW_none,altW_some,cfg_al,WI_nil,WI_cons,FP.apart,heapEq_refl,sameAt_refl,Bool.or_true,Bool.true_or,Bool.or_false,srcElems,elemsOf,mutDst,indDst,thwDst,evLenH,evMapUpd,evLookup,getMp,keyOk,resOk,strOf,roundK_norm,roundK_exit,roundK_ret,List.length_map,List.getElem?_map,Int.toNat_natCast,Int.reduceBNe,Int.reduceBEq,decide_true,decide_false,Bool.not_true,Bool.not_false,List.set,set_0,set_1,set_2,set_3,set_4,look_hit,look,lookD_hit,lookD_cons,lookD_nil,ins_hit,ins,upd_hit,upd,rem1_hit,rem1,dropT,dropSt_eq,initT,cfg_dd,cfg_bd,cfg_ra,actL_nil,actL_cons,act1,updT_hit,updT,frzB,mu137,List.contains_nil,List.contains_cons,Nat.reduceBEq,Bool.or_self,dlt_t,dlt_f,dle_t,dle_f,dgt_t,dgt_f,dge_t,dge_f,beq_t,beq_f,bne_t,bne_f,lt_T,le_T,nle_T,nle_F,↓wrap_up,↓wrap_down,↓wrap_pred,↓wrap_sub_nat,i64_in,i64_quo,rem_in,Int.reduceToNat,hp,spanAV,hgd,f91]
    refine⟨by unfold dOk;kernel_rfl,ext ?_,(by first|rfl|(refine prep_cut rfl (by rfl) (by rfl) (by rfl) ?_ ?_<;>simp[AV.underL,AV.under,MB.under,underL_plain,under_plain,plain_ints,plain_span,plain_ins,plain_prg,-List.map_take]))⟩
    simp[badAt,hp,hgd]
   ·obtain⟨q,hq⟩:∃ q,l[i]?=some q:=⟨_,List.getElem?_eq_getElem (by omega)⟩
    have hbq:=hg i (by omega)
    simp only[badAt,hq,Bool.or_eq_false_iff,Bool.not_eq_false',decide_eq_true_eq]at hbq
    replace hbq:=hbq.1
    have hb:badAt l (i+1)=decide (p.1 - q.2 < 2):=by simp[badAt,hp,hq,hgd]
    simp +contextual (disch:=omega) only[Tryz.f137,dd137,ty0,ty3,ty4,ty30,ty60,ty84,↓reduceIte,eq_self,bindW_some,bindW_map,bindW_ite,bindW_iteN,W_seq,W_region,W_draw,W_cond,W_condK,W_ret,W_skip,W_exit,W_scope,W_label,W_block,blockK_norm,blockK_ret,blockK_exit,WO_nil,WO_cons,WO_guard,WD_nil,WD_cons,WD_guard,guardV,guardW_boolT,guardW_boolF,guardW_tup,fpL_some,fpL_none,footprint,footprint0,fineF,thenK_norm,thenK_ret,thenK_exit,put_some,put_none,ev_tmp,ev_con,ev_func,ofK_int,ofK_bool,ofK_str,ofK_nil,ofK_agg,ofC_int,ofC_bool,ofC_str,ofC_nil,ofC_nilp,one_int,one_bool,one_str,one_nil,one_nilp,evOp,evBuiltin,evCall,cfn,yldF,evLen,evAppend,getElem_16,getElem_4,List.length_cons,List.length_nil,List.reduceReplicate,Nat.reduceAdd,Nat.reduceSub,List.cons_append,List.nil_append,List.append_nil,if_false,if_true,Bool.false_eq_true,Bool.true_eq_false,reduceCtorEq,Option.map_some,Option.map_none,List.map_cons,List.map_nil,evBinOp,evBin,evUn,asB_bool,splitB_decide,splitB_true,splitB_false,splitB_beq,splitB_bne,splitB_not,endK_ret,endK_norm,List.getElem?_cons_zero,List.getElem?_cons_succ,evResults,evResult,packRes,retK_norm,retK_ret,cellsAt,mkVal,evFieldAddr,evField,evIndexAddr,evPart,evStore,evBuild,evBuildSlice,fillC,fillE,evSlice,evMakeSlice,evConvert,getRow,AV.cells,List.head?_cons,List.drop_zero,List.drop_succ_cons,List.take_zero,List.take_succ_cons,List.drop_nil,List.take_nil,List.all_cons,List.all_nil,AV.ok,Bool.and_self,Bool.and_true,Bool.true_and,and_self,and_true,true_and,Nat.reduceLeDiff,Nat.reduceMul,Nat.reduceLT,Nat.reduceEqDiff,Nat.zero_add,Nat.add_zero,setCells,splice,pairsOk,pairsX,altW_none,altW_some,cfg_al,WI_nil,WI_cons,FP.apart,heapEq_refl,sameAt_refl,Bool.or_true,Bool.true_or,Bool.or_false,srcElems,elemsOf,mutDst,indDst,thwDst,evLenH,evMapUpd,evLookup,getMp,keyOk,resOk,strOf,roundK_norm,roundK_exit,roundK_ret,List.length_map,List.getElem?_map,Int.toNat_natCast,Int.reduceBNe,Int.reduceBEq,decide_true,decide_false,Bool.not_true,Bool.not_false,List.set,set_0,set_1,set_2,set_3,set_4,look_hit,look,lookD_hit,lookD_cons,lookD_nil,ins_hit,ins,upd_hit,upd,rem1_hit,rem1,dropT,dropSt_eq,initT,cfg_dd,cfg_bd,cfg_ra,actL_nil,actL_cons,act1,updT_hit,updT,frzB,mu137,List.contains_nil,List.contains_cons,Nat.reduceBEq,Bool.or_self,dlt_t,dlt_f,dle_t,dle_f,dgt_t,dgt_f,dge_t,dge_f,beq_t,beq_f,bne_t,bne_f,lt_T,le_T,nle_T,nle_F,↓wrap_up,↓wrap_down,↓wrap_pred,↓wrap_sub_nat,i64_in,i64_quo,rem_in,Int.reduceToNat,hp,hq,spanAV,hgd,f91]
    refine⟨by unfold dOk;kernel_rfl,fun h=>fzEq rfl ?_,fun h=>⟨ext ?_,(by first|rfl|(refine prep_cut rfl (by rfl) (by rfl) (by rfl) ?_ ?_<;>simp[AV.underL,AV.under,MB.under,underL_plain,under_plain,plain_ints,plain_span,plain_ins,plain_prg,-List.map_take]))⟩⟩
    ·rw[refSpans_bad hlt];simp[hb];omega
    ·simp[hb];omega
  ·simp +contextual (disch:=omega) only[Tryz.f137,dd137,ty0,ty3,ty4,ty30,ty60,ty84,↓reduceIte,eq_self,bindW_some,bindW_map,bindW_ite,bindW_iteN,W_seq,W_region,W_draw,W_cond,W_condK,W_ret,W_skip,W_exit,W_scope,W_label,W_block,blockK_norm,blockK_ret,blockK_exit,WO_nil,WO_cons,WO_guard,WD_nil,WD_cons,WD_guard,guardV,guardW_boolT,guardW_boolF,guardW_tup,fpL_some,fpL_none,footprint,footprint0,fineF,thenK_norm,thenK_ret,thenK_exit,put_some,put_none,ev_tmp,ev_con,ev_func,ofK_int,ofK_bool,ofK_str,ofK_nil,ofK_agg,ofC_int,ofC_bool,ofC_str,ofC_nil,ofC_nilp,one_int,one_bool,one_str,one_nil,one_nilp,evOp,evBuiltin,evCall,cfn,yldF,evLen,evAppend,getElem_16,getElem_4,List.length_cons,List.length_nil,List.reduceReplicate,Nat.reduceAdd,Nat.reduceSub,List.cons_append,List.nil_append,List.append_nil,if_false,if_true,Bool.false_eq_true,Bool.true_eq_false,reduceCtorEq,Option.map_some,Option.map_none,List.map_cons,List.map_nil,evBinOp,evBin,evUn,asB_bool,splitB_decide,splitB_true,splitB_false,splitB_beq,splitB_bne,splitB_not,endK_ret,endK_norm,List.getElem?_cons_zero,List.getElem?_cons_succ,evResults,evResult,packRes,retK_norm,retK_ret,cellsAt,mkVal,evFieldAddr,evField,evIndexAddr,evPart,evStore,evBuild,evBuildSlice,fillC,fillE,evSlice,evMakeSlice,evConvert,getRow,AV.cells,List.head?_cons,List.drop_zero,List.drop_succ_cons,List.take_zero,List.take_succ_cons,List.drop_nil,List.take_nil,List.all_cons,List.all_nil,AV.ok,Bool.and_self,Bool.and_true,Bool.true_and,and_self,and_true,true_and,Nat.reduceLeDiff,Nat.reduceMul,Nat.reduceLT,Nat.reduceEqDiff,Nat.zero_add,Nat.add_zero,setCells,splice,pairsOk,pairsX,altW_none,altW_some,cfg_al,WI_nil,WI_cons,FP.apart,heapEq_refl,sameAt_refl,Bool.or_true,Bool.true_or,Bool.or_false,srcElems,elemsOf,mutDst,indDst,thwDst,evLenH,evMapUpd,evLookup,getMp,keyOk,resOk,strOf,roundK_norm,roundK_exit,roundK_ret,List.length_map,List.getElem?_map,Int.toNat_natCast,Int.reduceBNe,Int.reduceBEq,decide_true,decide_false,Bool.not_true,Bool.not_false,List.set,set_0,set_1,set_2,set_3,set_4,look_hit,look,lookD_hit,lookD_cons,lookD_nil,ins_hit,ins,upd_hit,upd,rem1_hit,rem1,dropT,dropSt_eq,initT,cfg_dd,cfg_bd,cfg_ra,actL_nil,actL_cons,act1,updT_hit,updT,frzB,mu137,List.contains_nil,List.contains_cons,Nat.reduceBEq,Bool.or_self,dlt_t,dlt_f,dle_t,dle_f,dgt_t,dgt_f,dge_t,dge_f,beq_t,beq_f,bne_t,bne_f,lt_T,le_T,nle_T,nle_F,↓wrap_up,↓wrap_down,↓wrap_pred,↓wrap_sub_nat,i64_in,i64_quo,rem_in,Int.reduceToNat,hp,spanAV,hgd,f91]
   refine⟨by unfold dOk;kernel_rfl,fzEq rfl ?_⟩
   rw[refSpans_bad hlt (by simp only[badAt,hp];simp only[hgd,decide_false,Bool.not_false,Bool.true_or])]
 ·intro hg
  rw[refSpans_good hg]
  simp +contextual (disch:=omega) only[Tryz.f137,dd137,ty0,ty3,ty4,ty30,ty60,ty84,↓reduceIte,eq_self,bindW_some,bindW_map,bindW_ite,bindW_iteN,W_seq,W_region,W_draw,W_cond,W_condK,W_ret,W_skip,W_exit,W_scope,W_label,W_block,blockK_norm,blockK_ret,blockK_exit,WO_nil,WO_cons,WO_guard,WD_nil,WD_cons,WD_guard,guardV,guardW_boolT,guardW_boolF,guardW_tup,fpL_some,fpL_none,footprint,footprint0,fineF,thenK_norm,thenK_ret,thenK_exit,put_some,put_none,ev_tmp,ev_con,ev_func,ofK_int,ofK_bool,ofK_str,ofK_nil,ofK_agg,ofC_int,ofC_bool,ofC_str,ofC_nil,ofC_nilp,one_int,one_bool,one_str,one_nil,one_nilp,evOp,evBuiltin,evCall,cfn,yldF,evLen,evAppend,getElem_16,getElem_4,List.length_cons,List.length_nil,List.reduceReplicate,Nat.reduceAdd,Nat.reduceSub,List.cons_append,List.nil_append,List.append_nil,if_false,if_true,Bool.false_eq_true,Bool.true_eq_false,reduceCtorEq,Option.map_some,Option.map_none,List.map_cons,List.map_nil,evBinOp,evBin,evUn,asB_bool,splitB_decide,splitB_true,splitB_false,splitB_beq,splitB_bne,splitB_not,endK_ret,endK_norm,List.getElem?_cons_zero,List.getElem?_cons_succ,evResults,evResult,packRes,retK_norm,retK_ret,cellsAt,mkVal,evFieldAddr,evField,evIndexAddr,evPart,evStore,evBuild,evBuildSlice,fillC,fillE,evSlice,evMakeSlice,evConvert,getRow,AV.cells,List.head?_cons,List.drop_zero,List.drop_succ_cons,List.take_zero,List.take_succ_cons,List.drop_nil,List.take_nil,List.all_cons,List.all_nil,AV.ok,Bool.and_self,Bool.and_true,Bool.true_and,and_self,and_true,true_and,Nat.reduceLeDiff,Nat.reduceMul,Nat.reduceLT,Nat.reduceEqDiff,Nat.zero_add,Nat.add_zero,setCells,splice,pairsOk,pairsX,altW_none,altW_some,cfg_al,WI_nil,WI_cons,FP.apart,heapEq_refl,sameAt_refl,Bool.or_true,Bool.true_or,Bool.or_false,srcElems,elemsOf,mutDst,indDst,thwDst,evLenH,evMapUpd,evLookup,getMp,keyOk,resOk,strOf,roundK_norm,roundK_exit,roundK_ret,List.length_map,List.getElem?_map,Int.toNat_natCast,Int.reduceBNe,Int.reduceBEq,decide_true,decide_false,Bool.not_true,Bool.not_false,List.set,set_0,set_1,set_2,set_3,set_4,look_hit,look,lookD_hit,lookD_cons,lookD_nil,ins_hit,ins,upd_hit,upd,rem1_hit,rem1,dropT,dropSt_eq,initT,cfg_dd,cfg_bd,cfg_ra,actL_nil,actL_cons,act1,updT_hit,updT,frzB,mu137,List.contains_nil,List.contains_cons,Nat.reduceBEq,Bool.or_self,dlt_t,dlt_f,dle_t,dle_f,dgt_t,dgt_f,dge_t,dge_f,beq_t,beq_f,bne_t,bne_f,lt_T,le_T,nle_T,nle_F,↓wrap_up,↓wrap_down,↓wrap_pred,↓wrap_sub_nat,i64_in,i64_quo,rem_in,Int.reduceToNat]
  refine⟨fun h=>fzEq rfl ?_,fun h=>fzEq rfl ?_⟩
  ·rw[if_pos (by omega)]
  ·rw[if_neg (by omega)]
end Go.Ev
namespace Go.Ev
open Go.Proofs Go.RowKit Go.IntWalk
set_option maxRecDepth 100000
set_option maxHeartbeats 2000000
def lastOk (l:List (Int×Int)) (top:Int):Bool:=
 match l[l.length - 1]? with
 | some p=>decide (p.2≤top)
 | none=>true
def okIns (n:Nat) (caps:Int) (runes:Bool) (i:Ins):Bool:=
 (i.op == 1 || i.set.length == 0) && (i.op == 2 || i.y == 0) && (i.op == 2 || i.op == 3 || i.x == 0) && (i.op == 4 || i.op == 5 || i.n == 0) &&
 (i.op == 0 || (i.op == 1 && (refSpans i.set == 0 && lastOk i.set (if runes then 1114111 else 255))) ||
  (i.op == 2 && (decide (0≤i.x) && decide (i.x < n) && decide (0≤i.y) && decide (i.y < n))) || (i.op == 3 && (decide (0≤i.x) && decide (i.x < n))) ||
  (i.op == 4 && (decide (0≤i.n) && decide (i.n < 2 * caps))) || (i.op == 5 && (decide (0≤i.n) && decide (i.n≤5))))
theorem f68 (g:Prg) (i:Ins) (hc:0≤g.caps∧g.caps≤9) (hl:g.ins.length≤1000000) (hs:i.set.length≤1000000) (H:List MB) :
  call Tryz.prog pol1 57 [prgAV g,.agg [I i.op,I i.x,I i.y,I i.n,.sl false (i.set.map spanAV)]] H=some (.bool (okIns g.ins.length g.caps g.runes i),H):=by
 refine call_run Tryz.func57 rfl rfl rfl rfl rfl rfl (fun _=>rfl) (by simp[AV.plain,AV.plainL,plain_ints,plain_span,plain_ins,plain_prg]) (by simp[AV.plain,AV.plainL,plain_ints,plain_span,plain_ins,plain_prg]) ?_ H
 obtain⟨op,x,y,n,set⟩:=i
 simp only[]at hs
 by_cases h1:op=1
 ·subst h1
  rcases Nat.eq_zero_or_pos set.length with hz|hz
  ·obtain rfl:set=[]:=List.length_eq_zero_iff.1 hz
   have ht:=f119 [] (by simp)
   have e:refSpans []=0:=by decide
   rw[e,List.map_nil]at ht
   cases hr:g.runes
   all_goals
    simp +contextual (disch:=omega) only[Tryz.f57,dd57,ty0,ty3,ty4,ty23,ty25,ty30,ty60,ty71,ty84,↓reduceIte,eq_self,bindW_some,bindW_map,bindW_ite,bindW_iteN,W_seq,W_region,W_draw,W_cond,W_condK,W_ret,W_skip,W_exit,W_scope,W_label,W_block,blockK_norm,blockK_ret,blockK_exit,WO_nil,WO_cons,WO_guard,WD_nil,WD_cons,WD_guard,guardV,guardW_boolT,guardW_boolF,guardW_tup,fpL_some,fpL_none,footprint,footprint0,fineF,thenK_norm,thenK_ret,thenK_exit,put_some,put_none,ev_tmp,ev_con,ev_func,ofK_int,ofK_bool,ofK_str,ofK_nil,ofK_agg,ofC_int,ofC_bool,ofC_str,ofC_nil,ofC_nilp,one_int,one_bool,one_str,one_nil,one_nilp,evOp,evBuiltin,evCall,cfn,yldF,evLen,evAppend,getElem_16,getElem_4,List.length_cons,List.length_nil,List.reduceReplicate,Nat.reduceAdd,Nat.reduceSub,List.cons_append,List.nil_append,List.append_nil,if_false,if_true,Bool.false_eq_true,Bool.true_eq_false,reduceCtorEq,Option.map_some,Option.map_none,List.map_cons,List.map_nil,evBinOp,evBin,evUn,asB_bool,splitB_decide,splitB_true,splitB_false,splitB_beq,splitB_bne,splitB_not,endK_ret,endK_norm,List.getElem?_cons_zero,List.getElem?_cons_succ,evResults,evResult,packRes,retK_norm,retK_ret,cellsAt,mkVal,evFieldAddr,evField,evIndexAddr,evPart,evStore,evBuild,evBuildSlice,fillC,fillE,evSlice,evMakeSlice,evConvert,getRow,AV.cells,List.head?_cons,List.drop_zero,List.drop_succ_cons,List.take_zero,List.take_succ_cons,List.drop_nil,List.take_nil,List.all_cons,List.all_nil,AV.ok,Bool.and_self,Bool.and_true,Bool.true_and,and_self,and_true,true_and,Nat.reduceLeDiff,Nat.reduceMul,Nat.reduceLT,Nat.reduceEqDiff,Nat.zero_add,Nat.add_zero,setCells,splice,pairsOk,pairsX,altW_none,altW_some,cfg_al,WI_nil,WI_cons,FP.apart,heapEq_refl,sameAt_refl,Bool.or_true,Bool.true_or,Bool.or_false,srcElems,elemsOf,mutDst,indDst,thwDst,evLenH,evMapUpd,evLookup,getMp,keyOk,resOk,strOf,roundK_norm,roundK_exit,roundK_ret,List.length_map,List.getElem?_map,Int.toNat_natCast,Int.reduceBNe,Int.reduceBEq,decide_true,decide_false,Bool.not_true,Bool.not_false,List.set,set_0,set_1,set_2,set_3,set_4,look_hit,look,lookD_hit,lookD_cons,lookD_nil,ins_hit,ins,upd_hit,upd,rem1_hit,rem1,dropT,dropSt_eq,initT,cfg_dd,cfg_bd,cfg_ra,actL_nil,actL_cons,act1,updT_hit,updT,frzB,mu57,List.contains_nil,List.contains_cons,Nat.reduceBEq,Bool.or_self,dlt_t,dlt_f,dle_t,dle_f,dgt_t,dgt_f,dge_t,dge_f,beq_t,beq_f,bne_t,bne_f,lt_T,le_T,nle_T,nle_F,↓wrap_up,↓wrap_down,↓wrap_pred,↓wrap_sub_nat,i64_in,i64_quo,rem_in,Int.reduceToNat,prgAV,ht,hr]
    repeat' (first|intro _|apply And.intro|refine fzEq rfl (congrArg AV.bool ?_)|(unfold dOk;kernel_rfl))
    all_goals (try rw[Bool.eq_iff_iff];try simp_all [okIns,lastOk,-List.length_eq_zero_iff];try omega)
  ·obtain⟨p,hp⟩:∃ p,set[set.length - 1]?=some p:=⟨_,List.getElem?_eq_getElem (by omega)⟩
   have ht:=f119 set hs
   cases hr:g.runes
   all_goals
    simp +contextual (disch:=omega) only[Tryz.f57,dd57,ty0,ty3,ty4,ty23,ty25,ty30,ty60,ty71,ty84,↓reduceIte,eq_self,bindW_some,bindW_map,bindW_ite,bindW_iteN,W_seq,W_region,W_draw,W_cond,W_condK,W_ret,W_skip,W_exit,W_scope,W_label,W_block,blockK_norm,blockK_ret,blockK_exit,WO_nil,WO_cons,WO_guard,WD_nil,WD_cons,WD_guard,guardV,guardW_boolT,guardW_boolF,guardW_tup,fpL_some,fpL_none,footprint,footprint0,fineF,thenK_norm,thenK_ret,thenK_exit,put_some,put_none,ev_tmp,ev_con,ev_func,ofK_int,ofK_bool,ofK_str,ofK_nil,ofK_agg,ofC_int,ofC_bool,ofC_str,ofC_nil,ofC_nilp,one_int,one_bool,one_str,one_nil,one_nilp,evOp,evBuiltin,evCall,cfn,yldF,evLen,evAppend,getElem_16,getElem_4,List.length_cons,List.length_nil,List.reduceReplicate,Nat.reduceAdd,Nat.reduceSub,List.cons_append,List.nil_append,List.append_nil,if_false,if_true,Bool.false_eq_true,Bool.true_eq_false,reduceCtorEq,Option.map_some,Option.map_none,List.map_cons,List.map_nil,evBinOp,evBin,evUn,asB_bool,splitB_decide,splitB_true,splitB_false,splitB_beq,splitB_bne,splitB_not,endK_ret,endK_norm,List.getElem?_cons_zero,List.getElem?_cons_succ,evResults,evResult,packRes,retK_norm,retK_ret,cellsAt,mkVal,evFieldAddr,evField,evIndexAddr,evPart,evStore,evBuild,evBuildSlice,fillC,fillE,evSlice,evMakeSlice,evConvert,getRow,AV.cells,List.head?_cons,List.drop_zero,List.drop_succ_cons,List.take_zero,List.take_succ_cons,List.drop_nil,List.take_nil,List.all_cons,List.all_nil,AV.ok,Bool.and_self,Bool.and_true,Bool.true_and,and_self,and_true,true_and,Nat.reduceLeDiff,Nat.reduceMul,Nat.reduceLT,Nat.reduceEqDiff,Nat.zero_add,Nat.add_zero,setCells,splice,pairsOk,pairsX,altW_none,altW_some,cfg_al,WI_nil,WI_cons,FP.apart,heapEq_refl,sameAt_refl,Bool.or_true,Bool.true_or,Bool.or_false,srcElems,elemsOf,mutDst,indDst,thwDst,evLenH,evMapUpd,evLookup,getMp,keyOk,resOk,strOf,roundK_norm,roundK_exit,roundK_ret,List.length_map,List.getElem?_map,Int.toNat_natCast,Int.reduceBNe,Int.reduceBEq,decide_true,decide_false,Bool.not_true,Bool.not_false,List.set,set_0,set_1,set_2,set_3,set_4,look_hit,look,lookD_hit,lookD_cons,lookD_nil,ins_hit,ins,upd_hit,upd,rem1_hit,rem1,dropT,dropSt_eq,initT,cfg_dd,cfg_bd,cfg_ra,actL_nil,actL_cons,act1,updT_hit,updT,frzB,mu57,List.contains_nil,List.contains_cons,Nat.reduceBEq,Bool.or_self,dlt_t,dlt_f,dle_t,dle_f,dgt_t,dgt_f,dge_t,dge_f,beq_t,beq_f,bne_t,bne_f,lt_T,le_T,nle_T,nle_F,↓wrap_up,↓wrap_down,↓wrap_pred,↓wrap_sub_nat,i64_in,i64_quo,rem_in,Int.reduceToNat,prgAV,ht,hr,hp,spanAV]
    repeat' (first|intro _|apply And.intro|refine fzEq rfl (congrArg AV.bool ?_)|(unfold dOk;kernel_rfl))
    all_goals (try rw[Bool.eq_iff_iff];try simp_all [okIns,lastOk,-List.length_eq_zero_iff];try omega)
 by_cases h0:op=0
 ·subst h0
  simp +contextual (disch:=omega) only[Tryz.f57,dd57,ty0,ty3,ty4,ty23,ty25,ty30,ty60,ty71,ty84,↓reduceIte,eq_self,bindW_some,bindW_map,bindW_ite,bindW_iteN,W_seq,W_region,W_draw,W_cond,W_condK,W_ret,W_skip,W_exit,W_scope,W_label,W_block,blockK_norm,blockK_ret,blockK_exit,WO_nil,WO_cons,WO_guard,WD_nil,WD_cons,WD_guard,guardV,guardW_boolT,guardW_boolF,guardW_tup,fpL_some,fpL_none,footprint,footprint0,fineF,thenK_norm,thenK_ret,thenK_exit,put_some,put_none,ev_tmp,ev_con,ev_func,ofK_int,ofK_bool,ofK_str,ofK_nil,ofK_agg,ofC_int,ofC_bool,ofC_str,ofC_nil,ofC_nilp,one_int,one_bool,one_str,one_nil,one_nilp,evOp,evBuiltin,evCall,cfn,yldF,evLen,evAppend,getElem_16,getElem_4,List.length_cons,List.length_nil,List.reduceReplicate,Nat.reduceAdd,Nat.reduceSub,List.cons_append,List.nil_append,List.append_nil,if_false,if_true,Bool.false_eq_true,Bool.true_eq_false,reduceCtorEq,Option.map_some,Option.map_none,List.map_cons,List.map_nil,evBinOp,evBin,evUn,asB_bool,splitB_decide,splitB_true,splitB_false,splitB_beq,splitB_bne,splitB_not,endK_ret,endK_norm,List.getElem?_cons_zero,List.getElem?_cons_succ,evResults,evResult,packRes,retK_norm,retK_ret,cellsAt,mkVal,evFieldAddr,evField,evIndexAddr,evPart,evStore,evBuild,evBuildSlice,fillC,fillE,evSlice,evMakeSlice,evConvert,getRow,AV.cells,List.head?_cons,List.drop_zero,List.drop_succ_cons,List.take_zero,List.take_succ_cons,List.drop_nil,List.take_nil,List.all_cons,List.all_nil,AV.ok,Bool.and_self,Bool.and_true,Bool.true_and,and_self,and_true,true_and,Nat.reduceLeDiff,Nat.reduceMul,Nat.reduceLT,Nat.reduceEqDiff,Nat.zero_add,Nat.add_zero,setCells,splice,pairsOk,pairsX,altW_none,altW_some,cfg_al,WI_nil,WI_cons,FP.apart,heapEq_refl,sameAt_refl,Bool.or_true,Bool.true_or,Bool.or_false,srcElems,elemsOf,mutDst,indDst,thwDst,evLenH,evMapUpd,evLookup,getMp,keyOk,resOk,strOf,roundK_norm,roundK_exit,roundK_ret,List.length_map,List.getElem?_map,Int.toNat_natCast,Int.reduceBNe,Int.reduceBEq,decide_true,decide_false,Bool.not_true,Bool.not_false,List.set,set_0,set_1,set_2,set_3,set_4,look_hit,look,lookD_hit,lookD_cons,lookD_nil,ins_hit,ins,upd_hit,upd,rem1_hit,rem1,dropT,dropSt_eq,initT,cfg_dd,cfg_bd,cfg_ra,actL_nil,actL_cons,act1,updT_hit,updT,frzB,mu57,List.contains_nil,List.contains_cons,Nat.reduceBEq,Bool.or_self,dlt_t,dlt_f,dle_t,dle_f,dgt_t,dgt_f,dge_t,dge_f,beq_t,beq_f,bne_t,bne_f,lt_T,le_T,nle_T,nle_F,↓wrap_up,↓wrap_down,↓wrap_pred,↓wrap_sub_nat,i64_in,i64_quo,rem_in,Int.reduceToNat,prgAV]
  repeat' (first|intro _|apply And.intro|refine fzEq rfl (congrArg AV.bool ?_))
  all_goals (rw[Bool.eq_iff_iff];simp_all [okIns,-List.length_eq_zero_iff];try omega)
 by_cases h2:op=2
 ·subst h2
  simp +contextual (disch:=omega) only[Tryz.f57,dd57,ty0,ty3,ty4,ty23,ty25,ty30,ty60,ty71,ty84,↓reduceIte,eq_self,bindW_some,bindW_map,bindW_ite,bindW_iteN,W_seq,W_region,W_draw,W_cond,W_condK,W_ret,W_skip,W_exit,W_scope,W_label,W_block,blockK_norm,blockK_ret,blockK_exit,WO_nil,WO_cons,WO_guard,WD_nil,WD_cons,WD_guard,guardV,guardW_boolT,guardW_boolF,guardW_tup,fpL_some,fpL_none,footprint,footprint0,fineF,thenK_norm,thenK_ret,thenK_exit,put_some,put_none,ev_tmp,ev_con,ev_func,ofK_int,ofK_bool,ofK_str,ofK_nil,ofK_agg,ofC_int,ofC_bool,ofC_str,ofC_nil,ofC_nilp,one_int,one_bool,one_str,one_nil,one_nilp,evOp,evBuiltin,evCall,cfn,yldF,evLen,evAppend,getElem_16,getElem_4,List.length_cons,List.length_nil,List.reduceReplicate,Nat.reduceAdd,Nat.reduceSub,List.cons_append,List.nil_append,List.append_nil,if_false,if_true,Bool.false_eq_true,Bool.true_eq_false,reduceCtorEq,Option.map_some,Option.map_none,List.map_cons,List.map_nil,evBinOp,evBin,evUn,asB_bool,splitB_decide,splitB_true,splitB_false,splitB_beq,splitB_bne,splitB_not,endK_ret,endK_norm,List.getElem?_cons_zero,List.getElem?_cons_succ,evResults,evResult,packRes,retK_norm,retK_ret,cellsAt,mkVal,evFieldAddr,evField,evIndexAddr,evPart,evStore,evBuild,evBuildSlice,fillC,fillE,evSlice,evMakeSlice,evConvert,getRow,AV.cells,List.head?_cons,List.drop_zero,List.drop_succ_cons,List.take_zero,List.take_succ_cons,List.drop_nil,List.take_nil,List.all_cons,List.all_nil,AV.ok,Bool.and_self,Bool.and_true,Bool.true_and,and_self,and_true,true_and,Nat.reduceLeDiff,Nat.reduceMul,Nat.reduceLT,Nat.reduceEqDiff,Nat.zero_add,Nat.add_zero,setCells,splice,pairsOk,pairsX,altW_none,altW_some,cfg_al,WI_nil,WI_cons,FP.apart,heapEq_refl,sameAt_refl,Bool.or_true,Bool.true_or,Bool.or_false,srcElems,elemsOf,mutDst,indDst,thwDst,evLenH,evMapUpd,evLookup,getMp,keyOk,resOk,strOf,roundK_norm,roundK_exit,roundK_ret,List.length_map,List.getElem?_map,Int.toNat_natCast,Int.reduceBNe,Int.reduceBEq,decide_true,decide_false,Bool.not_true,Bool.not_false,List.set,set_0,set_1,set_2,set_3,set_4,look_hit,look,lookD_hit,lookD_cons,lookD_nil,ins_hit,ins,upd_hit,upd,rem1_hit,rem1,dropT,dropSt_eq,initT,cfg_dd,cfg_bd,cfg_ra,actL_nil,actL_cons,act1,updT_hit,updT,frzB,mu57,List.contains_nil,List.contains_cons,Nat.reduceBEq,Bool.or_self,dlt_t,dlt_f,dle_t,dle_f,dgt_t,dgt_f,dge_t,dge_f,beq_t,beq_f,bne_t,bne_f,lt_T,le_T,nle_T,nle_F,↓wrap_up,↓wrap_down,↓wrap_pred,↓wrap_sub_nat,i64_in,i64_quo,rem_in,Int.reduceToNat,prgAV]
  repeat' (first|intro _|apply And.intro|refine fzEq rfl (congrArg AV.bool ?_))
  all_goals (rw[Bool.eq_iff_iff];simp_all [okIns,-List.length_eq_zero_iff];try omega)
 by_cases h3:op=3
 ·subst h3
  simp +contextual (disch:=omega) only[Tryz.f57,dd57,ty0,ty3,ty4,ty23,ty25,ty30,ty60,ty71,ty84,↓reduceIte,eq_self,bindW_some,bindW_map,bindW_ite,bindW_iteN,W_seq,W_region,W_draw,W_cond,W_condK,W_ret,W_skip,W_exit,W_scope,W_label,W_block,blockK_norm,blockK_ret,blockK_exit,WO_nil,WO_cons,WO_guard,WD_nil,WD_cons,WD_guard,guardV,guardW_boolT,guardW_boolF,guardW_tup,fpL_some,fpL_none,footprint,footprint0,fineF,thenK_norm,thenK_ret,thenK_exit,put_some,put_none,ev_tmp,ev_con,ev_func,ofK_int,ofK_bool,ofK_str,ofK_nil,ofK_agg,ofC_int,ofC_bool,ofC_str,ofC_nil,ofC_nilp,one_int,one_bool,one_str,one_nil,one_nilp,evOp,evBuiltin,evCall,cfn,yldF,evLen,evAppend,getElem_16,getElem_4,List.length_cons,List.length_nil,List.reduceReplicate,Nat.reduceAdd,Nat.reduceSub,List.cons_append,List.nil_append,List.append_nil,if_false,if_true,Bool.false_eq_true,Bool.true_eq_false,reduceCtorEq,Option.map_some,Option.map_none,List.map_cons,List.map_nil,evBinOp,evBin,evUn,asB_bool,splitB_decide,splitB_true,splitB_false,splitB_beq,splitB_bne,splitB_not,endK_ret,endK_norm,List.getElem?_cons_zero,List.getElem?_cons_succ,evResults,evResult,packRes,retK_norm,retK_ret,cellsAt,mkVal,evFieldAddr,evField,evIndexAddr,evPart,evStore,evBuild,evBuildSlice,fillC,fillE,evSlice,evMakeSlice,evConvert,getRow,AV.cells,List.head?_cons,List.drop_zero,List.drop_succ_cons,List.take_zero,List.take_succ_cons,List.drop_nil,List.take_nil,List.all_cons,List.all_nil,AV.ok,Bool.and_self,Bool.and_true,Bool.true_and,and_self,and_true,true_and,Nat.reduceLeDiff,Nat.reduceMul,Nat.reduceLT,Nat.reduceEqDiff,Nat.zero_add,Nat.add_zero,setCells,splice,pairsOk,pairsX,altW_none,altW_some,cfg_al,WI_nil,WI_cons,FP.apart,heapEq_refl,sameAt_refl,Bool.or_true,Bool.true_or,Bool.or_false,srcElems,elemsOf,mutDst,indDst,thwDst,evLenH,evMapUpd,evLookup,getMp,keyOk,resOk,strOf,roundK_norm,roundK_exit,roundK_ret,List.length_map,List.getElem?_map,Int.toNat_natCast,Int.reduceBNe,Int.reduceBEq,decide_true,decide_false,Bool.not_true,Bool.not_false,List.set,set_0,set_1,set_2,set_3,set_4,look_hit,look,lookD_hit,lookD_cons,lookD_nil,ins_hit,ins,upd_hit,upd,rem1_hit,rem1,dropT,dropSt_eq,initT,cfg_dd,cfg_bd,cfg_ra,actL_nil,actL_cons,act1,updT_hit,updT,frzB,mu57,List.contains_nil,List.contains_cons,Nat.reduceBEq,Bool.or_self,dlt_t,dlt_f,dle_t,dle_f,dgt_t,dgt_f,dge_t,dge_f,beq_t,beq_f,bne_t,bne_f,lt_T,le_T,nle_T,nle_F,↓wrap_up,↓wrap_down,↓wrap_pred,↓wrap_sub_nat,i64_in,i64_quo,rem_in,Int.reduceToNat,prgAV]
  repeat' (first|intro _|apply And.intro|refine fzEq rfl (congrArg AV.bool ?_))
  all_goals (rw[Bool.eq_iff_iff];simp_all [okIns,-List.length_eq_zero_iff];try omega)
 by_cases h4:op=4
 ·subst h4
  simp +contextual (disch:=omega) only[Tryz.f57,dd57,ty0,ty3,ty4,ty23,ty25,ty30,ty60,ty71,ty84,↓reduceIte,eq_self,bindW_some,bindW_map,bindW_ite,bindW_iteN,W_seq,W_region,W_draw,W_cond,W_condK,W_ret,W_skip,W_exit,W_scope,W_label,W_block,blockK_norm,blockK_ret,blockK_exit,WO_nil,WO_cons,WO_guard,WD_nil,WD_cons,WD_guard,guardV,guardW_boolT,guardW_boolF,guardW_tup,fpL_some,fpL_none,footprint,footprint0,fineF,thenK_norm,thenK_ret,thenK_exit,put_some,put_none,ev_tmp,ev_con,ev_func,ofK_int,ofK_bool,ofK_str,ofK_nil,ofK_agg,ofC_int,ofC_bool,ofC_str,ofC_nil,ofC_nilp,one_int,one_bool,one_str,one_nil,one_nilp,evOp,evBuiltin,evCall,cfn,yldF,evLen,evAppend,getElem_16,getElem_4,List.length_cons,List.length_nil,List.reduceReplicate,Nat.reduceAdd,Nat.reduceSub,List.cons_append,List.nil_append,List.append_nil,if_false,if_true,Bool.false_eq_true,Bool.true_eq_false,reduceCtorEq,Option.map_some,Option.map_none,List.map_cons,List.map_nil,evBinOp,evBin,evUn,asB_bool,splitB_decide,splitB_true,splitB_false,splitB_beq,splitB_bne,splitB_not,endK_ret,endK_norm,List.getElem?_cons_zero,List.getElem?_cons_succ,evResults,evResult,packRes,retK_norm,retK_ret,cellsAt,mkVal,evFieldAddr,evField,evIndexAddr,evPart,evStore,evBuild,evBuildSlice,fillC,fillE,evSlice,evMakeSlice,evConvert,getRow,AV.cells,List.head?_cons,List.drop_zero,List.drop_succ_cons,List.take_zero,List.take_succ_cons,List.drop_nil,List.take_nil,List.all_cons,List.all_nil,AV.ok,Bool.and_self,Bool.and_true,Bool.true_and,and_self,and_true,true_and,Nat.reduceLeDiff,Nat.reduceMul,Nat.reduceLT,Nat.reduceEqDiff,Nat.zero_add,Nat.add_zero,setCells,splice,pairsOk,pairsX,altW_none,altW_some,cfg_al,WI_nil,WI_cons,FP.apart,heapEq_refl,sameAt_refl,Bool.or_true,Bool.true_or,Bool.or_false,srcElems,elemsOf,mutDst,indDst,thwDst,evLenH,evMapUpd,evLookup,getMp,keyOk,resOk,strOf,roundK_norm,roundK_exit,roundK_ret,List.length_map,List.getElem?_map,Int.toNat_natCast,Int.reduceBNe,Int.reduceBEq,decide_true,decide_false,Bool.not_true,Bool.not_false,List.set,set_0,set_1,set_2,set_3,set_4,look_hit,look,lookD_hit,lookD_cons,lookD_nil,ins_hit,ins,upd_hit,upd,rem1_hit,rem1,dropT,dropSt_eq,initT,cfg_dd,cfg_bd,cfg_ra,actL_nil,actL_cons,act1,updT_hit,updT,frzB,mu57,List.contains_nil,List.contains_cons,Nat.reduceBEq,Bool.or_self,dlt_t,dlt_f,dle_t,dle_f,dgt_t,dgt_f,dge_t,dge_f,beq_t,beq_f,bne_t,bne_f,lt_T,le_T,nle_T,nle_F,↓wrap_up,↓wrap_down,↓wrap_pred,↓wrap_sub_nat,i64_in,i64_quo,rem_in,Int.reduceToNat,prgAV]
  repeat' (first|intro _|apply And.intro|refine fzEq rfl (congrArg AV.bool ?_))
  all_goals (rw[Bool.eq_iff_iff];simp_all [okIns,-List.length_eq_zero_iff];try omega)
 by_cases h5:op=5
 ·subst h5
  simp +contextual (disch:=omega) only[Tryz.f57,dd57,ty0,ty3,ty4,ty23,ty25,ty30,ty60,ty71,ty84,↓reduceIte,eq_self,bindW_some,bindW_map,bindW_ite,bindW_iteN,W_seq,W_region,W_draw,W_cond,W_condK,W_ret,W_skip,W_exit,W_scope,W_label,W_block,blockK_norm,blockK_ret,blockK_exit,WO_nil,WO_cons,WO_guard,WD_nil,WD_cons,WD_guard,guardV,guardW_boolT,guardW_boolF,guardW_tup,fpL_some,fpL_none,footprint,footprint0,fineF,thenK_norm,thenK_ret,thenK_exit,put_some,put_none,ev_tmp,ev_con,ev_func,ofK_int,ofK_bool,ofK_str,ofK_nil,ofK_agg,ofC_int,ofC_bool,ofC_str,ofC_nil,ofC_nilp,one_int,one_bool,one_str,one_nil,one_nilp,evOp,evBuiltin,evCall,cfn,yldF,evLen,evAppend,getElem_16,getElem_4,List.length_cons,List.length_nil,List.reduceReplicate,Nat.reduceAdd,Nat.reduceSub,List.cons_append,List.nil_append,List.append_nil,if_false,if_true,Bool.false_eq_true,Bool.true_eq_false,reduceCtorEq,Option.map_some,Option.map_none,List.map_cons,List.map_nil,evBinOp,evBin,evUn,asB_bool,splitB_decide,splitB_true,splitB_false,splitB_beq,splitB_bne,splitB_not,endK_ret,endK_norm,List.getElem?_cons_zero,List.getElem?_cons_succ,evResults,evResult,packRes,retK_norm,retK_ret,cellsAt,mkVal,evFieldAddr,evField,evIndexAddr,evPart,evStore,evBuild,evBuildSlice,fillC,fillE,evSlice,evMakeSlice,evConvert,getRow,AV.cells,List.head?_cons,List.drop_zero,List.drop_succ_cons,List.take_zero,List.take_succ_cons,List.drop_nil,List.take_nil,List.all_cons,List.all_nil,AV.ok,Bool.and_self,Bool.and_true,Bool.true_and,and_self,and_true,true_and,Nat.reduceLeDiff,Nat.reduceMul,Nat.reduceLT,Nat.reduceEqDiff,Nat.zero_add,Nat.add_zero,setCells,splice,pairsOk,pairsX,altW_none,altW_some,cfg_al,WI_nil,WI_cons,FP.apart,heapEq_refl,sameAt_refl,Bool.or_true,Bool.true_or,Bool.or_false,srcElems,elemsOf,mutDst,indDst,thwDst,evLenH,evMapUpd,evLookup,getMp,keyOk,resOk,strOf,roundK_norm,roundK_exit,roundK_ret,List.length_map,List.getElem?_map,Int.toNat_natCast,Int.reduceBNe,Int.reduceBEq,decide_true,decide_false,Bool.not_true,Bool.not_false,List.set,set_0,set_1,set_2,set_3,set_4,look_hit,look,lookD_hit,lookD_cons,lookD_nil,ins_hit,ins,upd_hit,upd,rem1_hit,rem1,dropT,dropSt_eq,initT,cfg_dd,cfg_bd,cfg_ra,actL_nil,actL_cons,act1,updT_hit,updT,frzB,mu57,List.contains_nil,List.contains_cons,Nat.reduceBEq,Bool.or_self,dlt_t,dlt_f,dle_t,dle_f,dgt_t,dgt_f,dge_t,dge_f,beq_t,beq_f,bne_t,bne_f,lt_T,le_T,nle_T,nle_F,↓wrap_up,↓wrap_down,↓wrap_pred,↓wrap_sub_nat,i64_in,i64_quo,rem_in,Int.reduceToNat,prgAV]
  repeat' (first|intro _|apply And.intro|refine fzEq rfl (congrArg AV.bool ?_))
  all_goals (rw[Bool.eq_iff_iff];simp_all [okIns,-List.length_eq_zero_iff];try omega)
 simp +contextual (disch:=omega) only[Tryz.f57,dd57,ty0,ty3,ty4,ty23,ty25,ty30,ty60,ty71,ty84,↓reduceIte,eq_self,bindW_some,bindW_map,bindW_ite,bindW_iteN,W_seq,W_region,W_draw,W_cond,W_condK,W_ret,W_skip,W_exit,W_scope,W_label,W_block,blockK_norm,blockK_ret,blockK_exit,WO_nil,WO_cons,WO_guard,WD_nil,WD_cons,WD_guard,guardV,guardW_boolT,guardW_boolF,guardW_tup,fpL_some,fpL_none,footprint,footprint0,fineF,thenK_norm,thenK_ret,thenK_exit,put_some,put_none,ev_tmp,ev_con,ev_func,ofK_int,ofK_bool,ofK_str,ofK_nil,ofK_agg,ofC_int,ofC_bool,ofC_str,ofC_nil,ofC_nilp,one_int,one_bool,one_str,one_nil,one_nilp,evOp,evBuiltin,evCall,cfn,yldF,evLen,evAppend,getElem_16,getElem_4,List.length_cons,List.length_nil,List.reduceReplicate,Nat.reduceAdd,Nat.reduceSub,List.cons_append,List.nil_append,List.append_nil,if_false,if_true,Bool.false_eq_true,Bool.true_eq_false,reduceCtorEq,Option.map_some,Option.map_none,List.map_cons,List.map_nil,evBinOp,evBin,evUn,asB_bool,splitB_decide,splitB_true,splitB_false,splitB_beq,splitB_bne,splitB_not,endK_ret,endK_norm,List.getElem?_cons_zero,List.getElem?_cons_succ,evResults,evResult,packRes,retK_norm,retK_ret,cellsAt,mkVal,evFieldAddr,evField,evIndexAddr,evPart,evStore,evBuild,evBuildSlice,fillC,fillE,evSlice,evMakeSlice,evConvert,getRow,AV.cells,List.head?_cons,List.drop_zero,List.drop_succ_cons,List.take_zero,List.take_succ_cons,List.drop_nil,List.take_nil,List.all_cons,List.all_nil,AV.ok,Bool.and_self,Bool.and_true,Bool.true_and,and_self,and_true,true_and,Nat.reduceLeDiff,Nat.reduceMul,Nat.reduceLT,Nat.reduceEqDiff,Nat.zero_add,Nat.add_zero,setCells,splice,pairsOk,pairsX,altW_none,altW_some,cfg_al,WI_nil,WI_cons,FP.apart,heapEq_refl,sameAt_refl,Bool.or_true,Bool.true_or,Bool.or_false,srcElems,elemsOf,mutDst,indDst,thwDst,evLenH,evMapUpd,evLookup,getMp,keyOk,resOk,strOf,roundK_norm,roundK_exit,roundK_ret,List.length_map,List.getElem?_map,Int.toNat_natCast,Int.reduceBNe,Int.reduceBEq,decide_true,decide_false,Bool.not_true,Bool.not_false,List.set,set_0,set_1,set_2,set_3,set_4,look_hit,look,lookD_hit,lookD_cons,lookD_nil,ins_hit,ins,upd_hit,upd,rem1_hit,rem1,dropT,dropSt_eq,initT,cfg_dd,cfg_bd,cfg_ra,actL_nil,actL_cons,act1,updT_hit,updT,frzB,mu57,List.contains_nil,List.contains_cons,Nat.reduceBEq,Bool.or_self,dlt_t,dlt_f,dle_t,dle_f,dgt_t,dgt_f,dge_t,dge_f,beq_t,beq_f,bne_t,bne_f,lt_T,le_T,nle_T,nle_F,↓wrap_up,↓wrap_down,↓wrap_pred,↓wrap_sub_nat,i64_in,i64_quo,rem_in,Int.reduceToNat,prgAV]
 repeat' (first|intro _|apply And.intro|refine fzEq rfl (congrArg AV.bool ?_))
 all_goals (rw[Bool.eq_iff_iff];simp_all [okIns,-List.length_eq_zero_iff];try omega)
end Go.Ev
namespace Go.Ev
attribute [local go_sem] evAppend evBin evBuild splice List.length_append List.map_append
section
open Go.Proofs Go.RowKit Go.IntWalk
set_option maxRecDepth 100000
set_option maxHeartbeats 4000000
def PrgB (g:Prg):Prop:=g.ins.length≤1000000∧∀ i∈g.ins,i.set.length≤1000000
def lastGood (g:Prg):Bool:=match g.ins[g.ins.length - 1]? with
 | some i=>i.op == 0 || i.op == 2 || i.op == 3
 | none=>false
def validG (g:Prg):Int:=
 if 8192 < g.ins.length then 4
 else if g.ins.length=0∨g.caps < 0∨9 < g.caps then 1
 else if g.ins.all (okIns g.ins.length g.caps g.runes) && lastGood g then 0 else 1
theorem validG_bad {g:Prg} (h1:¬ 8192 < g.ins.length) {k:Nat} {i:Ins} (hk:g.ins[k]?=some i) (hb:okIns g.ins.length g.caps g.runes i=false):validG g=1:=by
 have:(g.ins.all (okIns g.ins.length g.caps g.runes))=false:=by
  rw[List.all_eq_false]
  exact⟨i,List.mem_of_getElem? hk,by simp[hb]⟩
 simp[validG,h1,this]
theorem validG_last {g:Prg} (h1:¬ 8192 < g.ins.length) (h2:¬(g.ins.length=0∨g.caps < 0∨9 < g.caps)) (ha:∀ k i,k < g.ins.length→g.ins[k]?=some i→okIns g.ins.length g.caps g.runes i=true) :
  validG g=if lastGood g then 0 else 1:=by
 have:(g.ins.all (okIns g.ins.length g.caps g.runes))=true:=by
  rw[List.all_eq_true]
  intro i hi
  obtain⟨k,hk,e⟩:=List.getElem_of_mem hi
  exact ha k i hk (by rw[← e];exact List.getElem?_eq_getElem hk)
 unfold validG
 rw[if_neg h1,if_neg h2,this,Bool.true_and]
theorem okIns_op {n:Nat} {c:Int} {r:Bool} {i:Ins} (h:okIns n c r i=true):i.op=0∨i.op=1∨i.op=2∨i.op=3∨i.op=4∨i.op=5:=by
 simp only[okIns,Bool.and_eq_true,Bool.or_eq_true,beq_iff_eq]at h
 omega
theorem f29 (g:Prg) (hb:PrgB g) (H:List MB):call Tryz.prog pol1 26 [.agg [.sl false (g.ins.map insAV),I g.caps,.bool g.runes]] H=some (I (validG g),H):=by
 obtain⟨hl,hs⟩:=hb
 refine call_run Tryz.func26 rfl rfl rfl rfl rfl rfl (fun _=>rfl) (by simp[AV.plain,AV.plainL,plain_ints,plain_span,plain_ins,plain_prg]) (by simp[AV.plain,AV.plainL,plain_ints,plain_span,plain_ins,plain_prg]) ?_ H
 by_cases h1:8192 < g.ins.length
 ·have e:validG g=4:=by simp[validG,h1]
  rw[e]
  simp +contextual (disch:=omega) only[Tryz.f26,dd26,go_sem,simprocAttr,mu26,↓wrap_up,↓wrap_down,↓wrap_pred,↓wrap_sub_nat]
  exact fzEq rfl rfl
 by_cases h2:g.ins.length=0∨g.caps < 0∨9 < g.caps
 ·have e:validG g=1:=by unfold validG;rw[if_neg h1,if_pos h2]
  rw[e]
  simp +contextual (disch:=omega) only[Tryz.f26,dd26,go_sem,simprocAttr,mu26,↓wrap_up,↓wrap_down,↓wrap_pred,↓wrap_sub_nat]
  repeat' (first|intro _|apply And.intro|exact fzEq rfl rfl)
  all_goals (exfalso;omega)
 simp +contextual (disch:=omega) only[Tryz.f26,dd26,go_sem,simprocAttr,mu26,↓wrap_up,↓wrap_down,↓wrap_pred,↓wrap_sub_nat]
 refine W_count (M:=(mskOf (pol1.mask 26) (pol1.gc 26) (pol1.acts 26) 0 6)) rfl g.ins.length (fun i=>(⟨55,[(3,I i),(1,.rf 0 1 0 0)],[.row 3 [prgAV g] 0]⟩:St))
  (fun i=>∀ k p,k < i→g.ins[k]?=some p→okIns g.ins.length g.caps g.runes p=true) ?_ ?_ (fun k p h=>by omega) _ (by first|rfl|(refine prep_cut rfl (by rfl) (by rfl) (by rfl) ?_ ?_<;>simp[AV.underL,AV.under,MB.under,underL_plain,under_plain,plain_ints,plain_span,plain_ins,plain_prg,-List.map_take]))
 ·intro i hi hg
  obtain⟨p,hp⟩:∃ p,g.ins[i]?=some p:=⟨_,List.getElem?_eq_getElem hi⟩
  have hsp:=hs p (List.mem_of_getElem? hp)
  have hf:=f68 g p (by omega) hl hsp
  cases hok:okIns g.ins.length g.caps g.runes p
  ·rw[hok]at hf
   simp +contextual (disch:=omega) only[Tryz.f26,dd26,go_sem,simprocAttr,mu26,↓wrap_up,↓wrap_down,↓wrap_pred,↓wrap_sub_nat,hp,hf]
   refine⟨by unfold dOk;kernel_rfl,fzEq rfl ?_⟩
   rw[validG_bad h1 hp hok]
  ·rw[hok]at hf
   simp +contextual (disch:=omega) only[Tryz.f26,dd26,go_sem,simprocAttr,mu26,↓wrap_up,↓wrap_down,↓wrap_pred,↓wrap_sub_nat,hp,hf]
   refine⟨by unfold dOk;kernel_rfl,fun k q hk hq=>?_,(by first|rfl|(refine prep_cut rfl (by rfl) (by rfl) (by rfl) ?_ ?_<;>simp[AV.underL,AV.under,MB.under,underL_plain,under_plain,plain_ints,plain_span,plain_ins,plain_prg,-List.map_take]))⟩
   rcases Nat.lt_or_ge k i with h|h
   ·exact hg k q h hq
   ·obtain rfl:k=i:=by omega
    rw[hp]at hq
    obtain rfl:=Option.some.inj hq
    exact hok
 ·intro hg
  rw[validG_last h1 h2 (fun k p hk hp=>hg k p hk hp)]
  obtain⟨p,hp⟩:∃ p,g.ins[g.ins.length - 1]?=some p:=⟨_,List.getElem?_eq_getElem (by omega)⟩
  have hop:=okIns_op (hg _ p (by omega) hp)
  have e:lastGood g=(p.op == 0 || p.op == 2 || p.op == 3):=by simp[lastGood,hp]
  rw[e]
  simp +contextual (disch:=omega) only[Tryz.f26,dd26,go_sem,simprocAttr,mu26,↓wrap_up,↓wrap_down,↓wrap_pred,↓wrap_sub_nat,hp]
  repeat' (first|intro _|apply And.intro|refine fzEq rfl ?_)
  all_goals (congr 1<;>simp<;>omega)
end
section
open Go.Proofs Go.RowKit Go.IntWalk
set_option maxRecDepth 100000
set_option maxHeartbeats 4000000
theorem f120 (g:Prg) (n:Int) (b:MB) (hl:g.ins.length≤1000000) :
  call Tryz.prog pol1 136 [.int .i64 n,.rf 0 1 0 0] [.row 3 [.agg [.sl false (g.ins.map insAV),I g.caps,.bool g.runes]] 0,b] =
   some (.bool (decide (0≤n∧n < g.ins.length)),[.row 3 [.agg [.sl false (g.ins.map insAV),I g.caps,.bool g.runes]] 0,b]):=by
 refine call_run2 Tryz.func136 rfl rfl rfl rfl (by rfl) ?_
 by_cases h:0≤n
 ·by_cases h2:n < g.ins.length
  all_goals
   simp +contextual (disch:=omega) only[Tryz.f136,dd136,go_sem,simprocAttr,mu136,↓wrap_up,↓wrap_down,↓wrap_pred,↓wrap_sub_nat]
   refine(retPol_keep rfl rfl rfl ?_ rfl).trans ?_
   ·simp[keptOk,MB.beq_refl]
   ·simp[h,h2]
 ·simp +contextual (disch:=omega) only[Tryz.f136,dd136,go_sem,simprocAttr,mu136,↓wrap_up,↓wrap_down,↓wrap_pred,↓wrap_sub_nat]
  refine(retPol_keep rfl rfl rfl ?_ rfl).trans ?_
  ·simp[keptOk,MB.beq_refl]
  ·simp[h]
theorem refSpans_last {l:List (Int×Int)} (h:refSpans l=0) {p:Int×Int} (hp:l[l.length - 1]?=some p):p.2≤1114111:=by
 have hl:l.length - 1 < l.length:=(List.getElem?_eq_some_iff.1 hp).1
 cases hb:badAt l (l.length - 1) with
 | true=>rw[refSpans_bad hl hb]at h;cases h
 | false=>
   simp only[badAt,hp,Bool.or_eq_false_iff,Bool.not_eq_false',decide_eq_true_eq]at hb
   exact hb.1.2.2
theorem f69 (g:Prg) (i:Ins) (hc:0≤g.caps∧g.caps≤9) (hl:g.ins.length≤1000000) (hs:i.set.length≤1000000) (H:List MB) :
  call Tryz.prog pol1 103 [.agg [.sl false (g.ins.map insAV),I g.caps,.bool g.runes],.pt [I i.op,I i.x,I i.y,I i.n,.sl false (i.set.map spanAV)]] H=some (.bool (okIns g.ins.length g.caps g.runes i),H):=by
 refine call_run Tryz.func103 rfl rfl rfl rfl rfl rfl (fun _=>rfl) (by simp[AV.plain,AV.plainL,plain_ints,plain_span,plain_ins,plain_prg]) (by simp[AV.plain,AV.plainL,plain_ints,plain_span,plain_ins,plain_prg]) ?_ H
 obtain⟨op,x,y,n,set⟩:=i
 simp only[]at hs
 by_cases h1:op=1
 ·subst h1
  rcases Nat.eq_zero_or_pos set.length with hz|hz
  ·obtain rfl:set=[]:=List.length_eq_zero_iff.1 hz
   have ht:=f121 [] (by simp)
   have e:refSpans []=0:=by decide
   rw[e,List.map_nil]at ht
   cases hr:g.runes
   all_goals
    simp +contextual (disch:=omega) only[Tryz.f103,dd103,go_sem,simprocAttr,mu103,↓wrap_up,↓wrap_down,↓wrap_pred,↓wrap_sub_nat,prgAV,ht,hr]
    repeat' (first|intro _|apply And.intro|refine fzEq rfl (congrArg AV.bool ?_)|(unfold dOk;kernel_rfl)|(show (_ && _)=true;kernel_rfl)|(show (_ || _)=true;kernel_rfl))
    all_goals (try rw[Bool.eq_iff_iff];try simp_all [okIns,lastOk];try omega)
  ·obtain⟨p,hp⟩:∃ p,set[set.length - 1]?=some p:=⟨_,List.getElem?_eq_getElem (by omega)⟩
   have ht:=f121 set hs
   have hq:refSpans set=0→p.2≤1114111:=fun h=>refSpans_last h hp
   cases hr:g.runes
   all_goals
    simp +contextual (disch:=omega) only[Tryz.f103,dd103,go_sem,simprocAttr,mu103,↓wrap_up,↓wrap_down,↓wrap_pred,↓wrap_sub_nat,prgAV,ht,hr,hp,spanAV]
    repeat' (first|intro _|apply And.intro|refine fzEq rfl (congrArg AV.bool ?_)|(unfold dOk;kernel_rfl)|(show (_ && _)=true;kernel_rfl)|(show (_ || _)=true;kernel_rfl))
    all_goals (try rw[Bool.eq_iff_iff];try simp_all [okIns,lastOk];try omega)
 by_cases h0:op=0
 ·subst h0
  simp +contextual (disch:=omega) only[Tryz.f103,dd103,go_sem,simprocAttr,mu103,↓wrap_up,↓wrap_down,↓wrap_pred,↓wrap_sub_nat,prgAV]
  repeat' (first|intro _|apply And.intro|refine fzEq rfl (congrArg AV.bool ?_)|(unfold dOk;kernel_rfl)|(show (_ && _)=true;kernel_rfl)|(show (_ || _)=true;kernel_rfl))
  all_goals (try rw[Bool.eq_iff_iff];try simp_all [okIns,-List.length_eq_zero_iff];try omega)
 by_cases h2:op=2
 ·subst h2
  simp +contextual (disch:=omega) only[Tryz.f103,dd103,go_sem,simprocAttr,mu103,↓wrap_up,↓wrap_down,↓wrap_pred,↓wrap_sub_nat,prgAV,f120,hl]
  repeat' (first|intro _|apply And.intro|refine fzEq rfl (congrArg AV.bool ?_)|(unfold dOk;kernel_rfl)|(show (_ && _)=true;kernel_rfl)|(show (_ || _)=true;kernel_rfl))
  all_goals (try rw[Bool.eq_iff_iff];try simp_all [okIns,-List.length_eq_zero_iff];try omega)
 by_cases h3:op=3
 ·subst h3
  simp +contextual (disch:=omega) only[Tryz.f103,dd103,go_sem,simprocAttr,mu103,↓wrap_up,↓wrap_down,↓wrap_pred,↓wrap_sub_nat,prgAV,f120,hl]
  repeat' (first|intro _|apply And.intro|refine fzEq rfl (congrArg AV.bool ?_)|(unfold dOk;kernel_rfl)|(show (_ && _)=true;kernel_rfl)|(show (_ || _)=true;kernel_rfl))
  all_goals (try rw[Bool.eq_iff_iff];try simp_all [okIns,-List.length_eq_zero_iff];try omega)
 by_cases h4:op=4
 ·subst h4
  simp +contextual (disch:=omega) only[Tryz.f103,dd103,go_sem,simprocAttr,mu103,↓wrap_up,↓wrap_down,↓wrap_pred,↓wrap_sub_nat,prgAV]
  repeat' (first|intro _|apply And.intro|refine fzEq rfl (congrArg AV.bool ?_)|(unfold dOk;kernel_rfl)|(show (_ && _)=true;kernel_rfl)|(show (_ || _)=true;kernel_rfl))
  all_goals (try rw[Bool.eq_iff_iff];try simp_all [okIns,-List.length_eq_zero_iff];try omega)
 by_cases h5:op=5
 ·subst h5
  simp +contextual (disch:=omega) only[Tryz.f103,dd103,go_sem,simprocAttr,mu103,↓wrap_up,↓wrap_down,↓wrap_pred,↓wrap_sub_nat,prgAV]
  repeat' (first|intro _|apply And.intro|refine fzEq rfl (congrArg AV.bool ?_)|(unfold dOk;kernel_rfl)|(show (_ && _)=true;kernel_rfl)|(show (_ || _)=true;kernel_rfl))
  all_goals (try rw[Bool.eq_iff_iff];try simp_all [okIns,-List.length_eq_zero_iff];try omega)
 simp +contextual (disch:=omega) only[Tryz.f103,dd103,go_sem,simprocAttr,mu103,↓wrap_up,↓wrap_down,↓wrap_pred,↓wrap_sub_nat,prgAV]
 repeat' (first|intro _|apply And.intro|refine fzEq rfl (congrArg AV.bool ?_)|(unfold dOk;kernel_rfl)|(show (_ && _)=true;kernel_rfl)|(show (_ || _)=true;kernel_rfl))
 all_goals (try rw[Bool.eq_iff_iff];try simp_all [okIns,-List.length_eq_zero_iff];try omega)
end
section
attribute [local go_sem] tySzE List.head?_drop Nat.mul_one sameAt_zero sameAt_two sameAt_three sameAt_four sameAt_five room_ok
open Go.Proofs Go.RowKit Go.IntWalk
set_option maxRecDepth 100000
set_option maxHeartbeats 4000000
theorem f30 (g:Prg) (hb:PrgB g) (H:List MB):call Tryz.prog pol1 72 [.agg [.sl false (g.ins.map insAV),I g.caps,.bool g.runes]] H=some (I (validG g),H):=by
 obtain⟨hl,hs⟩:=hb
 refine call_run Tryz.func72 rfl rfl rfl rfl rfl rfl (fun _=>rfl) (by simp[AV.plain,AV.plainL,plain_ints,plain_span,plain_ins,plain_prg]) (by simp[AV.plain,AV.plainL,plain_ints,plain_span,plain_ins,plain_prg]) ?_ H
 by_cases h1:8192 < g.ins.length
 ·have e:validG g=4:=by simp[validG,h1]
  rw[e]
  simp +contextual (disch:=omega) only[Tryz.f72,dd72,go_sem,simprocAttr,mu72,↓wrap_up,↓wrap_down,↓wrap_pred,↓wrap_sub_nat]
  exact fzEq rfl rfl
 by_cases h2:g.ins.length=0∨g.caps < 0∨9 < g.caps
 ·have e:validG g=1:=by unfold validG;rw[if_neg h1,if_pos h2]
  rw[e]
  simp +contextual (disch:=omega) only[Tryz.f72,dd72,go_sem,simprocAttr,mu72,↓wrap_up,↓wrap_down,↓wrap_pred,↓wrap_sub_nat]
  repeat' (first|intro _|apply And.intro|exact fzEq rfl rfl)
  all_goals (exfalso;omega)
 simp +contextual (disch:=omega) only[Tryz.f72,dd72,go_sem,simprocAttr,mu72,↓wrap_up,↓wrap_down,↓wrap_pred,↓wrap_sub_nat]
 refine W_count (M:=(mskOf (pol1.mask 72) (pol1.gc 72) (pol1.acts 72) 0 6)) rfl g.ins.length (fun i=>(⟨49,[(25,I i),(24,I g.ins.length),(1,.rf 0 1 0 0)],[.row 3 [prgAV g] 0]⟩:St))
  (fun i=>∀ k p,k < i→g.ins[k]?=some p→okIns g.ins.length g.caps g.runes p=true) ?_ ?_ (fun k p h=>by omega) _ (by first|rfl|(refine prep_cut rfl (by rfl) (by rfl) (by rfl) ?_ ?_<;>simp[AV.underL,AV.under,MB.under,underL_plain,under_plain,plain_ints,plain_span,plain_ins,plain_prg,-List.map_take]))
 ·intro i hi hg
  obtain⟨p,hp⟩:∃ p,g.ins[i]?=some p:=⟨_,List.getElem?_eq_getElem hi⟩
  have hsp:=hs p (List.mem_of_getElem? hp)
  have hf:=f69 g p (by omega) hl hsp
  cases hok:okIns g.ins.length g.caps g.runes p
  ·rw[hok]at hf
   simp +contextual (disch:=omega) only[Tryz.f72,dd72,go_sem,simprocAttr,mu72,↓wrap_up,↓wrap_down,↓wrap_pred,↓wrap_sub_nat,hp,hf]
   refine⟨by unfold dOk;kernel_rfl,fzEq rfl ?_⟩
   rw[validG_bad h1 hp hok]
  ·rw[hok]at hf
   simp +contextual (disch:=omega) only[Tryz.f72,dd72,go_sem,simprocAttr,mu72,↓wrap_up,↓wrap_down,↓wrap_pred,↓wrap_sub_nat,hp,hf]
   refine⟨by unfold dOk;kernel_rfl,fun k q hk hq=>?_,(by first|rfl|(refine prep_cut rfl (by rfl) (by rfl) (by rfl) ?_ ?_<;>simp[AV.underL,AV.under,MB.under,underL_plain,under_plain,plain_ints,plain_span,plain_ins,plain_prg,-List.map_take]))⟩
   rcases Nat.lt_or_ge k i with h|h
   ·exact hg k q h hq
   ·obtain rfl:k=i:=by omega
    rw[hp]at hq
    obtain rfl:=Option.some.inj hq
    exact hok
 ·intro hg
  rw[validG_last h1 h2 (fun k p hk hp=>hg k p hk hp)]
  obtain⟨p,hp⟩:∃ p,g.ins[g.ins.length - 1]?=some p:=⟨_,List.getElem?_eq_getElem (by omega)⟩
  have e:lastGood g=(p.op == 0 || p.op == 2 || p.op == 3):=by simp[lastGood,hp]
  rw[e]
  simp +contextual (disch:=omega) only[Tryz.f72,dd72,go_sem,simprocAttr,mu72,↓wrap_up,↓wrap_down,↓wrap_pred,↓wrap_sub_nat,hp]
  repeat' (first|intro _|apply And.intro|refine fzEq rfl ?_)
  all_goals (congr 1<;>simp<;>omega)
end
structure WS where
 seen:List Nat
 stops:List Nat
 tw:Bool
def nexts (i:Ins) (a:Nat):List Nat:=if i.op=2 then [i.x.toNat,i.y.toNat] else if i.op=3 then [i.x.toNat] else if i.op=4 then [a+1] else []
def stopB (i:Ins):Bool:=decide (i.op≠2) && (decide (i.op≠3) && decide (i.op≠4))
def stepS (w:WS) (i:Ins) (a:Nat):WS:=⟨w.seen++[a],if stopB i=true then w.stops++[a] else w.stops,false⟩
def vis (ins:List Ins):Nat→List Nat→WS→WS
 | _,[],w=>w
 | 0,_::_,w=>w
 | k+1,a::st,w=>if w.tw=true∨a∈w.seen then { w with tw:=true } else
   match ins[a]? with
   | none=>w
   | some i=>vis ins k (nexts i a++st) (stepS w i a)
def WS.Ok (w:WS) (n:Nat):Prop:=w.seen.Nodup∧∀ a∈w.seen,a < n
theorem nodup_len:∀ {n:Nat} {l:List Nat},l.Nodup→(∀ a∈l,a < n)→l.length≤n
 | 0,[],_,_=>Nat.le_refl _
 | 0,a::l,_,h=>absurd (h a (by simp)) (Nat.not_lt_zero _)
 | n+1,l,h1,h2=>by
   by_cases hm:n∈l
   ·have h3:=nodup_len (n:=n) (l:=l.erase n) (h1.erase n) (fun a ha=>by
     have:=h2 a (List.mem_of_mem_erase ha)
     have hne:a≠n:=fun e=>by rw[e]at ha;exact((List.Nodup.mem_erase_iff h1).1 ha).1 rfl
     omega)
    rw[List.length_erase_of_mem hm]at h3
    omega
   ·have h3:=nodup_len (n:=n) h1 (fun a ha=>by
     have:=h2 a ha
     have hne:a≠n:=fun e=>hm (e ▸ ha)
     omega)
    omega
theorem WS.Ok.len {w:WS} {n:Nat} (h:w.Ok n):w.seen.length≤n:=nodup_len h.1 h.2
theorem WS.Ok.step {w:WS} {ins:List Ins} {a:Nat} {i:Ins} (h:w.Ok ins.length) (hn:a ∉ w.seen) (hi:ins[a]?=some i):(stepS w i a).Ok ins.length:=by
 refine⟨?_,fun b hb=>?_⟩
 ·show (w.seen++[a]).Nodup
  rw[List.nodup_append]
  exact⟨h.1,by simp,fun x hx y hy=>by simp at hy;subst hy;rintro rfl;exact hn hx⟩
 ·rcases List.mem_append.1 hb with hb|hb
  ·exact h.2 b hb
  ·simp at hb;subst hb;exact(List.getElem?_eq_some_iff.1 hi).1
theorem vis_fuel (ins:List Ins):∀(k k':Nat) (s:List Nat) (w:WS),w.Ok ins.length→ins.length < k+w.seen.length→ins.length < k' + w.seen.length→vis ins k s w=vis ins k' s w
 | _,_,[],w,_,_,_=>by simp[vis]
 | 0,k',a::st,w,h,h1,_=>absurd h.len (by omega)
 | k+1,0,a::st,w,h,_,h1=>absurd h.len (by omega)
 | k+1,k' + 1,a::st,w,h,h1,h2=>by
   simp only[vis]
   split
   ·rfl
   ·rename_i hn
    cases hi:ins[a]? with
    | none=>rfl
    | some i=>
      have hs:(stepS w i a).seen.length=w.seen.length+1:=by simp[stepS]
      exact vis_fuel ins k k' _ _ (h.step (fun e=>hn (.inr e)) hi) (by rw[hs];omega) (by rw[hs];omega)
def visF (ins:List Ins) (s:List Nat) (w:WS):WS:=vis ins (ins.length+1) s w
theorem visF_nil (ins:List Ins) (w:WS):visF ins [] w=w:=by simp[visF,vis]
theorem visF_again {ins:List Ins} {a:Nat} {st:List Nat} {w:WS} (h:w.tw=true∨a∈w.seen):visF ins (a::st) w = { w with tw:=true }:=by
 simp[visF,vis,h]
theorem visF_step {ins:List Ins} {a:Nat} {st:List Nat} {w:WS} {i:Ins} (hw:w.Ok ins.length) (h1:w.tw=false) (h2:a ∉ w.seen) (hi:ins[a]?=some i):visF ins (a::st) w=visF ins (nexts i a++st) (stepS w i a):=by
 have hs:(stepS w i a).seen.length=w.seen.length+1:=by simp[stepS]
 unfold visF
 rw[show vis ins (ins.length+1) (a::st) w=vis ins ins.length (nexts i a++st) (stepS w i a) by simp[vis,h1,h2,hi]]
 exact vis_fuel ins _ _ _ _ (hw.step h2 hi) (by rw[hs];omega) (by rw[hs];omega)
def In1 (ins:List Ins):Prop:=∀ n i,ins[n]?=some i→∀ b∈nexts i n,b < ins.length
theorem visF_app {ins:List Ins} (hin:In1 ins):∀(k:Nat) (s t:List Nat) (w:WS),w.Ok ins.length→ins.length < k+w.seen.length→(∀ a∈s,a < ins.length) →
  visF ins (s++t) w=visF ins t (visF ins s w)∧(visF ins s w).Ok ins.length∧(w.tw=false→w.stops <+: (visF ins s w).stops)
 | 0,s,t,w,h,h1,_=>absurd h.len (by omega)
 | k+1,[],t,w,h,_,_=>by rw[visF_nil];exact⟨rfl,h,fun _=>List.prefix_refl _⟩
 | k+1,a::s,t,w,h,h1,hs=>by
   by_cases hc:w.tw=true∨a∈w.seen
   ·rw[visF_again hc,List.cons_append,visF_again hc]
    refine⟨?_,h,fun _=>List.prefix_refl _⟩
    cases t with
    | nil=>rw[visF_nil]
    | cons b t=>rw[visF_again (.inl rfl)]
   ·have h2:w.tw=false:=by cases hq:w.tw with
     | false=>rfl
     | true=>exact absurd (.inl hq) hc
    have h3:a ∉ w.seen:=fun e=>hc (.inr e)
    obtain⟨i,hi⟩:∃ i,ins[a]?=some i:=⟨_,List.getElem?_eq_getElem (hs a (by simp))⟩
    rw[visF_step h h2 h3 hi,List.cons_append,visF_step h h2 h3 hi]
    have hl:(stepS w i a).seen.length=w.seen.length+1:=by simp[stepS]
    obtain⟨e1,e2,e3⟩:=visF_app hin k (nexts i a++s) t (stepS w i a) (h.step h3 hi) (by rw[hl];omega) (fun b hb=>by
     rcases List.mem_append.1 hb with hb|hb
     ·exact hin a i hi b hb
     ·exact hs b (List.mem_cons_of_mem _ hb))
    refine⟨by rw[← e1,List.append_assoc],e2,fun _=>?_⟩
    refine List.IsPrefix.trans ?_ (e3 rfl)
    simp only[stepS]
    split
    ·exact List.prefix_append _ _
    ·exact List.prefix_refl _
theorem visF_cons {ins:List Ins} (hin:In1 ins) {a:Nat} {t:List Nat} {w:WS} (h:w.Ok ins.length) (ha:a < ins.length):visF ins (a::t) w=visF ins t (visF ins [a] w):=by
 have:=(visF_app hin (ins.length+1) [a] t w h (by omega) (fun b hb=>by simp at hb;omega)).1
 simpa using this
theorem visF_ok {ins:List Ins} (hin:In1 ins) {s:List Nat} {w:WS} (h:w.Ok ins.length) (hs:∀ a∈s,a < ins.length):(visF ins s w).Ok ins.length:=
 (visF_app hin (ins.length+1) s [] w h (by omega) hs).2.1
def w0S:WS:=⟨[],[],false⟩
theorem w0S_ok (n:Nat):w0S.Ok n:=⟨List.nodup_nil,fun a h=>by simp[w0S]at h⟩
def fromS (ins:List Ins) (st:Nat):WS:=visF ins [st] w0S
end Go.Ev
