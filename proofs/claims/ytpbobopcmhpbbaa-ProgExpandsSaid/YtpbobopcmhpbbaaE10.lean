/- Functions of the program, each with what it computes; no further conditions. -/
import Derived.Test.YtpbobopcmhpbbaaE09
import Derived.Test.YtpbobopcmhpbbaaE05
set_option linter.unusedVariables false
set_option linter.unusedSimpArgs false
namespace Go.Ev
open Go.Proofs Go.RowKit Go.IntWalk
set_option maxRecDepth 100000
set_option linter.unusedSimpArgs false
set_option linter.unusedVariables false
set_option maxHeartbeats 4000000
def aroundI (n m:Int):Int:=(if n < 0 then - (n+1) else n) % m
def In64 (n:Int):Prop:=-9223372036854775808≤n∧n≤9223372036854775807
theorem around_lt {n m:Int} (h:0 < m):0≤aroundI n m∧aroundI n m < m:=by
 unfold aroundI
 have:0≤(if n < 0 then - (n+1) else n):=by split<;>omega
 exact⟨Int.emod_nonneg _ (by omega),Int.emod_lt_of_pos _ h⟩
theorem f12 (n m:Int) (hn:In64 n) (hm:m≠0) (H:List MB):call Try.prog pol1 12 [.int .i64 n,.int .i64 m] H=some (I (aroundI n m),H):=by
 obtain⟨h1,h2⟩:=hn
 refine call_run Try.func12 rfl rfl rfl rfl rfl rfl (fun _=>rfl) (by simp[AV.plain,AV.plainL,plain_ints,plain_span,plain_ins,plain_prg]) (by simp[AV.plain,AV.plainL,plain_ints,plain_span,plain_ins,plain_prg]) ?_ H
 simp +contextual (disch:=omega) only[Try.f12,dd12,ty3,ty4,↓reduceIte,eq_self,bindW_some,bindW_map,bindW_ite,bindW_iteN,W_seq,W_region,W_draw,W_cond,W_condK,W_ret,W_skip,W_exit,W_scope,W_label,W_block,blockK_norm,blockK_ret,blockK_exit,WO_nil,WO_cons,WO_guard,WD_nil,WD_cons,WD_guard,guardV,guardW_boolT,guardW_boolF,guardW_tup,fpL_some,fpL_none,footprint,thenK_norm,thenK_ret,thenK_exit,put_some,put_none,ev_tmp,ev_con,ev_func,ofK_int,ofK_bool,ofK_str,ofK_nil,evOp,evBuiltin,evCall,evLen,evAppend,getElem_16,getElem_4,List.length_cons,List.length_nil,List.reduceReplicate,Nat.reduceAdd,Nat.reduceSub,List.cons_append,List.nil_append,List.append_nil,if_false,if_true,Bool.false_eq_true,Bool.true_eq_false,reduceCtorEq,Option.map_some,Option.map_none,List.map_cons,List.map_nil,evBinOp,evBin,evUn,asB_bool,splitB_decide,splitB_true,splitB_false,splitB_beq,splitB_bne,splitB_not,endK_ret,endK_norm,List.getElem?_cons_zero,List.getElem?_cons_succ,evResults,evResult,packRes,retK_norm,retK_ret,cellsAt,mkVal,evFieldAddr,evField,evIndexAddr,evPart,evStore,evBuild,evBuildSlice,fillC,fillE,evSlice,evMakeSlice,evConvert,getRow,AV.cells,List.head?_cons,List.drop_zero,List.drop_succ_cons,List.take_zero,List.take_succ_cons,List.drop_nil,List.take_nil,List.all_cons,List.all_nil,AV.ok,Bool.and_self,Bool.and_true,Bool.true_and,and_self,and_true,true_and,Nat.reduceLeDiff,Nat.reduceMul,Nat.reduceLT,Nat.reduceEqDiff,Nat.zero_add,Nat.add_zero,setCells,splice,pairsOk,pairsX,altW_none,altW_some,cfg_al,WI_nil,WI_cons,FP.apart,heapEq_refl,sameAt_refl,Bool.or_true,Bool.true_or,Bool.or_false,srcElems,elemsOf,mutDst,indDst,roundK_norm,roundK_exit,roundK_ret,List.length_map,List.getElem?_map,Int.toNat_natCast,Int.reduceBNe,Int.reduceBEq,decide_true,decide_false,Bool.not_true,Bool.not_false,List.set,set_0,set_1,set_2,set_3,set_4,look_hit,look,lookD_hit,lookD_cons,lookD_nil,ins_hit,ins,upd_hit,upd,rem1_hit,rem1,dropT,dropSt_eq,initT,cfg_dd,cfg_bd,cfg_ra,actL_nil,actL_cons,act1,updT_hit,updT,frzB,mu12,List.contains_nil,List.contains_cons,Nat.reduceBEq,Bool.or_self,dlt_t,dlt_f,dle_t,dle_f,dgt_t,dgt_f,dge_t,dge_f,beq_t,beq_f,bne_t,bne_f,lt_T,le_T,nle_T,nle_F,↓wrap_up,↓wrap_down,↓wrap_pred,↓wrap_sub_nat,i64_in,i64_quo,rem_in,Int.reduceToNat]
 unfold aroundI
 refine⟨fun h=>⟨hm,fzEq rfl ?_⟩,fun h=>⟨hm,fzEq rfl ?_⟩⟩
 ·rw[if_pos h];try (congr 2;omega)
 ·rw[if_neg h]
def pickI (l:List Int) (i m:Int):Int:=if i < 0 then 0 else match l[i.toNat]? with
 | some x=>aroundI x m
 | none=>0
theorem pick_lt {l:List Int} {i m:Int} (h:0 < m):0≤pickI l i m∧pickI l i m < m:=by
 unfold pickI
 split
 ·omega
 ·split
  ·exact around_lt h
  ·omega
theorem f57 (l:List Int) (i m:Int) (hl:∀ x∈l,In64 x) (hm:m≠0) (H:List MB):call Try.prog pol1 57 [.sl false (l.map I),.int .i64 i,.int .i64 m] H=some (I (pickI l i m),H):=by
 refine call_run Try.func57 rfl rfl rfl rfl rfl rfl (fun _=>rfl) (by simp[AV.plain,AV.plainL,plain_ints,plain_span,plain_ins,plain_prg]) (by simp[AV.plain,AV.plainL,plain_ints,plain_span,plain_ins,plain_prg]) ?_ H
 by_cases h0:i < 0
 ·have e:pickI l i m=0:=by simp[pickI,h0]
  rw[e]
  simp +contextual (disch:=omega) only[Try.f57,dd57,ty0,ty3,ty4,ty22,↓reduceIte,eq_self,bindW_some,bindW_map,bindW_ite,bindW_iteN,W_seq,W_region,W_draw,W_cond,W_condK,W_ret,W_skip,W_exit,W_scope,W_label,W_block,blockK_norm,blockK_ret,blockK_exit,WO_nil,WO_cons,WO_guard,WD_nil,WD_cons,WD_guard,guardV,guardW_boolT,guardW_boolF,guardW_tup,fpL_some,fpL_none,footprint,thenK_norm,thenK_ret,thenK_exit,put_some,put_none,ev_tmp,ev_con,ev_func,ofK_int,ofK_bool,ofK_str,ofK_nil,evOp,evBuiltin,evCall,evLen,evAppend,getElem_16,getElem_4,List.length_cons,List.length_nil,List.reduceReplicate,Nat.reduceAdd,Nat.reduceSub,List.cons_append,List.nil_append,List.append_nil,if_false,if_true,Bool.false_eq_true,Bool.true_eq_false,reduceCtorEq,Option.map_some,Option.map_none,List.map_cons,List.map_nil,evBinOp,evBin,evUn,asB_bool,splitB_decide,splitB_true,splitB_false,splitB_beq,splitB_bne,splitB_not,endK_ret,endK_norm,List.getElem?_cons_zero,List.getElem?_cons_succ,evResults,evResult,packRes,retK_norm,retK_ret,cellsAt,mkVal,evFieldAddr,evField,evIndexAddr,evPart,evStore,evBuild,evBuildSlice,fillC,fillE,evSlice,evMakeSlice,evConvert,getRow,AV.cells,List.head?_cons,List.drop_zero,List.drop_succ_cons,List.take_zero,List.take_succ_cons,List.drop_nil,List.take_nil,List.all_cons,List.all_nil,AV.ok,Bool.and_self,Bool.and_true,Bool.true_and,and_self,and_true,true_and,Nat.reduceLeDiff,Nat.reduceMul,Nat.reduceLT,Nat.reduceEqDiff,Nat.zero_add,Nat.add_zero,setCells,splice,pairsOk,pairsX,altW_none,altW_some,cfg_al,WI_nil,WI_cons,FP.apart,heapEq_refl,sameAt_refl,Bool.or_true,Bool.true_or,Bool.or_false,srcElems,elemsOf,mutDst,indDst,roundK_norm,roundK_exit,roundK_ret,List.length_map,List.getElem?_map,Int.toNat_natCast,Int.reduceBNe,Int.reduceBEq,decide_true,decide_false,Bool.not_true,Bool.not_false,List.set,set_0,set_1,set_2,set_3,set_4,look_hit,look,lookD_hit,lookD_cons,lookD_nil,ins_hit,ins,upd_hit,upd,rem1_hit,rem1,dropT,dropSt_eq,initT,cfg_dd,cfg_bd,cfg_ra,actL_nil,actL_cons,act1,updT_hit,updT,frzB,mu57,List.contains_nil,List.contains_cons,Nat.reduceBEq,Bool.or_self,dlt_t,dlt_f,dle_t,dle_f,dgt_t,dgt_f,dge_t,dge_f,beq_t,beq_f,bne_t,bne_f,lt_T,le_T,nle_T,nle_F,↓wrap_up,↓wrap_down,↓wrap_pred,↓wrap_sub_nat,i64_in,i64_quo,rem_in,Int.reduceToNat]
  exact fzEq rfl rfl
 ·obtain⟨k,rfl⟩:∃ k:Nat,i=k:=⟨i.toNat,by omega⟩
  by_cases h1:k < l.length
  ·obtain⟨p,hp⟩:∃ p,l[k]?=some p:=⟨_,List.getElem?_eq_getElem h1⟩
   have e:pickI l k m=aroundI p m:=by simp[pickI,h0,hp]
   rw[e]
   have hf:=f12 p m (hl p (List.mem_of_getElem? hp)) hm
   simp +contextual (disch:=omega) only[Try.f57,dd57,ty0,ty3,ty4,ty22,↓reduceIte,eq_self,bindW_some,bindW_map,bindW_ite,bindW_iteN,W_seq,W_region,W_draw,W_cond,W_condK,W_ret,W_skip,W_exit,W_scope,W_label,W_block,blockK_norm,blockK_ret,blockK_exit,WO_nil,WO_cons,WO_guard,WD_nil,WD_cons,WD_guard,guardV,guardW_boolT,guardW_boolF,guardW_tup,fpL_some,fpL_none,footprint,thenK_norm,thenK_ret,thenK_exit,put_some,put_none,ev_tmp,ev_con,ev_func,ofK_int,ofK_bool,ofK_str,ofK_nil,evOp,evBuiltin,evCall,evLen,evAppend,getElem_16,getElem_4,List.length_cons,List.length_nil,List.reduceReplicate,Nat.reduceAdd,Nat.reduceSub,List.cons_append,List.nil_append,List.append_nil,if_false,if_true,Bool.false_eq_true,Bool.true_eq_false,reduceCtorEq,Option.map_some,Option.map_none,List.map_cons,List.map_nil,evBinOp,evBin,evUn,asB_bool,splitB_decide,splitB_true,splitB_false,splitB_beq,splitB_bne,splitB_not,endK_ret,endK_norm,List.getElem?_cons_zero,List.getElem?_cons_succ,evResults,evResult,packRes,retK_norm,retK_ret,cellsAt,mkVal,evFieldAddr,evField,evIndexAddr,evPart,evStore,evBuild,evBuildSlice,fillC,fillE,evSlice,evMakeSlice,evConvert,getRow,AV.cells,List.head?_cons,List.drop_zero,List.drop_succ_cons,List.take_zero,List.take_succ_cons,List.drop_nil,List.take_nil,List.all_cons,List.all_nil,AV.ok,Bool.and_self,Bool.and_true,Bool.true_and,and_self,and_true,true_and,Nat.reduceLeDiff,Nat.reduceMul,Nat.reduceLT,Nat.reduceEqDiff,Nat.zero_add,Nat.add_zero,setCells,splice,pairsOk,pairsX,altW_none,altW_some,cfg_al,WI_nil,WI_cons,FP.apart,heapEq_refl,sameAt_refl,Bool.or_true,Bool.true_or,Bool.or_false,srcElems,elemsOf,mutDst,indDst,roundK_norm,roundK_exit,roundK_ret,List.length_map,List.getElem?_map,Int.toNat_natCast,Int.reduceBNe,Int.reduceBEq,decide_true,decide_false,Bool.not_true,Bool.not_false,List.set,set_0,set_1,set_2,set_3,set_4,look_hit,look,lookD_hit,lookD_cons,lookD_nil,ins_hit,ins,upd_hit,upd,rem1_hit,rem1,dropT,dropSt_eq,initT,cfg_dd,cfg_bd,cfg_ra,actL_nil,actL_cons,act1,updT_hit,updT,frzB,mu57,List.contains_nil,List.contains_cons,Nat.reduceBEq,Bool.or_self,dlt_t,dlt_f,dle_t,dle_f,dgt_t,dgt_f,dge_t,dge_f,beq_t,beq_f,bne_t,bne_f,lt_T,le_T,nle_T,nle_F,↓wrap_up,↓wrap_down,↓wrap_pred,↓wrap_sub_nat,i64_in,i64_quo,rem_in,Int.reduceToNat,hp,hf]
   exact fzEq rfl rfl
  ·have e:pickI l k m=0:=by simp[pickI,List.getElem?_eq_none (Nat.le_of_not_lt h1)]
   rw[e]
   simp +contextual (disch:=omega) only[Try.f57,dd57,ty0,ty3,ty4,ty22,↓reduceIte,eq_self,bindW_some,bindW_map,bindW_ite,bindW_iteN,W_seq,W_region,W_draw,W_cond,W_condK,W_ret,W_skip,W_exit,W_scope,W_label,W_block,blockK_norm,blockK_ret,blockK_exit,WO_nil,WO_cons,WO_guard,WD_nil,WD_cons,WD_guard,guardV,guardW_boolT,guardW_boolF,guardW_tup,fpL_some,fpL_none,footprint,thenK_norm,thenK_ret,thenK_exit,put_some,put_none,ev_tmp,ev_con,ev_func,ofK_int,ofK_bool,ofK_str,ofK_nil,evOp,evBuiltin,evCall,evLen,evAppend,getElem_16,getElem_4,List.length_cons,List.length_nil,List.reduceReplicate,Nat.reduceAdd,Nat.reduceSub,List.cons_append,List.nil_append,List.append_nil,if_false,if_true,Bool.false_eq_true,Bool.true_eq_false,reduceCtorEq,Option.map_some,Option.map_none,List.map_cons,List.map_nil,evBinOp,evBin,evUn,asB_bool,splitB_decide,splitB_true,splitB_false,splitB_beq,splitB_bne,splitB_not,endK_ret,endK_norm,List.getElem?_cons_zero,List.getElem?_cons_succ,evResults,evResult,packRes,retK_norm,retK_ret,cellsAt,mkVal,evFieldAddr,evField,evIndexAddr,evPart,evStore,evBuild,evBuildSlice,fillC,fillE,evSlice,evMakeSlice,evConvert,getRow,AV.cells,List.head?_cons,List.drop_zero,List.drop_succ_cons,List.take_zero,List.take_succ_cons,List.drop_nil,List.take_nil,List.all_cons,List.all_nil,AV.ok,Bool.and_self,Bool.and_true,Bool.true_and,and_self,and_true,true_and,Nat.reduceLeDiff,Nat.reduceMul,Nat.reduceLT,Nat.reduceEqDiff,Nat.zero_add,Nat.add_zero,setCells,splice,pairsOk,pairsX,altW_none,altW_some,cfg_al,WI_nil,WI_cons,FP.apart,heapEq_refl,sameAt_refl,Bool.or_true,Bool.true_or,Bool.or_false,srcElems,elemsOf,mutDst,indDst,roundK_norm,roundK_exit,roundK_ret,List.length_map,List.getElem?_map,Int.toNat_natCast,Int.reduceBNe,Int.reduceBEq,decide_true,decide_false,Bool.not_true,Bool.not_false,List.set,set_0,set_1,set_2,set_3,set_4,look_hit,look,lookD_hit,lookD_cons,lookD_nil,ins_hit,ins,upd_hit,upd,rem1_hit,rem1,dropT,dropSt_eq,initT,cfg_dd,cfg_bd,cfg_ra,actL_nil,actL_cons,act1,updT_hit,updT,frzB,mu57,List.contains_nil,List.contains_cons,Nat.reduceBEq,Bool.or_self,dlt_t,dlt_f,dle_t,dle_f,dgt_t,dgt_f,dge_t,dge_f,beq_t,beq_f,bne_t,bne_f,lt_T,le_T,nle_T,nle_F,↓wrap_up,↓wrap_down,↓wrap_pred,↓wrap_sub_nat,i64_in,i64_quo,rem_in,Int.reduceToNat]
   exact fzEq rfl rfl
end Go.Ev
namespace Go.Ev
attribute [local go_sem] eq_self bindW_some bindW_map bindW_ite bindW_iteN W_seq W_region W_draw W_cond W_condK W_ret W_skip W_exit W_scope W_label W_block blockK_norm blockK_ret blockK_exit WO_nil WO_cons WO_guard WD_nil WD_cons WD_guard guardV guardW_boolT guardW_boolF guardW_tup fpL_some fpL_none footprint thenK_norm thenK_ret thenK_exit put_some put_none ev_tmp ev_con ev_func ofK_int ofK_bool ofK_str ofK_nil evOp evBuiltin evCall evLen evAppend getElem_16 getElem_4 List.length_cons List.length_nil List.cons_append List.nil_append List.append_nil if_false if_true Bool.false_eq_true Bool.true_eq_false Option.map_some Option.map_none List.map_cons List.map_nil evBinOp evBin evUn asB_bool splitB_decide splitB_true splitB_false splitB_beq splitB_bne splitB_not endK_ret endK_norm List.getElem?_cons_zero List.getElem?_cons_succ evResults evResult packRes retK_norm retK_ret cellsAt mkVal evFieldAddr evField evIndexAddr evPart evStore evBuild evBuildSlice fillC fillE evSlice evMakeSlice evConvert getRow AV.cells List.head?_cons List.drop_zero List.drop_succ_cons List.take_zero List.take_succ_cons List.drop_nil List.take_nil List.all_cons List.all_nil AV.ok Bool.and_self Bool.and_true Bool.true_and and_self and_true true_and Nat.zero_add Nat.add_zero setCells splice pairsOk pairsX altW_none altW_some cfg_al WI_nil WI_cons FP.apart heapEq_refl sameAt_refl Bool.or_true Bool.true_or Bool.or_false srcElems elemsOf mutDst indDst roundK_norm roundK_exit roundK_ret List.length_map List.getElem?_map Int.toNat_natCast decide_true decide_false Bool.not_true Bool.not_false List.set set_0 set_1 set_2 set_3 set_4 look_hit look lookD_hit lookD_cons lookD_nil ins_hit ins upd_hit upd rem1_hit rem1 dropT dropSt_eq initT cfg_dd cfg_bd cfg_ra actL_nil actL_cons act1 updT_hit updT frzB retE_norm retE_ret bndO bnd evEq eqCells not_false_eq_true not_true_eq_false toList_some Array.size_empty List.length_append List.map_append tySzE List.head?_drop Nat.mul_one sameAt_zero sameAt_two sameAt_three sameAt_four sameAt_five endE_norm endE_ret head_take1 List.contains_nil List.contains_cons Bool.or_self dlt_t dlt_f dle_t dle_f dgt_t dgt_f dge_t dge_f beq_t beq_f bne_t bne_f lt_T le_T nle_T nle_F Go.IntWalk.i64_in Go.IntWalk.i64_quo Go.IntWalk.rem_in room_ok
section
open Go.Proofs Go.RowKit Go.IntWalk
set_option maxRecDepth 100000
set_option linter.unusedSimpArgs false
set_option linter.unusedVariables false
set_option maxHeartbeats 4000000
end
section
attribute [local go_sem] ty0 ty3 ty4 ty23 ty86
open Go.Proofs Go.RowKit Go.IntWalk
set_option maxRecDepth 100000
set_option linter.unusedSimpArgs false
set_option linter.unusedVariables false
set_option maxHeartbeats 4000000
theorem f102 (r:Bool) (H:List MB):call Try.prog pol1 102 [.bool r] H=some (I (if r then 1114111 else 255),H):=by
 cases r
 ·refine call_run Try.func102 rfl rfl rfl rfl rfl rfl (fun _=>rfl) (by simp[AV.plain,AV.plainL,plain_ints,plain_span,plain_ins,plain_prg]) (by simp[AV.plain,AV.plainL,plain_ints,plain_span,plain_ins,plain_prg]) ?_ H
  simp +contextual (disch:=omega) only[Try.f102,dd102,go_sem,↓reduceIte,List.reduceReplicate,Nat.reduceAdd,Nat.reduceSub,reduceCtorEq,Nat.reduceLeDiff,Nat.reduceMul,Nat.reduceLT,Nat.reduceEqDiff,Int.reduceBNe,Int.reduceBEq,Int.reduceEq,Int.reduceLT,Int.reduceLE,Int.reduceGT,Int.reduceGE,mu102,Nat.reduceBEq,↓wrap_up,↓wrap_down,↓wrap_pred,↓wrap_sub_nat,Int.reduceToNat]
  exact fzEq rfl rfl
 ·refine call_run Try.func102 rfl rfl rfl rfl rfl rfl (fun _=>rfl) (by simp[AV.plain,AV.plainL,plain_ints,plain_span,plain_ins,plain_prg]) (by simp[AV.plain,AV.plainL,plain_ints,plain_span,plain_ins,plain_prg]) ?_ H
  simp +contextual (disch:=omega) only[Try.f102,dd102,go_sem,↓reduceIte,List.reduceReplicate,Nat.reduceAdd,Nat.reduceSub,reduceCtorEq,Nat.reduceLeDiff,Nat.reduceMul,Nat.reduceLT,Nat.reduceEqDiff,Int.reduceBNe,Int.reduceBEq,Int.reduceEq,Int.reduceLT,Int.reduceLE,Int.reduceGT,Int.reduceGE,mu102,Nat.reduceBEq,↓wrap_up,↓wrap_down,↓wrap_pred,↓wrap_sub_nat,Int.reduceToNat]
  exact fzEq rfl rfl
theorem badS_lt {l:List (Int×Int)} {top:Int} {i:Nat} {p:Int×Int} (hp:l[i]?=some p) (h:p.1 < 0∨p.2 < p.1∨top < p.2):badS l top i=true:=by
 simp only[badS,hp]
 rcases h with h|h|h<;>simp[h]
theorem badS_zero {l:List (Int×Int)} {top:Int} {p:Int×Int} (hp:l[0]?=some p) (h:¬ (p.1 < 0∨p.2 < p.1∨top < p.2)):badS l top 0=false:=by
 have h1:¬ p.1 < 0:=fun e=>h (.inl e)
 have h2:¬ p.2 < p.1:=fun e=>h (.inr (.inl e))
 have h3:¬ top < p.2:=fun e=>h (.inr (.inr e))
 simp[badS,hp,h1,h2,h3]
theorem badS_succ {l:List (Int×Int)} {top:Int} {i:Nat} {p q:Int×Int} (hp:l[i+1]?=some p) (hq:l[i]?=some q) (h:¬ (p.1 < 0∨p.2 < p.1∨top < p.2)):badS l top (i+1)=decide (p.1 < q.2+2):=by
 have h1:¬ p.1 < 0:=fun e=>h (.inl e)
 have h2:¬ p.2 < p.1:=fun e=>h (.inr (.inl e))
 have h3:¬ top < p.2:=fun e=>h (.inr (.inr e))
 simp[badS,hp,hq,h1,h2,h3]
theorem badS_hi {l:List (Int×Int)} {top:Int} {i:Nat} {q:Int×Int} (hq:l[i]?=some q) (h:badS l top i=false):0≤q.1∧q.1≤q.2∧q.2≤top:=by
 simp only[badS,hq,Bool.or_eq_false_iff,decide_eq_false_iff_not]at h
 omega
theorem f131 (l:List (Int×Int)) (top:Int) (ht:top≤1114111) (hl:l.length≤1000000) (H:List MB):call Try.prog pol1 131 [.sl false (l.map spanAV),I top] H=some (.bool (spansG l top),H):=by
 refine call_run Try.func131 rfl rfl rfl rfl rfl rfl (fun _=>rfl) (by simp[AV.plain,AV.plainL,plain_span]) rfl ?_ H
 by_cases h64:64 < l.length
 ·rw[spansG_long h64]
  simp +contextual (disch:=omega) only[Try.f131,dd131,go_sem,↓reduceIte,List.reduceReplicate,Nat.reduceAdd,Nat.reduceSub,reduceCtorEq,Nat.reduceLeDiff,Nat.reduceMul,Nat.reduceLT,Nat.reduceEqDiff,Int.reduceBNe,Int.reduceBEq,Int.reduceEq,Int.reduceLT,Int.reduceLE,Int.reduceGT,Int.reduceGE,mu131,Nat.reduceBEq,↓wrap_up,↓wrap_down,↓wrap_pred,↓wrap_sub_nat,Int.reduceToNat]
  exact fzEq rfl rfl
 ·simp +contextual (disch:=omega) only[Try.f131,dd131,go_sem,↓reduceIte,List.reduceReplicate,Nat.reduceAdd,Nat.reduceSub,reduceCtorEq,Nat.reduceLeDiff,Nat.reduceMul,Nat.reduceLT,Nat.reduceEqDiff,Int.reduceBNe,Int.reduceBEq,Int.reduceEq,Int.reduceLT,Int.reduceLE,Int.reduceGT,Int.reduceGE,mu131,Nat.reduceBEq,↓wrap_up,↓wrap_down,↓wrap_pred,↓wrap_sub_nat,Int.reduceToNat]
  refine W_count (M:=(mskOf (pol1.mask 131) (pol1.gc 131) (pol1.acts 131) 0 4)) rfl l.length (fun i=>(⟨50,[(12,I i),(11,I l.length),(10,.sl false (l.map spanAV)),(1,I top),(0,.sl false (l.map spanAV))],[]⟩:St)) (fun i=>∀ k,k < i→badS l top k=false) ?_ ?_ (fun k h=>by omega) _ (by first|rfl|(refine prep_to (n:=0) (m:=⟨some [12,11,10,1,0],some 0,[]⟩) rfl rfl ?_ ?_ ?_<;>first|rfl|(simp[keepT,AV.underL,AV.under,MB.under,underL_plain,under_plain,underL_append,plain_ints,plain_span,plain_ins,plain_prg,-List.map_take,-List.map_replicate,-List.map_set];done)|(simp[keepT,AV.underL,AV.under,MB.under,underL_plain,under_plain,underL_append,plain_ints,plain_span,plain_ins,plain_prg,-List.map_take,-List.map_replicate,-List.map_set];omega)))
  ·intro i hlt hg
   obtain⟨p,hp⟩:∃ p,l[i]?=some p:=⟨_,List.getElem?_eq_getElem hlt⟩
   have ext:badS l top i=false→∀ k,k < i+1→badS l top k=false:=fun h k hk=>by
    rcases Nat.lt_or_ge k i with h1|h1
    ·exact hg k h1
    ·obtain rfl:k=i:=by omega
     exact h
   by_cases hgd:p.1 < 0∨p.2 < p.1∨top < p.2
   ·rw[spansG_bad hlt (badS_lt hp hgd)]
    have hgd':p.1 < 0∨(¬ p.1 < 0∧p.2 < p.1)∨(¬ p.1 < 0∧¬ p.2 < p.1∧top < p.2):=by omega
    rcases hgd' with h|⟨h,h'⟩|⟨h,h',h''⟩
    all_goals (
     simp +contextual (disch:=omega) only[Try.f131,dd131,go_sem,↓reduceIte,List.reduceReplicate,Nat.reduceAdd,Nat.reduceSub,reduceCtorEq,Nat.reduceLeDiff,Nat.reduceMul,Nat.reduceLT,Nat.reduceEqDiff,Int.reduceBNe,Int.reduceBEq,Int.reduceEq,Int.reduceLT,Int.reduceLE,Int.reduceGT,Int.reduceGE,mu131,Nat.reduceBEq,↓wrap_up,↓wrap_down,↓wrap_pred,↓wrap_sub_nat,Int.reduceToNat,hp,spanAV]
     repeat' (first|intro _|apply And.intro|(unfold dOk;kernel_rfl)|exact St.beq_refl _|(show altO _ _ _ _=true;kernel_rfl)|(show (_ || _)=true;kernel_rfl)|(show (_ && _)=true;kernel_rfl))
     all_goals exact fzEq rfl rfl)
   ·rcases i with _|i
    ·simp +contextual (disch:=omega) only[Try.f131,dd131,go_sem,↓reduceIte,List.reduceReplicate,Nat.reduceAdd,Nat.reduceSub,reduceCtorEq,Nat.reduceLeDiff,Nat.reduceMul,Nat.reduceLT,Nat.reduceEqDiff,Int.reduceBNe,Int.reduceBEq,Int.reduceEq,Int.reduceLT,Int.reduceLE,Int.reduceGT,Int.reduceGE,mu131,Nat.reduceBEq,↓wrap_up,↓wrap_down,↓wrap_pred,↓wrap_sub_nat,Int.reduceToNat,hp,spanAV]
     repeat' (first|intro _|apply And.intro|(unfold dOk;kernel_rfl)|exact St.beq_refl _|(show altO _ _ _ _=true;kernel_rfl)|(show (_ || _)=true;kernel_rfl)|(show (_ && _)=true;kernel_rfl))
     ·exact ext (badS_zero hp hgd) _ ‹_›
     ·exact(by first|rfl|(refine prep_to (n:=0) (m:=⟨some [12,11,10,1,0],some 0,[]⟩) rfl rfl ?_ ?_ ?_<;>first|rfl|(simp[keepT,AV.underL,AV.under,MB.under,underL_plain,under_plain,underL_append,plain_ints,plain_span,plain_ins,plain_prg,-List.map_take,-List.map_replicate,-List.map_set];done)|(simp[keepT,AV.underL,AV.under,MB.under,underL_plain,under_plain,underL_append,plain_ints,plain_span,plain_ins,plain_prg,-List.map_take,-List.map_replicate,-List.map_set];omega)))
    ·obtain⟨q,hq⟩:∃ q,l[i]?=some q:=⟨_,List.getElem?_eq_getElem (by omega)⟩
     have hqb:=badS_hi hq (hg i (by omega))
     have hb:=badS_succ hp hq hgd
     by_cases h2:p.1 < q.2+2
     ·rw[spansG_bad hlt (by rw[hb];simp[h2])]
      simp +contextual (disch:=omega) only[Try.f131,dd131,go_sem,↓reduceIte,List.reduceReplicate,Nat.reduceAdd,Nat.reduceSub,reduceCtorEq,Nat.reduceLeDiff,Nat.reduceMul,Nat.reduceLT,Nat.reduceEqDiff,Int.reduceBNe,Int.reduceBEq,Int.reduceEq,Int.reduceLT,Int.reduceLE,Int.reduceGT,Int.reduceGE,mu131,Nat.reduceBEq,↓wrap_up,↓wrap_down,↓wrap_pred,↓wrap_sub_nat,Int.reduceToNat,hp,hq,spanAV]
      repeat' (first|intro _|apply And.intro|(unfold dOk;kernel_rfl)|exact St.beq_refl _|(show altO _ _ _ _=true;kernel_rfl)|(show (_ || _)=true;kernel_rfl)|(show (_ && _)=true;kernel_rfl))
      all_goals exact fzEq rfl rfl
     ·simp +contextual (disch:=omega) only[Try.f131,dd131,go_sem,↓reduceIte,List.reduceReplicate,Nat.reduceAdd,Nat.reduceSub,reduceCtorEq,Nat.reduceLeDiff,Nat.reduceMul,Nat.reduceLT,Nat.reduceEqDiff,Int.reduceBNe,Int.reduceBEq,Int.reduceEq,Int.reduceLT,Int.reduceLE,Int.reduceGT,Int.reduceGE,mu131,Nat.reduceBEq,↓wrap_up,↓wrap_down,↓wrap_pred,↓wrap_sub_nat,Int.reduceToNat,hp,hq,spanAV]
      repeat' (first|intro _|apply And.intro|(unfold dOk;kernel_rfl)|exact St.beq_refl _|(show altO _ _ _ _=true;kernel_rfl)|(show (_ || _)=true;kernel_rfl)|(show (_ && _)=true;kernel_rfl))
      ·exact ext (by rw[hb];simp[h2]) _ ‹_›
      ·exact(by first|rfl|(refine prep_to (n:=0) (m:=⟨some [12,11,10,1,0],some 0,[]⟩) rfl rfl ?_ ?_ ?_<;>first|rfl|(simp[keepT,AV.underL,AV.under,MB.under,underL_plain,under_plain,underL_append,plain_ints,plain_span,plain_ins,plain_prg,-List.map_take,-List.map_replicate,-List.map_set];done)|(simp[keepT,AV.underL,AV.under,MB.under,underL_plain,under_plain,underL_append,plain_ints,plain_span,plain_ins,plain_prg,-List.map_take,-List.map_replicate,-List.map_set];omega)))
  ·intro hg
   rw[spansG_good (by omega) hg]
   simp +contextual (disch:=omega) only[Try.f131,dd131,go_sem,↓reduceIte,List.reduceReplicate,Nat.reduceAdd,Nat.reduceSub,reduceCtorEq,Nat.reduceLeDiff,Nat.reduceMul,Nat.reduceLT,Nat.reduceEqDiff,Int.reduceBNe,Int.reduceBEq,Int.reduceEq,Int.reduceLT,Int.reduceLE,Int.reduceGT,Int.reduceGE,mu131,Nat.reduceBEq,↓wrap_up,↓wrap_down,↓wrap_pred,↓wrap_sub_nat,Int.reduceToNat]
   exact fzEq rfl rfl
end
section
attribute [local go_sem] ty0 ty3 ty4 ty23 ty24 ty26 ty100
open Go.Proofs Go.RowKit Go.IntWalk
set_option maxRecDepth 100000
set_option linter.unusedSimpArgs false
set_option linter.unusedVariables false
set_option maxHeartbeats 8000000
abbrev nodeL (op:Int) (set:List (Int×Int)) (kids:List Re) (mn mx md n:Int) (neg:Bool):List AV:=[I op,.sl false (set.map spanAV),.sl false (kids.map reAV),I mn,I mx,I md,I n,.bool neg]
theorem f132 (op:Int) (set:List (Int×Int)) (kids:List Re) (mn mx md n:Int) (neg:Bool) (H:List MB):call Try.prog pol1 132 [.pt (nodeL op set kids mn mx md n neg)] H=some (.bool (repG mn mx md),H):=by
 refine call_run Try.func132 rfl rfl rfl rfl rfl rfl (fun _=>rfl) (by simp[AV.plain,AV.plainL,plain_span,plain_kids]) rfl ?_ H
 by_cases h:mn < 0∨32 < mn∨md < 0∨2 < md
 ·have e:repG mn mx md=false:=by
   simp only[repG,Bool.and_eq_false_iff,decide_eq_false_iff_not]
   omega
  rw[e]
  have h':mn < 0∨(¬ mn < 0∧32 < mn)∨(¬ mn < 0∧¬ 32 < mn∧md < 0)∨(¬ mn < 0∧¬ 32 < mn∧¬ md < 0∧2 < md):=by omega
  rcases h' with h|⟨h,h1⟩|⟨h,h1,h2⟩|⟨h,h1,h2,h3⟩
  all_goals (
   simp +contextual (disch:=omega) only[Try.f132,dd132,go_sem,↓reduceIte,List.reduceReplicate,Nat.reduceAdd,Nat.reduceSub,reduceCtorEq,Nat.reduceLeDiff,Nat.reduceMul,Nat.reduceLT,Nat.reduceEqDiff,Int.reduceBNe,Int.reduceBEq,Int.reduceEq,Int.reduceLT,Int.reduceLE,Int.reduceGT,Int.reduceGE,mu132,Nat.reduceBEq,↓wrap_up,↓wrap_down,↓wrap_pred,↓wrap_sub_nat,Int.reduceToNat]
   repeat' (first|intro _|apply And.intro|(unfold dOk;kernel_rfl)|exact St.beq_refl _|(show altO _ _ _ _=true;kernel_rfl)|(show (_ || _)=true;kernel_rfl)|(show (_ && _)=true;kernel_rfl))
   all_goals exact fzEq rfl rfl)
 ·have e:repG mn mx md=(mx == -1 || (decide (1≤mx) && decide (mx≤32) && decide (mn≤mx))):=by
   have h1:0≤mn:=by omega
   have h2:mn≤32:=by omega
   have h3:0≤md:=by omega
   have h4:md≤2:=by omega
   simp[repG,h1,h2,h3,h4]
  rw[e]
  simp +contextual (disch:=omega) only[Try.f132,dd132,go_sem,↓reduceIte,List.reduceReplicate,Nat.reduceAdd,Nat.reduceSub,reduceCtorEq,Nat.reduceLeDiff,Nat.reduceMul,Nat.reduceLT,Nat.reduceEqDiff,Int.reduceBNe,Int.reduceBEq,Int.reduceEq,Int.reduceLT,Int.reduceLE,Int.reduceGT,Int.reduceGE,mu132,Nat.reduceBEq,↓wrap_up,↓wrap_down,↓wrap_pred,↓wrap_sub_nat,Int.reduceToNat]
  repeat' (first|intro _|apply And.intro|(unfold dOk;kernel_rfl)|exact St.beq_refl _|(show altO _ _ _ _=true;kernel_rfl)|(show (_ || _)=true;kernel_rfl)|(show (_ && _)=true;kernel_rfl))
  all_goals (first|exact fzEq rfl rfl|refine fzEq rfl (congrArg AV.bool ?_))
  all_goals (rw[Bool.eq_iff_iff];simp<;>omega)
theorem f104 (caps top:Int) (ht:top≤1114111) (op:Int) (set:List (Int×Int)) (kids:List Re) (mn mx md n:Int) (neg:Bool) (hs:set.length≤1000000) (hk:kids.length≤1000000) (H:List MB) :
 call Try.prog pol1 104 [.pt (nodeL op set kids mn mx md n neg),I caps,I top] H=some (.bool (formedG caps top (.mk op set kids mn mx md n neg)),H):=by
 refine call_run Try.func104 rfl rfl rfl rfl rfl rfl (fun _=>rfl) (by simp[AV.plain,AV.plainL,plain_span,plain_kids]) rfl ?_ H
 have h131:=f131 set top ht hs
 have h132:=f132 op set kids mn mx md n neg
 by_cases h0:op < 0∨11 < op
 ·have e:formedG caps top (.mk op set kids mn mx md n neg)=false:=by
   have:¬ (0≤op∧op≤11):=by omega
   simp only[formedG,Bool.and_eq_false_iff,decide_eq_false_iff_not]
   omega
  rw[e]
  simp +contextual (disch:=omega) only[Try.f104,dd104,go_sem,↓reduceIte,List.reduceReplicate,Nat.reduceAdd,Nat.reduceSub,reduceCtorEq,Nat.reduceLeDiff,Nat.reduceMul,Nat.reduceLT,Nat.reduceEqDiff,Int.reduceBNe,Int.reduceBEq,Int.reduceEq,Int.reduceLT,Int.reduceLE,Int.reduceGT,Int.reduceGE,mu104,Nat.reduceBEq,↓wrap_up,↓wrap_down,↓wrap_pred,↓wrap_sub_nat,Int.reduceToNat,h131,h132]
  repeat' (first|intro _|apply And.intro|(unfold dOk;kernel_rfl)|exact St.beq_refl _|(show altO _ _ _ _=true;kernel_rfl)|(show (_ || _)=true;kernel_rfl)|(show (_ && _)=true;kernel_rfl))
  all_goals exact fzEq rfl rfl
 have hop:op=1∨op=4∨op=0∨op=2∨op=3∨op=5∨op=6∨op=7∨op=8∨op=9∨op=10∨op=11:=by omega
 clear h0
 rcases hop with rfl|rfl|rfl|rfl|rfl|rfl|rfl|rfl|rfl|rfl|rfl|rfl
 ·cases hsp:spansG set top
  all_goals (
   rw[hsp]at h131
   simp +contextual (disch:=omega) only[Try.f104,dd104,go_sem,↓reduceIte,List.reduceReplicate,Nat.reduceAdd,Nat.reduceSub,reduceCtorEq,Nat.reduceLeDiff,Nat.reduceMul,Nat.reduceLT,Nat.reduceEqDiff,Int.reduceBNe,Int.reduceBEq,Int.reduceEq,Int.reduceLT,Int.reduceLE,Int.reduceGT,Int.reduceGE,mu104,Nat.reduceBEq,↓wrap_up,↓wrap_down,↓wrap_pred,↓wrap_sub_nat,Int.reduceToNat,h131,h132]
   repeat' (first|intro _|apply And.intro|(unfold dOk;kernel_rfl)|exact St.beq_refl _|(show altO _ _ _ _=true;kernel_rfl)|(show (_ || _)=true;kernel_rfl)|(show (_ && _)=true;kernel_rfl))
   all_goals (clear h131 h132;refine fzEq rfl (congrArg AV.bool ?_);first|(simp_all [formedG,kidsG];done)|(simp_all [formedG,kidsG];omega)))
 ·cases hrp:repG mn mx md
  all_goals (
   rw[hrp]at h132
   simp +contextual (disch:=omega) only[Try.f104,dd104,go_sem,↓reduceIte,List.reduceReplicate,Nat.reduceAdd,Nat.reduceSub,reduceCtorEq,Nat.reduceLeDiff,Nat.reduceMul,Nat.reduceLT,Nat.reduceEqDiff,Int.reduceBNe,Int.reduceBEq,Int.reduceEq,Int.reduceLT,Int.reduceLE,Int.reduceGT,Int.reduceGE,mu104,Nat.reduceBEq,↓wrap_up,↓wrap_down,↓wrap_pred,↓wrap_sub_nat,Int.reduceToNat,h131,h132]
   repeat' (first|intro _|apply And.intro|(unfold dOk;kernel_rfl)|exact St.beq_refl _|(show altO _ _ _ _=true;kernel_rfl)|(show (_ || _)=true;kernel_rfl)|(show (_ && _)=true;kernel_rfl))
   all_goals (clear h131 h132;refine fzEq rfl (congrArg AV.bool ?_);first|(simp_all [formedG,kidsG];done)|(simp_all [formedG,kidsG];omega)))
 all_goals (
  simp +contextual (disch:=omega) only[Try.f104,dd104,go_sem,↓reduceIte,List.reduceReplicate,Nat.reduceAdd,Nat.reduceSub,reduceCtorEq,Nat.reduceLeDiff,Nat.reduceMul,Nat.reduceLT,Nat.reduceEqDiff,Int.reduceBNe,Int.reduceBEq,Int.reduceEq,Int.reduceLT,Int.reduceLE,Int.reduceGT,Int.reduceGE,mu104,Nat.reduceBEq,↓wrap_up,↓wrap_down,↓wrap_pred,↓wrap_sub_nat,Int.reduceToNat,h131,h132]
  repeat' (first|intro _|apply And.intro|(unfold dOk;kernel_rfl)|exact St.beq_refl _|(show altO _ _ _ _=true;kernel_rfl)|(show (_ || _)=true;kernel_rfl)|(show (_ && _)=true;kernel_rfl))
  all_goals (clear h131 h132;refine fzEq rfl (congrArg AV.bool ?_);first|(simp_all [formedG,kidsG,repG];done)|(simp_all [formedG,kidsG,repG];omega)))
end
section
attribute [local go_sem] ty0 ty3 ty4 ty24 ty26
open Go.Proofs Go.RowKit Go.IntWalk
set_option maxRecDepth 100000
set_option linter.unusedSimpArgs false
set_option linter.unusedVariables false
set_option maxHeartbeats 8000000
theorem f112:∀(N:Nat) (r:Re),r.wt≤N→r.wt≤1000000→∀ H,call Try.prog pol1 112 [reAV r] H=some (I r.size,H)
 | 0,r,h,_,_=>by have:=r.wt_pos;omega
 | N+1,.mk op set kids mn mx md n neg,h,hN,H=>by
   have hkl:=Re.wtL_len kids
   have hwt:1+set.length+Re.wtL kids=(Re.mk op set kids mn mx md n neg).wt:=by simp[Re.wt]
   have ih:=fun k (hk:k∈kids)=>f112 N k (by have:=Re.wtL_mem hk;omega) (by have:=Re.wtL_mem hk;omega)
   have hsz:=Re.sizeL_wt kids
   rw[show reAV (.mk op set kids mn mx md n neg)=.agg (nodeL op set kids mn mx md n neg) from congrArg AV.agg reC_mk]
   refine call_run Try.func112 rfl rfl rfl rfl rfl rfl (fun _=>rfl) (by simp[AV.plain,AV.plainL,plain_span,plain_kids]) rfl ?_ H
   simp +contextual (disch:=omega) only[Try.f112,dd112,go_sem,↓reduceIte,List.reduceReplicate,Nat.reduceAdd,Nat.reduceSub,reduceCtorEq,Nat.reduceLeDiff,Nat.reduceMul,Nat.reduceLT,Nat.reduceEqDiff,Int.reduceBNe,Int.reduceBEq,Int.reduceEq,Int.reduceLT,Int.reduceLE,Int.reduceGT,Int.reduceGE,mu112,Nat.reduceBEq,↓wrap_up,↓wrap_down,↓wrap_pred,↓wrap_sub_nat,Int.reduceToNat]
   refine W_count (M:=(mskOf (pol1.mask 112) (pol1.gc 112) (pol1.acts 112) 0 3)) rfl kids.length (fun i=>(⟨21,[(4,I i),(3,I ((1+Re.sizeL (kids.take i):Nat):Int)),(1,.rf 0 1 0 0)],[.row 8 [.agg (nodeL op set kids mn mx md n neg)] 0]⟩:St)) (fun _=>True) ?_ ?_ trivial _ (by first|rfl|(refine prep_to (n:=1) (m:=⟨some [4,3,1],some 1,[]⟩) rfl rfl ?_ ?_ ?_<;>first|rfl|(simp[keepT,AV.underL,AV.under,MB.under,underL_plain,under_plain,underL_append,plain_ints,plain_span,plain_ins,plain_prg,-List.map_take,-List.map_replicate,-List.map_set,Re.sizeL,plain_kids];done)|(simp[keepT,AV.underL,AV.under,MB.under,underL_plain,under_plain,underL_append,plain_ints,plain_span,plain_ins,plain_prg,-List.map_take,-List.map_replicate,-List.map_set,Re.sizeL,plain_kids];omega)))
   ·intro i hi _
    obtain⟨k,hk⟩:∃ k,kids[i]?=some k:=⟨_,List.getElem?_eq_getElem hi⟩
    have hkm:=List.mem_of_getElem? hk
    have ihk:=ih k hkm
    have hle:=Re.sizeL_take hk
    have hle2:=Re.sizeL_le (l:=kids) (i:=i+1)
    have hadd:((1+Re.sizeL (kids.take i):Nat):Int)+(k.size:Int)=((1+Re.sizeL (kids.take (i+1)):Nat):Int):=by omega
    have hl8:=reC_len k
    have ht8:=reC_take k
    simp +contextual (disch:=omega) only[Try.f112,dd112,go_sem,↓reduceIte,List.reduceReplicate,Nat.reduceAdd,Nat.reduceSub,reduceCtorEq,Nat.reduceLeDiff,Nat.reduceMul,Nat.reduceLT,Nat.reduceEqDiff,Int.reduceBNe,Int.reduceBEq,Int.reduceEq,Int.reduceLT,Int.reduceLE,Int.reduceGT,Int.reduceGE,mu112,Nat.reduceBEq,↓wrap_up,↓wrap_down,↓wrap_pred,↓wrap_sub_nat,Int.reduceToNat,hk,ihk,hadd,hl8,ht8]
    exact(by first|rfl|(refine prep_to (n:=1) (m:=⟨some [4,3,1],some 1,[]⟩) rfl rfl ?_ ?_ ?_<;>first|rfl|(simp[keepT,AV.underL,AV.under,MB.under,underL_plain,under_plain,underL_append,plain_ints,plain_span,plain_ins,plain_prg,-List.map_take,-List.map_replicate,-List.map_set,plain_kids];done)|(simp[keepT,AV.underL,AV.under,MB.under,underL_plain,under_plain,underL_append,plain_ints,plain_span,plain_ins,plain_prg,-List.map_take,-List.map_replicate,-List.map_set,plain_kids];omega)))
   ·intro _
    rw[List.take_length]
    simp +contextual (disch:=omega) only[Try.f112,dd112,go_sem,↓reduceIte,List.reduceReplicate,Nat.reduceAdd,Nat.reduceSub,reduceCtorEq,Nat.reduceLeDiff,Nat.reduceMul,Nat.reduceLT,Nat.reduceEqDiff,Int.reduceBNe,Int.reduceBEq,Int.reduceEq,Int.reduceLT,Int.reduceLE,Int.reduceGT,Int.reduceGE,mu112,Nat.reduceBEq,↓wrap_up,↓wrap_down,↓wrap_pred,↓wrap_sub_nat,Int.reduceToNat]
    exact fzEq rfl (by simp[Re.size])
theorem f113:∀(N:Nat) (r:Re),r.wt≤N→r.wt≤1000000→∀ H,call Try.prog pol1 113 [reAV r] H=some (I r.depth,H)
 | 0,r,h,_,_=>by have:=r.wt_pos;omega
 | N+1,.mk op set kids mn mx md n neg,h,hN,H=>by
   have hkl:=Re.wtL_len kids
   have hwt:1+set.length+Re.wtL kids=(Re.mk op set kids mn mx md n neg).wt:=by simp[Re.wt]
   have ih:=fun k (hk:k∈kids)=>f113 N k (by have:=Re.wtL_mem hk;omega) (by have:=Re.wtL_mem hk;omega)
   have hsz:=Re.sizeL_wt kids
   have hdz:=Re.depthL_size kids
   rw[show reAV (.mk op set kids mn mx md n neg)=.agg (nodeL op set kids mn mx md n neg) from congrArg AV.agg reC_mk]
   refine call_run Try.func113 rfl rfl rfl rfl rfl rfl (fun _=>rfl) (by simp[AV.plain,AV.plainL,plain_span,plain_kids]) rfl ?_ H
   simp +contextual (disch:=omega) only[Try.f113,dd113,go_sem,↓reduceIte,List.reduceReplicate,Nat.reduceAdd,Nat.reduceSub,reduceCtorEq,Nat.reduceLeDiff,Nat.reduceMul,Nat.reduceLT,Nat.reduceEqDiff,Int.reduceBNe,Int.reduceBEq,Int.reduceEq,Int.reduceLT,Int.reduceLE,Int.reduceGT,Int.reduceGE,mu113,Nat.reduceBEq,↓wrap_up,↓wrap_down,↓wrap_pred,↓wrap_sub_nat,Int.reduceToNat]
   refine W_count (M:=(mskOf (pol1.mask 113) (pol1.gc 113) (pol1.acts 113) 0 3)) rfl kids.length (fun i=>(⟨22,[(4,I i),(3,I ((Re.depthL (kids.take i):Nat):Int)),(1,.rf 0 1 0 0)],[.row 8 [.agg (nodeL op set kids mn mx md n neg)] 0]⟩:St)) (fun _=>True) ?_ ?_ trivial _ (by first|rfl|(refine prep_to (n:=1) (m:=⟨some [4,3,1],some 1,[]⟩) rfl rfl ?_ ?_ ?_<;>first|rfl|(simp[keepT,AV.underL,AV.under,MB.under,underL_plain,under_plain,underL_append,plain_ints,plain_span,plain_ins,plain_prg,-List.map_take,-List.map_replicate,-List.map_set,Re.depthL,plain_kids];done)|(simp[keepT,AV.underL,AV.under,MB.under,underL_plain,under_plain,underL_append,plain_ints,plain_span,plain_ins,plain_prg,-List.map_take,-List.map_replicate,-List.map_set,Re.depthL,plain_kids];omega)))
   ·intro i hi _
    obtain⟨k,hk⟩:∃ k,kids[i]?=some k:=⟨_,List.getElem?_eq_getElem hi⟩
    have hkm:=List.mem_of_getElem? hk
    have ihk:=ih k hkm
    have hle:=Re.depthL_take hk
    have hadd:(if(k.depth:Int) > (Re.depthL (kids.take i):Nat) then(k.depth:Int) else(Re.depthL (kids.take i):Nat))=((Re.depthL (kids.take (i+1)):Nat):Int):=by rw[hle];split<;>omega
    have hl8:=reC_len k
    have ht8:=reC_take k
    simp +contextual (disch:=omega) only[Try.f113,dd113,go_sem,↓reduceIte,List.reduceReplicate,Nat.reduceAdd,Nat.reduceSub,reduceCtorEq,Nat.reduceLeDiff,Nat.reduceMul,Nat.reduceLT,Nat.reduceEqDiff,Int.reduceBNe,Int.reduceBEq,Int.reduceEq,Int.reduceLT,Int.reduceLE,Int.reduceGT,Int.reduceGE,mu113,Nat.reduceBEq,↓wrap_up,↓wrap_down,↓wrap_pred,↓wrap_sub_nat,Int.reduceToNat,hk,ihk,evMax,hadd,hl8,ht8]
    exact(by first|rfl|(refine prep_to (n:=1) (m:=⟨some [4,3,1],some 1,[]⟩) rfl rfl ?_ ?_ ?_<;>first|rfl|(simp[keepT,AV.underL,AV.under,MB.under,underL_plain,under_plain,underL_append,plain_ints,plain_span,plain_ins,plain_prg,-List.map_take,-List.map_replicate,-List.map_set,plain_kids];done)|(simp[keepT,AV.underL,AV.under,MB.under,underL_plain,under_plain,underL_append,plain_ints,plain_span,plain_ins,plain_prg,-List.map_take,-List.map_replicate,-List.map_set,plain_kids];omega)))
   ·intro _
    rw[List.take_length]
    simp +contextual (disch:=omega) only[Try.f113,dd113,go_sem,↓reduceIte,List.reduceReplicate,Nat.reduceAdd,Nat.reduceSub,reduceCtorEq,Nat.reduceLeDiff,Nat.reduceMul,Nat.reduceLT,Nat.reduceEqDiff,Int.reduceBNe,Int.reduceBEq,Int.reduceEq,Int.reduceLT,Int.reduceLE,Int.reduceGT,Int.reduceGE,mu113,Nat.reduceBEq,↓wrap_up,↓wrap_down,↓wrap_pred,↓wrap_sub_nat,Int.reduceToNat]
    exact fzEq rfl (by simp[Re.depth];omega)
end
section
attribute [local go_sem] ty0 ty3 ty4 ty24 ty26
open Go.Proofs Go.RowKit Go.IntWalk
set_option maxRecDepth 100000
set_option linter.unusedSimpArgs false
set_option linter.unusedVariables false
set_option maxHeartbeats 8000000
theorem nullAll_false:∀ {l:List Re} {k:Re},k∈l→nullG k=false→nullAll l=false
 | x::l,k,h,hk=>by
   rcases List.mem_cons.1 h with e|e
   ·rw[← e];simp[nullAll,hk]
   ·simp[nullAll,nullAll_false e hk]
theorem nullAll_true:∀ {l:List Re},(∀(i:Nat) (k:Re),i < l.length→l[i]?=some k→nullG k=true)→nullAll l=true
 | [],_=>by simp[nullAll]
 | x::l,h=>by
   simp only[nullAll,Bool.and_eq_true]
   exact⟨h 0 x (by simp) rfl,nullAll_true fun i k hi hk=>h (i+1) k (by simp;omega) (by simpa using hk)⟩
theorem nullAny_true:∀ {l:List Re} {k:Re},k∈l→nullG k=true→nullAny l=true
 | x::l,k,h,hk=>by
   rcases List.mem_cons.1 h with e|e
   ·rw[← e];simp[nullAny,hk]
   ·simp[nullAny,nullAny_true e hk]
theorem nullAny_false:∀ {l:List Re},(∀(i:Nat) (k:Re),i < l.length→l[i]?=some k→nullG k=false)→nullAny l=false
 | [],_=>by simp[nullAny]
 | x::l,h=>by
   simp only[nullAny,Bool.or_eq_false_iff]
   exact⟨h 0 x (by simp) rfl,nullAny_false fun i k hi hk=>h (i+1) k (by simp;omega) (by simpa using hk)⟩
theorem f20:∀(N:Nat) (r:Re),r.wt≤N→r.wt≤1000000→∀ H,call Try.prog pol1 20 [reAV r] H=some (.bool (nullG r),H)
 | 0,r,h,_,_=>by have:=r.wt_pos;omega
 | N+1,.mk op set kids mn mx md n neg,h,hN,H=>by
   have hkl:=Re.wtL_len kids
   have hwt:1+set.length+Re.wtL kids=(Re.mk op set kids mn mx md n neg).wt:=by simp[Re.wt]
   have ih:=fun k (hk:k∈kids)=>f20 N k (by have:=Re.wtL_mem hk;omega) (by have:=Re.wtL_mem hk;omega)
   rw[show reAV (.mk op set kids mn mx md n neg)=.agg (nodeL op set kids mn mx md n neg) from congrArg AV.agg reC_mk]
   refine call_run Try.func20 rfl rfl rfl rfl rfl rfl (fun _=>rfl) (by simp[AV.plain,AV.plainL,plain_span,plain_kids]) rfl ?_ H
   rw[nullG]
   by_cases h1:op=1
   ·subst h1
    rw[if_pos rfl]
    simp +contextual (disch:=omega) only[Try.f20,dd20,go_sem,↓reduceIte,List.reduceReplicate,Nat.reduceAdd,Nat.reduceSub,reduceCtorEq,Nat.reduceLeDiff,Nat.reduceMul,Nat.reduceLT,Nat.reduceEqDiff,Int.reduceBNe,Int.reduceBEq,Int.reduceEq,Int.reduceLT,Int.reduceLE,Int.reduceGT,Int.reduceGE,mu20,Nat.reduceBEq,↓wrap_up,↓wrap_down,↓wrap_pred,↓wrap_sub_nat,Int.reduceToNat]
    exact fzEq rfl rfl
   rw[if_neg h1]
   by_cases h2:op=2
   ·subst h2
    rw[if_pos rfl]
    simp +contextual (disch:=omega) only[Try.f20,dd20,go_sem,↓reduceIte,List.reduceReplicate,Nat.reduceAdd,Nat.reduceSub,reduceCtorEq,Nat.reduceLeDiff,Nat.reduceMul,Nat.reduceLT,Nat.reduceEqDiff,Int.reduceBNe,Int.reduceBEq,Int.reduceEq,Int.reduceLT,Int.reduceLE,Int.reduceGT,Int.reduceGE,mu20,Nat.reduceBEq,↓wrap_up,↓wrap_down,↓wrap_pred,↓wrap_sub_nat,Int.reduceToNat]
    refine W_count (M:=(mskOf (pol1.mask 20) (pol1.gc 20) (pol1.acts 20) 0 6)) rfl kids.length (fun i=>(⟨73,[(3,I i),(1,.rf 0 1 0 0)],[.row 8 [.agg (nodeL 2 set kids mn mx md n neg)] 0]⟩:St)) (fun i=>∀ j k,j < i→kids[j]?=some k→nullG k=true) ?_ ?_ (fun j k h=>by omega) _ (by first|rfl|(refine prep_to (n:=1) (m:=⟨some [3,1],some 1,[]⟩) rfl rfl ?_ ?_ ?_<;>first|rfl|(simp[keepT,AV.underL,AV.under,MB.under,underL_plain,under_plain,underL_append,plain_ints,plain_span,plain_ins,plain_prg,-List.map_take,-List.map_replicate,-List.map_set,plain_kids];done)|(simp[keepT,AV.underL,AV.under,MB.under,underL_plain,under_plain,underL_append,plain_ints,plain_span,plain_ins,plain_prg,-List.map_take,-List.map_replicate,-List.map_set,plain_kids];omega)))
    ·intro i hi hg
     obtain⟨k,hk⟩:∃ k,kids[i]?=some k:=⟨_,List.getElem?_eq_getElem hi⟩
     have ihk:=ih k (List.mem_of_getElem? hk)
     have hl8:=reC_len k
     have ht8:=reC_take k
     cases hn:nullG k with
     | false=>
       rw[hn]at ihk
       rw[nullAll_false (List.mem_of_getElem? hk) hn]
       simp +contextual (disch:=omega) only[Try.f20,dd20,go_sem,↓reduceIte,List.reduceReplicate,Nat.reduceAdd,Nat.reduceSub,reduceCtorEq,Nat.reduceLeDiff,Nat.reduceMul,Nat.reduceLT,Nat.reduceEqDiff,Int.reduceBNe,Int.reduceBEq,Int.reduceEq,Int.reduceLT,Int.reduceLE,Int.reduceGT,Int.reduceGE,mu20,Nat.reduceBEq,↓wrap_up,↓wrap_down,↓wrap_pred,↓wrap_sub_nat,Int.reduceToNat,hk,ihk,hl8,ht8]
       exact fzEq rfl rfl
     | true=>
       rw[hn]at ihk
       simp +contextual (disch:=omega) only[Try.f20,dd20,go_sem,↓reduceIte,List.reduceReplicate,Nat.reduceAdd,Nat.reduceSub,reduceCtorEq,Nat.reduceLeDiff,Nat.reduceMul,Nat.reduceLT,Nat.reduceEqDiff,Int.reduceBNe,Int.reduceBEq,Int.reduceEq,Int.reduceLT,Int.reduceLE,Int.reduceGT,Int.reduceGE,mu20,Nat.reduceBEq,↓wrap_up,↓wrap_down,↓wrap_pred,↓wrap_sub_nat,Int.reduceToNat,hk,ihk,hl8,ht8]
       refine⟨fun j q hj hq=>?_,(by first|rfl|(refine prep_to (n:=1) (m:=⟨some [3,1],some 1,[]⟩) rfl rfl ?_ ?_ ?_<;>first|rfl|(simp[keepT,AV.underL,AV.under,MB.under,underL_plain,under_plain,underL_append,plain_ints,plain_span,plain_ins,plain_prg,-List.map_take,-List.map_replicate,-List.map_set,plain_kids];done)|(simp[keepT,AV.underL,AV.under,MB.under,underL_plain,under_plain,underL_append,plain_ints,plain_span,plain_ins,plain_prg,-List.map_take,-List.map_replicate,-List.map_set,plain_kids];omega)))⟩
       rcases Nat.lt_or_ge j i with h|h
       ·exact hg j q h hq
       ·obtain rfl:j=i:=by omega
        rw[hk]at hq;obtain rfl:=Option.some.inj hq
        exact hn
    ·intro hg
     rw[nullAll_true fun j k hj hk=>hg j k hj hk]
     simp +contextual (disch:=omega) only[Try.f20,dd20,go_sem,↓reduceIte,List.reduceReplicate,Nat.reduceAdd,Nat.reduceSub,reduceCtorEq,Nat.reduceLeDiff,Nat.reduceMul,Nat.reduceLT,Nat.reduceEqDiff,Int.reduceBNe,Int.reduceBEq,Int.reduceEq,Int.reduceLT,Int.reduceLE,Int.reduceGT,Int.reduceGE,mu20,Nat.reduceBEq,↓wrap_up,↓wrap_down,↓wrap_pred,↓wrap_sub_nat,Int.reduceToNat]
     exact fzEq rfl rfl
   rw[if_neg h2]
   by_cases h3:op=3∨op=10
   ·rw[if_pos h3]
    rcases h3 with rfl|rfl
    all_goals (
     simp +contextual (disch:=omega) only[Try.f20,dd20,go_sem,↓reduceIte,List.reduceReplicate,Nat.reduceAdd,Nat.reduceSub,reduceCtorEq,Nat.reduceLeDiff,Nat.reduceMul,Nat.reduceLT,Nat.reduceEqDiff,Int.reduceBNe,Int.reduceBEq,Int.reduceEq,Int.reduceLT,Int.reduceLE,Int.reduceGT,Int.reduceGE,mu20,Nat.reduceBEq,↓wrap_up,↓wrap_down,↓wrap_pred,↓wrap_sub_nat,Int.reduceToNat]
     refine W_count (M:=(mskOf (pol1.mask 20) (pol1.gc 20) (pol1.acts 20) 0 14)) rfl kids.length (fun i=>(⟨73,[(4,I i),(1,.rf 0 1 0 0)],[.row 8 [.agg (nodeL _ set kids mn mx md n neg)] 0]⟩:St)) (fun i=>∀ j k,j < i→kids[j]?=some k→nullG k=false) ?_ ?_ (fun j k h=>by omega) _ (by first|rfl|(refine prep_to (n:=1) (m:=⟨some [4,1],some 1,[]⟩) rfl rfl ?_ ?_ ?_<;>first|rfl|(simp[keepT,AV.underL,AV.under,MB.under,underL_plain,under_plain,underL_append,plain_ints,plain_span,plain_ins,plain_prg,-List.map_take,-List.map_replicate,-List.map_set,plain_kids];done)|(simp[keepT,AV.underL,AV.under,MB.under,underL_plain,under_plain,underL_append,plain_ints,plain_span,plain_ins,plain_prg,-List.map_take,-List.map_replicate,-List.map_set,plain_kids];omega)))
     ·intro i hi hg
      obtain⟨k,hk⟩:∃ k,kids[i]?=some k:=⟨_,List.getElem?_eq_getElem hi⟩
      have ihk:=ih k (List.mem_of_getElem? hk)
      have hl8:=reC_len k
      have ht8:=reC_take k
      cases hn:nullG k with
      | true=>
        rw[hn]at ihk
        rw[nullAny_true (List.mem_of_getElem? hk) hn]
        simp +contextual (disch:=omega) only[Try.f20,dd20,go_sem,↓reduceIte,List.reduceReplicate,Nat.reduceAdd,Nat.reduceSub,reduceCtorEq,Nat.reduceLeDiff,Nat.reduceMul,Nat.reduceLT,Nat.reduceEqDiff,Int.reduceBNe,Int.reduceBEq,Int.reduceEq,Int.reduceLT,Int.reduceLE,Int.reduceGT,Int.reduceGE,mu20,Nat.reduceBEq,↓wrap_up,↓wrap_down,↓wrap_pred,↓wrap_sub_nat,Int.reduceToNat,hk,ihk,hl8,ht8]
        exact fzEq rfl rfl
      | false=>
        rw[hn]at ihk
        simp +contextual (disch:=omega) only[Try.f20,dd20,go_sem,↓reduceIte,List.reduceReplicate,Nat.reduceAdd,Nat.reduceSub,reduceCtorEq,Nat.reduceLeDiff,Nat.reduceMul,Nat.reduceLT,Nat.reduceEqDiff,Int.reduceBNe,Int.reduceBEq,Int.reduceEq,Int.reduceLT,Int.reduceLE,Int.reduceGT,Int.reduceGE,mu20,Nat.reduceBEq,↓wrap_up,↓wrap_down,↓wrap_pred,↓wrap_sub_nat,Int.reduceToNat,hk,ihk,hl8,ht8]
        refine⟨fun j q hj hq=>?_,(by first|rfl|(refine prep_to (n:=1) (m:=⟨some [4,1],some 1,[]⟩) rfl rfl ?_ ?_ ?_<;>first|rfl|(simp[keepT,AV.underL,AV.under,MB.under,underL_plain,under_plain,underL_append,plain_ints,plain_span,plain_ins,plain_prg,-List.map_take,-List.map_replicate,-List.map_set,plain_kids];done)|(simp[keepT,AV.underL,AV.under,MB.under,underL_plain,under_plain,underL_append,plain_ints,plain_span,plain_ins,plain_prg,-List.map_take,-List.map_replicate,-List.map_set,plain_kids];omega)))⟩
        rcases Nat.lt_or_ge j i with h|h
        ·exact hg j q h hq
        ·obtain rfl:j=i:=by omega
         rw[hk]at hq;obtain rfl:=Option.some.inj hq
         exact hn
     ·intro hg
      rw[nullAny_false fun j k hj hk=>hg j k hj hk]
      simp +contextual (disch:=omega) only[Try.f20,dd20,go_sem,↓reduceIte,List.reduceReplicate,Nat.reduceAdd,Nat.reduceSub,reduceCtorEq,Nat.reduceLeDiff,Nat.reduceMul,Nat.reduceLT,Nat.reduceEqDiff,Int.reduceBNe,Int.reduceBEq,Int.reduceEq,Int.reduceLT,Int.reduceLE,Int.reduceGT,Int.reduceGE,mu20,Nat.reduceBEq,↓wrap_up,↓wrap_down,↓wrap_pred,↓wrap_sub_nat,Int.reduceToNat]
      exact fzEq rfl rfl)
   rw[if_neg h3]
   by_cases h4:op=4
   ·subst h4
    rw[if_pos rfl]
    by_cases hm:mn≤0
    ·simp +contextual (disch:=omega) only[Try.f20,dd20,go_sem,↓reduceIte,List.reduceReplicate,Nat.reduceAdd,Nat.reduceSub,reduceCtorEq,Nat.reduceLeDiff,Nat.reduceMul,Nat.reduceLT,Nat.reduceEqDiff,Int.reduceBNe,Int.reduceBEq,Int.reduceEq,Int.reduceLT,Int.reduceLE,Int.reduceGT,Int.reduceGE,mu20,Nat.reduceBEq,↓wrap_up,↓wrap_down,↓wrap_pred,↓wrap_sub_nat,Int.reduceToNat]
     exact fzEq rfl (by simp[hm])
    ·cases kids with
     | nil=>
       simp +contextual (disch:=omega) only[Try.f20,dd20,go_sem,↓reduceIte,List.reduceReplicate,Nat.reduceAdd,Nat.reduceSub,reduceCtorEq,Nat.reduceLeDiff,Nat.reduceMul,Nat.reduceLT,Nat.reduceEqDiff,Int.reduceBNe,Int.reduceBEq,Int.reduceEq,Int.reduceLT,Int.reduceLE,Int.reduceGT,Int.reduceGE,mu20,Nat.reduceBEq,↓wrap_up,↓wrap_down,↓wrap_pred,↓wrap_sub_nat,Int.reduceToNat]
       exact fzEq rfl (by simp[hm,nullHd])
     | cons k ks=>
       have ihk:=ih k (List.mem_cons_self ..)
       have hl8:=reC_len k
       have ht8:=reC_take k
       simp only[List.length_cons]at hkl
       simp +contextual (disch:=omega) only[Try.f20,dd20,go_sem,↓reduceIte,List.reduceReplicate,Nat.reduceAdd,Nat.reduceSub,reduceCtorEq,Nat.reduceLeDiff,Nat.reduceMul,Nat.reduceLT,Nat.reduceEqDiff,Int.reduceBNe,Int.reduceBEq,Int.reduceEq,Int.reduceLT,Int.reduceLE,Int.reduceGT,Int.reduceGE,mu20,Nat.reduceBEq,↓wrap_up,↓wrap_down,↓wrap_pred,↓wrap_sub_nat,Int.reduceToNat,ihk,hl8,ht8]
       exact fzEq rfl (by simp[hm,nullHd])
   rw[if_neg h4]
   by_cases h5:op=5∨op=9
   ·rw[if_pos h5]
    rcases h5 with rfl|rfl
    all_goals (
     cases kids with
     | nil=>
       simp +contextual (disch:=omega) only[Try.f20,dd20,go_sem,↓reduceIte,List.reduceReplicate,Nat.reduceAdd,Nat.reduceSub,reduceCtorEq,Nat.reduceLeDiff,Nat.reduceMul,Nat.reduceLT,Nat.reduceEqDiff,Int.reduceBNe,Int.reduceBEq,Int.reduceEq,Int.reduceLT,Int.reduceLE,Int.reduceGT,Int.reduceGE,mu20,Nat.reduceBEq,↓wrap_up,↓wrap_down,↓wrap_pred,↓wrap_sub_nat,Int.reduceToNat]
       exact fzEq rfl (by simp[nullHd])
     | cons k ks=>
       have ihk:=ih k (List.mem_cons_self ..)
       have hl8:=reC_len k
       have ht8:=reC_take k
       simp only[List.length_cons]at hkl
       simp +contextual (disch:=omega) only[Try.f20,dd20,go_sem,↓reduceIte,List.reduceReplicate,Nat.reduceAdd,Nat.reduceSub,reduceCtorEq,Nat.reduceLeDiff,Nat.reduceMul,Nat.reduceLT,Nat.reduceEqDiff,Int.reduceBNe,Int.reduceBEq,Int.reduceEq,Int.reduceLT,Int.reduceLE,Int.reduceGT,Int.reduceGE,mu20,Nat.reduceBEq,↓wrap_up,↓wrap_down,↓wrap_pred,↓wrap_sub_nat,Int.reduceToNat,ihk,hl8,ht8]
       exact fzEq rfl (by simp[nullHd]))
   rw[if_neg h5]
   simp +contextual (disch:=omega) only[Try.f20,dd20,go_sem,↓reduceIte,List.reduceReplicate,Nat.reduceAdd,Nat.reduceSub,reduceCtorEq,Nat.reduceLeDiff,Nat.reduceMul,Nat.reduceLT,Nat.reduceEqDiff,Int.reduceBNe,Int.reduceBEq,Int.reduceEq,Int.reduceLT,Int.reduceLE,Int.reduceGT,Int.reduceGE,mu20,Nat.reduceBEq,↓wrap_up,↓wrap_down,↓wrap_pred,↓wrap_sub_nat,Int.reduceToNat]
   exact fzEq rfl rfl
end
section
attribute [local go_sem] ty0 ty3 ty4 ty24 ty26 ty100 ty137
open Go.Proofs Go.RowKit Go.IntWalk
set_option maxRecDepth 100000
set_option linter.unusedSimpArgs false
set_option linter.unusedVariables false
set_option maxHeartbeats 8000000
theorem whole_facts {caps top op:Int} {set:List (Int×Int)} {kids:List Re} {mn mx md n:Int} {neg:Bool} (h:wholeG caps top (.mk op set kids mn mx md n neg)=true) :
 (∀ k∈kids,wholeG caps top k=true)∧kidsG op kids.length=true∧(op=4→repG mn mx md=true)∧(op=5∨op=6∨op=10→1≤n∧n≤caps)∧0≤op∧op≤11:=by
 rw[wholeG,Bool.and_eq_true,wholeL_iff]at h
 obtain⟨h1,h2⟩:=h
 simp only[formedG,Bool.and_eq_true,decide_eq_true_eq]at h1
 obtain⟨⟨⟨⟨⟨⟨a1,a2⟩,a3⟩,a4⟩,a5⟩,a6⟩,a7⟩:=h1
 refine⟨h2,a3,fun e=>?_,fun e=>?_,a1,a2⟩
 ·rw[if_pos e]at a5;exact a5
 ·rw[if_pos e]at a6;simpa using a6
theorem f133 (b0:MB) (caps top:Int):∀(N:Nat) (r:Re),r.wt≤N→r.wt≤1000000→wholeG caps top r=true→call Try.prog pol1 133 [.pt (reC r),.rf 1 1 0 0] [b0,.row 1 [.clo 133 [.rf 1 1 0 0]] 0]=some (.bool (nullG r),[b0,.row 1 [.clo 133 [.rf 1 1 0 0]] 0])
 | 0,r,h,_,_=>by have:=r.wt_pos;omega
 | N+1,.mk op set kids mn mx md n neg,h,hN,hw=>by
   have hkl:=Re.wtL_len kids
   have hwt:1+set.length+Re.wtL kids=(Re.mk op set kids mn mx md n neg).wt:=by simp[Re.wt]
   obtain⟨hwk,hkd,hrp,_,ho1,ho2⟩:=whole_facts hw
   have ih:=fun k (hk:k∈kids)=>f133 b0 caps top N k (by have:=Re.wtL_mem hk;omega) (by have:=Re.wtL_mem hk;omega) (hwk k hk)
   rw[show (.pt (reC (.mk op set kids mn mx md n neg)):AV)=.pt (nodeL op set kids mn mx md n neg) from congrArg AV.pt reC_mk]
   have fr:frzArgs pol1 133 0 [.pt (nodeL op set kids mn mx md n neg),.rf 1 1 0 0] [b0,.row 1 [.clo 133 [.rf 1 1 0 0]] 0]=some ([.pt (nodeL op set kids mn mx md n neg),.rf 1 1 0 0],[b0,.row 1 [.clo 133 [.rf 1 1 0 0]] 0]):=
    frzArgs_mix _ _ _ (by simp[mixOk,show pol1.byref 133 1=true from rfl,AV.plain,AV.plainL,plain_span,plain_kids])
   have rt:∀ x:Bool,retPol pol1 133 [b0,.row 1 [.clo 133 [.rf 1 1 0 0]] 0] (.bool x) [b0,.row 1 [.clo 133 [.rf 1 1 0 0]] 0]=some (.bool x,[b0,.row 1 [.clo 133 [.rf 1 1 0 0]] 0]):=fun x=>
    retPol_keep rfl rfl rfl (by simp[keptOk,MB.beq_refl]) rfl
   refine call_run2 (pol:=pol1) Try.func133 rfl rfl rfl rfl fr ?_
   have any:∀ r':Bool,r' = nullAny kids→∀ i,i < kids.length→∀ k,kids[i]?=some k→(∀ j q,j < i→kids[j]?=some q→nullG q=false)→nullG k=true→r' = true:=fun r' hr i _ k hk _ hn=>by rw[hr,nullAny_true (List.mem_of_getElem? hk) hn]
   have hop:op=0∨op=1∨op=2∨op=3∨op=4∨op=5∨op=6∨op=7∨op=8∨op=9∨op=10∨op=11:=by omega
   have hone:op=4∨op=5∨op=9→nullHd kids=nullAny kids:=fun e=>by
    have:kids.length=1:=by rcases e with rfl|rfl|rfl<;>simpa [kidsG] using hkd
    match kids,this with
    | [k],_=>simp[nullHd,nullAny]
   by_cases hloop:op=3∨op=10∨op=5∨op=9∨(op=4∧mn≠0)
   ·have hres:nullG (.mk op set kids mn mx md n neg)=nullAny kids:=by
     rw[nullG]
     rcases hloop with rfl|rfl|rfl|rfl|⟨rfl,hmn⟩
     ·simp
     ·simp
     ·simp[hone (.inr (.inl rfl))]
     ·simp[hone (.inr (.inr rfl))]
     ·have hr:=hrp rfl
      simp only[repG,Bool.and_eq_true,decide_eq_true_eq]at hr
      have:¬ mn≤0:=by omega
      simp[hone (.inl rfl),this]
    rw[hres]
    clear hres hone any
    rcases hloop with rfl|rfl|rfl|rfl|⟨rfl,hmn⟩
    all_goals (
     simp +contextual (disch:=omega) only[Try.f133,dd133,go_sem,↓reduceIte,List.reduceReplicate,Nat.reduceAdd,Nat.reduceSub,reduceCtorEq,Nat.reduceLeDiff,Nat.reduceMul,Nat.reduceLT,Nat.reduceEqDiff,Int.reduceBNe,Int.reduceBEq,Int.reduceEq,Int.reduceLT,Int.reduceLE,Int.reduceGT,Int.reduceGE,mu133,Nat.reduceBEq,↓wrap_up,↓wrap_down,↓wrap_pred,↓wrap_sub_nat,Int.reduceToNat]
     refine W_count (M:=(mskOf (pol1.mask 133) (pol1.gc 133) (pol1.acts 133) 0 25)) rfl kids.length (fun i=>(⟨65,[(53,I i),(52,I kids.length),(1,.rf 1 1 0 0),(0,.pt (nodeL _ set kids mn mx md n neg))],[b0,.row 1 [.clo 133 [.rf 1 1 0 0]] 0]⟩:St)) (fun i=>∀ j k,j < i→kids[j]?=some k→nullG k=false) ?_ ?_ (fun j k h=>by omega) _ rfl
     ·intro i hi hg
      obtain⟨k,hk⟩:∃ k,kids[i]?=some k:=⟨_,List.getElem?_eq_getElem hi⟩
      have ihk:=ih k (List.mem_of_getElem? hk)
      have hl8:=reC_len k
      have ht8:=reC_take k
      cases hn:nullG k with
      | true=>
        rw[hn]at ihk
        rw[nullAny_true (List.mem_of_getElem? hk) hn]
        simp +contextual (disch:=omega) only[Try.f133,dd133,go_sem,↓reduceIte,List.reduceReplicate,Nat.reduceAdd,Nat.reduceSub,reduceCtorEq,Nat.reduceLeDiff,Nat.reduceMul,Nat.reduceLT,Nat.reduceEqDiff,Int.reduceBNe,Int.reduceBEq,Int.reduceEq,Int.reduceLT,Int.reduceLE,Int.reduceGT,Int.reduceGE,mu133,Nat.reduceBEq,↓wrap_up,↓wrap_down,↓wrap_pred,↓wrap_sub_nat,Int.reduceToNat,hk,ihk,hl8,ht8,rt]
        repeat' (first|intro _|apply And.intro|(unfold dOk;kernel_rfl)|exact St.beq_refl _|(show altO _ _ _ _=true;kernel_rfl)|(show (_ || _)=true;kernel_rfl)|(show (_ && _)=true;kernel_rfl))
      | false=>
        rw[hn]at ihk
        simp +contextual (disch:=omega) only[Try.f133,dd133,go_sem,↓reduceIte,List.reduceReplicate,Nat.reduceAdd,Nat.reduceSub,reduceCtorEq,Nat.reduceLeDiff,Nat.reduceMul,Nat.reduceLT,Nat.reduceEqDiff,Int.reduceBNe,Int.reduceBEq,Int.reduceEq,Int.reduceLT,Int.reduceLE,Int.reduceGT,Int.reduceGE,mu133,Nat.reduceBEq,↓wrap_up,↓wrap_down,↓wrap_pred,↓wrap_sub_nat,Int.reduceToNat,hk,ihk,hl8,ht8]
        repeat' (first|intro _|apply And.intro|(unfold dOk;kernel_rfl)|exact St.beq_refl _|(show altO _ _ _ _=true;kernel_rfl)|(show (_ || _)=true;kernel_rfl)|(show (_ && _)=true;kernel_rfl))
        ·rename_i j q hj hq
         rcases Nat.lt_or_ge j i with h|h
         ·exact hg j q h hq
         ·obtain rfl:j=i:=by omega
          rw[hk]at hq;obtain rfl:=Option.some.inj hq
          exact hn
        ·rfl
     ·intro hg
      rw[nullAny_false fun j k hj hk=>hg j k hj hk]
      simp +contextual (disch:=omega) only[Try.f133,dd133,go_sem,↓reduceIte,List.reduceReplicate,Nat.reduceAdd,Nat.reduceSub,reduceCtorEq,Nat.reduceLeDiff,Nat.reduceMul,Nat.reduceLT,Nat.reduceEqDiff,Int.reduceBNe,Int.reduceBEq,Int.reduceEq,Int.reduceLT,Int.reduceLE,Int.reduceGT,Int.reduceGE,mu133,Nat.reduceBEq,↓wrap_up,↓wrap_down,↓wrap_pred,↓wrap_sub_nat,Int.reduceToNat,rt])
   ·clear any hone
    have hop:op=2∨op=1∨(op=4∧mn=0)∨op=0∨op=6∨op=7∨op=8∨op=11:=by omega
    clear hloop
    rcases hop with rfl|hop
    ·rw[nullG,if_neg (by omega),if_pos rfl]
     simp +contextual (disch:=omega) only[Try.f133,dd133,go_sem,↓reduceIte,List.reduceReplicate,Nat.reduceAdd,Nat.reduceSub,reduceCtorEq,Nat.reduceLeDiff,Nat.reduceMul,Nat.reduceLT,Nat.reduceEqDiff,Int.reduceBNe,Int.reduceBEq,Int.reduceEq,Int.reduceLT,Int.reduceLE,Int.reduceGT,Int.reduceGE,mu133,Nat.reduceBEq,↓wrap_up,↓wrap_down,↓wrap_pred,↓wrap_sub_nat,Int.reduceToNat]
     refine W_count (M:=(mskOf (pol1.mask 133) (pol1.gc 133) (pol1.acts 133) 0 11)) rfl kids.length (fun i=>(⟨65,[(23,I i),(22,I kids.length),(1,.rf 1 1 0 0),(0,.pt (nodeL _ set kids mn mx md n neg))],[b0,.row 1 [.clo 133 [.rf 1 1 0 0]] 0]⟩:St)) (fun i=>∀ j k,j < i→kids[j]?=some k→nullG k=true) ?_ ?_ (fun j k h=>by omega) _ rfl
     ·intro i hi hg
      obtain⟨k,hk⟩:∃ k,kids[i]?=some k:=⟨_,List.getElem?_eq_getElem hi⟩
      have ihk:=ih k (List.mem_of_getElem? hk)
      have hl8:=reC_len k
      have ht8:=reC_take k
      cases hn:nullG k with
      | false=>
        rw[hn]at ihk
        rw[nullAll_false (List.mem_of_getElem? hk) hn]
        simp +contextual (disch:=omega) only[Try.f133,dd133,go_sem,↓reduceIte,List.reduceReplicate,Nat.reduceAdd,Nat.reduceSub,reduceCtorEq,Nat.reduceLeDiff,Nat.reduceMul,Nat.reduceLT,Nat.reduceEqDiff,Int.reduceBNe,Int.reduceBEq,Int.reduceEq,Int.reduceLT,Int.reduceLE,Int.reduceGT,Int.reduceGE,mu133,Nat.reduceBEq,↓wrap_up,↓wrap_down,↓wrap_pred,↓wrap_sub_nat,Int.reduceToNat,hk,ihk,hl8,ht8,rt]
        repeat' (first|intro _|apply And.intro|(unfold dOk;kernel_rfl)|exact St.beq_refl _|(show altO _ _ _ _=true;kernel_rfl)|(show (_ || _)=true;kernel_rfl)|(show (_ && _)=true;kernel_rfl))
      | true=>
        rw[hn]at ihk
        simp +contextual (disch:=omega) only[Try.f133,dd133,go_sem,↓reduceIte,List.reduceReplicate,Nat.reduceAdd,Nat.reduceSub,reduceCtorEq,Nat.reduceLeDiff,Nat.reduceMul,Nat.reduceLT,Nat.reduceEqDiff,Int.reduceBNe,Int.reduceBEq,Int.reduceEq,Int.reduceLT,Int.reduceLE,Int.reduceGT,Int.reduceGE,mu133,Nat.reduceBEq,↓wrap_up,↓wrap_down,↓wrap_pred,↓wrap_sub_nat,Int.reduceToNat,hk,ihk,hl8,ht8]
        repeat' (first|intro _|apply And.intro|(unfold dOk;kernel_rfl)|exact St.beq_refl _|(show altO _ _ _ _=true;kernel_rfl)|(show (_ || _)=true;kernel_rfl)|(show (_ && _)=true;kernel_rfl))
        ·rename_i j q hj hq
         rcases Nat.lt_or_ge j i with h|h
         ·exact hg j q h hq
         ·obtain rfl:j=i:=by omega
          rw[hk]at hq;obtain rfl:=Option.some.inj hq
          exact hn
        ·rfl
     ·intro hg
      rw[nullAll_true fun j k hj hk=>hg j k hj hk]
      simp +contextual (disch:=omega) only[Try.f133,dd133,go_sem,↓reduceIte,List.reduceReplicate,Nat.reduceAdd,Nat.reduceSub,reduceCtorEq,Nat.reduceLeDiff,Nat.reduceMul,Nat.reduceLT,Nat.reduceEqDiff,Int.reduceBNe,Int.reduceBEq,Int.reduceEq,Int.reduceLT,Int.reduceLE,Int.reduceGT,Int.reduceGE,mu133,Nat.reduceBEq,↓wrap_up,↓wrap_down,↓wrap_pred,↓wrap_sub_nat,Int.reduceToNat,rt]
    ·have hres:nullG (.mk op set kids mn mx md n neg)=(if op=1 then false else true):=by
      rw[nullG]
      rcases hop with rfl|⟨rfl,rfl⟩|rfl|rfl|rfl|rfl|rfl<;>simp
     rw[hres]
     rcases hop with rfl|⟨rfl,rfl⟩|rfl|rfl|rfl|rfl|rfl
     all_goals (
      first|rw[if_pos rfl]|rw[if_neg (by omega)]
      simp +contextual (disch:=omega) only[Try.f133,dd133,go_sem,↓reduceIte,List.reduceReplicate,Nat.reduceAdd,Nat.reduceSub,reduceCtorEq,Nat.reduceLeDiff,Nat.reduceMul,Nat.reduceLT,Nat.reduceEqDiff,Int.reduceBNe,Int.reduceBEq,Int.reduceEq,Int.reduceLT,Int.reduceLE,Int.reduceGT,Int.reduceGE,mu133,Nat.reduceBEq,↓wrap_up,↓wrap_down,↓wrap_pred,↓wrap_sub_nat,Int.reduceToNat,rt])
theorem f105 (r:Re) (hN:r.wt≤1000000) (caps top:Int) (hw:wholeG caps top r=true) (H:List MB):call Try.prog pol1 105 [reAV r] H=some (.bool (nullG r),H):=by
 refine call_run Try.func105 rfl rfl rfl rfl rfl rfl (fun _=>rfl) (by simp[AV.plain,AV.plainL,plain_reC]) rfl ?_ H
 have hz:fz (.rf 0 1 0 0) [.row 8 [.agg (reC r)] 0]=some (.pt (reC r),[.row 8 [.agg (reC r)] 1]):=fz_rf (x:=.agg (reC r)) (k:=8) (z:=0) rfl rfl rfl (plain_reC r)
 have hc:=fun b0=>f133 b0 caps top r.wt r (Nat.le_refl _) hN hw
 have hl8:=reC_len r
 have hal:=reC_ok r
 simp +contextual (disch:=omega) only[Try.f105,dd105,go_sem,↓reduceIte,List.reduceReplicate,Nat.reduceAdd,Nat.reduceSub,reduceCtorEq,Nat.reduceLeDiff,Nat.reduceMul,Nat.reduceLT,Nat.reduceEqDiff,Int.reduceBNe,Int.reduceBEq,Int.reduceEq,Int.reduceLT,Int.reduceLE,Int.reduceGT,Int.reduceGE,mu105,Nat.reduceBEq,↓wrap_up,↓wrap_down,↓wrap_pred,↓wrap_sub_nat,Int.reduceToNat,hl8,hz,hc,hal,lookD,look]
 exact fzEq rfl rfl
end
end Go.Ev
