/- Functions of the program, each with what it computes; no further conditions. -/
import Derived.Test.YtjgmfjneajcbmaaA10
import Derived.Test.YtjgmfjneajcbmaaA09
import Derived.Test.YtjgmfjneajcbmaaA06
import Derived.Test.YtjgmfjneajcbmaaA11
set_option linter.unusedVariables false
set_option linter.unusedSimpArgs false
namespace Go.Ev
open Go.Proofs Go.RowKit Go.IntWalk
set_option maxRecDepth 100000
set_option maxHeartbeats 4000000
def aroundI (n m:Int):Int:=(if n < 0 then - (n+1) else n) % m
def In64 (n:Int):Prop:=-9223372036854775808≤n∧n≤9223372036854775807
theorem around_lt {n m:Int} (h:0 < m):0≤aroundI n m∧aroundI n m < m:=by
 unfold aroundI
 have:0≤(if n < 0 then - (n+1) else n):=by split<;>omega
 exact⟨Int.emod_nonneg _ (by omega),Int.emod_lt_of_pos _ h⟩
theorem f12 (n m:Int) (hn:In64 n) (hm:m≠0) (H:List MB):call Try.prog pol1 18 [.int .i64 n,.int .i64 m] H=some (I (aroundI n m),H):=by
 obtain⟨h1,h2⟩:=hn
 refine call_run Try.func18 rfl rfl rfl rfl rfl rfl (fun _=>rfl) (by simp[AV.plain,AV.plainL,plain_ints,plain_span,plain_ins,plain_prg]) (by simp[AV.plain,AV.plainL,plain_ints,plain_span,plain_ins,plain_prg]) ?_ H
 simp +contextual (disch:=omega) only[Try.f18,dd18,ty3,ty4,↓reduceIte,eq_self,bindW_some,bindW_map,bindW_ite,bindW_iteN,W_seq,W_region,W_draw,W_cond,W_condK,W_ret,W_skip,W_exit,W_scope,W_label,W_block,blockK_norm,blockK_ret,blockK_exit,WO_nil,WO_cons,WO_guard,WD_nil,WD_cons,WD_guard,guardV,guardW_boolT,guardW_boolF,guardW_tup,fpL_some,fpL_none,footprint,footprint0,fineF,thenK_norm,thenK_ret,thenK_exit,put_some,put_none,ev_tmp,ev_con,ev_func,ofK_int,ofK_bool,ofK_str,ofK_nil,ofK_agg,ofC_int,ofC_bool,ofC_str,ofC_nil,ofC_nilp,one_int,one_bool,one_str,one_nil,one_nilp,evOp,evBuiltin,evCall,evLen,evAppend,getElem_16,getElem_4,List.length_cons,List.length_nil,List.reduceReplicate,Nat.reduceAdd,Nat.reduceSub,List.cons_append,List.nil_append,List.append_nil,if_false,if_true,Bool.false_eq_true,Bool.true_eq_false,reduceCtorEq,Option.map_some,Option.map_none,List.map_cons,List.map_nil,evBinOp,evBin,evUn,asB_bool,splitB_decide,splitB_true,splitB_false,splitB_beq,splitB_bne,splitB_not,endK_ret,endK_norm,List.getElem?_cons_zero,List.getElem?_cons_succ,evResults,evResult,packRes,retK_norm,retK_ret,cellsAt,mkVal,evFieldAddr,evField,evIndexAddr,evPart,evStore,evBuild,evBuildSlice,fillC,fillE,evSlice,evMakeSlice,evConvert,getRow,AV.cells,List.head?_cons,List.drop_zero,List.drop_succ_cons,List.take_zero,List.take_succ_cons,List.drop_nil,List.take_nil,List.all_cons,List.all_nil,AV.ok,Bool.and_self,Bool.and_true,Bool.true_and,and_self,and_true,true_and,Nat.reduceLeDiff,Nat.reduceMul,Nat.reduceLT,Nat.reduceEqDiff,Nat.zero_add,Nat.add_zero,setCells,splice,pairsOk,pairsX,altW_none,altW_some,cfg_al,WI_nil,WI_cons,FP.apart,heapEq_refl,sameAt_refl,Bool.or_true,Bool.true_or,Bool.or_false,srcElems,elemsOf,mutDst,indDst,thwDst,evLenH,evMapUpd,evLookup,getMp,keyOk,resOk,strOf,roundK_norm,roundK_exit,roundK_ret,List.length_map,List.getElem?_map,Int.toNat_natCast,Int.reduceBNe,Int.reduceBEq,decide_true,decide_false,Bool.not_true,Bool.not_false,List.set,set_0,set_1,set_2,set_3,set_4,look_hit,look,lookD_hit,lookD_cons,lookD_nil,ins_hit,ins,upd_hit,upd,rem1_hit,rem1,dropT,dropSt_eq,initT,cfg_dd,cfg_bd,cfg_ra,actL_nil,actL_cons,act1,updT_hit,updT,frzB,mu18,List.contains_nil,List.contains_cons,Nat.reduceBEq,Bool.or_self,dlt_t,dlt_f,dle_t,dle_f,dgt_t,dgt_f,dge_t,dge_f,beq_t,beq_f,bne_t,bne_f,lt_T,le_T,nle_T,nle_F,↓wrap_up,↓wrap_down,↓wrap_pred,↓wrap_sub_nat,i64_in,i64_quo,rem_in,Int.reduceToNat]
 unfold aroundI
 refine⟨fun h=>⟨hm,fzEq rfl ?_⟩,fun h=>⟨hm,fzEq rfl ?_⟩⟩
 ·rw[if_pos h];try (congr 2;omega)
 ·rw[if_neg h]
def pickI (l:List Int) (i m:Int):Int:=if i < 0 then 0 else match l[i.toNat]? with
 | some x=>aroundI x m
 | none=>0
theorem pick_lt {l:List Int} {i m:Int} (h:0 < m):0≤pickI l i m∧pickI l i m < m:=by
 unfold pickI
 split
 ·omega
 ·split
  ·exact around_lt h
  ·omega
theorem f57 (l:List Int) (i m:Int) (hl:∀ x∈l,In64 x) (hm:m≠0) (H:List MB):call Try.prog pol1 33 [.sl false (l.map I),.int .i64 i,.int .i64 m] H=some (I (pickI l i m),H):=by
 refine call_run Try.func33 rfl rfl rfl rfl rfl rfl (fun _=>rfl) (by simp[AV.plain,AV.plainL,plain_ints,plain_span,plain_ins,plain_prg]) (by simp[AV.plain,AV.plainL,plain_ints,plain_span,plain_ins,plain_prg]) ?_ H
 by_cases h0:i < 0
 ·have e:pickI l i m=0:=by simp[pickI,h0]
  rw[e]
  simp +contextual (disch:=omega) only[Try.f33,dd33,ty0,ty3,ty4,ty22,↓reduceIte,eq_self,bindW_some,bindW_map,bindW_ite,bindW_iteN,W_seq,W_region,W_draw,W_cond,W_condK,W_ret,W_skip,W_exit,W_scope,W_label,W_block,blockK_norm,blockK_ret,blockK_exit,WO_nil,WO_cons,WO_guard,WD_nil,WD_cons,WD_guard,guardV,guardW_boolT,guardW_boolF,guardW_tup,fpL_some,fpL_none,footprint,footprint0,fineF,thenK_norm,thenK_ret,thenK_exit,put_some,put_none,ev_tmp,ev_con,ev_func,ofK_int,ofK_bool,ofK_str,ofK_nil,ofK_agg,ofC_int,ofC_bool,ofC_str,ofC_nil,ofC_nilp,one_int,one_bool,one_str,one_nil,one_nilp,evOp,evBuiltin,evCall,evLen,evAppend,getElem_16,getElem_4,List.length_cons,List.length_nil,List.reduceReplicate,Nat.reduceAdd,Nat.reduceSub,List.cons_append,List.nil_append,List.append_nil,if_false,if_true,Bool.false_eq_true,Bool.true_eq_false,reduceCtorEq,Option.map_some,Option.map_none,List.map_cons,List.map_nil,evBinOp,evBin,evUn,asB_bool,splitB_decide,splitB_true,splitB_false,splitB_beq,splitB_bne,splitB_not,endK_ret,endK_norm,List.getElem?_cons_zero,List.getElem?_cons_succ,evResults,evResult,packRes,retK_norm,retK_ret,cellsAt,mkVal,evFieldAddr,evField,evIndexAddr,evPart,evStore,evBuild,evBuildSlice,fillC,fillE,evSlice,evMakeSlice,evConvert,getRow,AV.cells,List.head?_cons,List.drop_zero,List.drop_succ_cons,List.take_zero,List.take_succ_cons,List.drop_nil,List.take_nil,List.all_cons,List.all_nil,AV.ok,Bool.and_self,Bool.and_true,Bool.true_and,and_self,and_true,true_and,Nat.reduceLeDiff,Nat.reduceMul,Nat.reduceLT,Nat.reduceEqDiff,Nat.zero_add,Nat.add_zero,setCells,splice,pairsOk,pairsX,altW_none,altW_some,cfg_al,WI_nil,WI_cons,FP.apart,heapEq_refl,sameAt_refl,Bool.or_true,Bool.true_or,Bool.or_false,srcElems,elemsOf,mutDst,indDst,thwDst,evLenH,evMapUpd,evLookup,getMp,keyOk,resOk,strOf,roundK_norm,roundK_exit,roundK_ret,List.length_map,List.getElem?_map,Int.toNat_natCast,Int.reduceBNe,Int.reduceBEq,decide_true,decide_false,Bool.not_true,Bool.not_false,List.set,set_0,set_1,set_2,set_3,set_4,look_hit,look,lookD_hit,lookD_cons,lookD_nil,ins_hit,ins,upd_hit,upd,rem1_hit,rem1,dropT,dropSt_eq,initT,cfg_dd,cfg_bd,cfg_ra,actL_nil,actL_cons,act1,updT_hit,updT,frzB,mu33,List.contains_nil,List.contains_cons,Nat.reduceBEq,Bool.or_self,dlt_t,dlt_f,dle_t,dle_f,dgt_t,dgt_f,dge_t,dge_f,beq_t,beq_f,bne_t,bne_f,lt_T,le_T,nle_T,nle_F,↓wrap_up,↓wrap_down,↓wrap_pred,↓wrap_sub_nat,i64_in,i64_quo,rem_in,Int.reduceToNat]
  exact fzEq rfl rfl
 ·obtain⟨k,rfl⟩:∃ k:Nat,i=k:=⟨i.toNat,by omega⟩
  by_cases h1:k < l.length
  ·obtain⟨p,hp⟩:∃ p,l[k]?=some p:=⟨_,List.getElem?_eq_getElem h1⟩
   have e:pickI l k m=aroundI p m:=by simp[pickI,h0,hp]
   rw[e]
   have hf:=f12 p m (hl p (List.mem_of_getElem? hp)) hm
   simp +contextual (disch:=omega) only[Try.f33,dd33,ty0,ty3,ty4,ty22,↓reduceIte,eq_self,bindW_some,bindW_map,bindW_ite,bindW_iteN,W_seq,W_region,W_draw,W_cond,W_condK,W_ret,W_skip,W_exit,W_scope,W_label,W_block,blockK_norm,blockK_ret,blockK_exit,WO_nil,WO_cons,WO_guard,WD_nil,WD_cons,WD_guard,guardV,guardW_boolT,guardW_boolF,guardW_tup,fpL_some,fpL_none,footprint,footprint0,fineF,thenK_norm,thenK_ret,thenK_exit,put_some,put_none,ev_tmp,ev_con,ev_func,ofK_int,ofK_bool,ofK_str,ofK_nil,ofK_agg,ofC_int,ofC_bool,ofC_str,ofC_nil,ofC_nilp,one_int,one_bool,one_str,one_nil,one_nilp,evOp,evBuiltin,evCall,evLen,evAppend,getElem_16,getElem_4,List.length_cons,List.length_nil,List.reduceReplicate,Nat.reduceAdd,Nat.reduceSub,List.cons_append,List.nil_append,List.append_nil,if_false,if_true,Bool.false_eq_true,Bool.true_eq_false,reduceCtorEq,Option.map_some,Option.map_none,List.map_cons,List.map_nil,evBinOp,evBin,evUn,asB_bool,splitB_decide,splitB_true,splitB_false,splitB_beq,splitB_bne,splitB_not,endK_ret,endK_norm,List.getElem?_cons_zero,List.getElem?_cons_succ,evResults,evResult,packRes,retK_norm,retK_ret,cellsAt,mkVal,evFieldAddr,evField,evIndexAddr,evPart,evStore,evBuild,evBuildSlice,fillC,fillE,evSlice,evMakeSlice,evConvert,getRow,AV.cells,List.head?_cons,List.drop_zero,List.drop_succ_cons,List.take_zero,List.take_succ_cons,List.drop_nil,List.take_nil,List.all_cons,List.all_nil,AV.ok,Bool.and_self,Bool.and_true,Bool.true_and,and_self,and_true,true_and,Nat.reduceLeDiff,Nat.reduceMul,Nat.reduceLT,Nat.reduceEqDiff,Nat.zero_add,Nat.add_zero,setCells,splice,pairsOk,pairsX,altW_none,altW_some,cfg_al,WI_nil,WI_cons,FP.apart,heapEq_refl,sameAt_refl,Bool.or_true,Bool.true_or,Bool.or_false,srcElems,elemsOf,mutDst,indDst,thwDst,evLenH,evMapUpd,evLookup,getMp,keyOk,resOk,strOf,roundK_norm,roundK_exit,roundK_ret,List.length_map,List.getElem?_map,Int.toNat_natCast,Int.reduceBNe,Int.reduceBEq,decide_true,decide_false,Bool.not_true,Bool.not_false,List.set,set_0,set_1,set_2,set_3,set_4,look_hit,look,lookD_hit,lookD_cons,lookD_nil,ins_hit,ins,upd_hit,upd,rem1_hit,rem1,dropT,dropSt_eq,initT,cfg_dd,cfg_bd,cfg_ra,actL_nil,actL_cons,act1,updT_hit,updT,frzB,mu33,List.contains_nil,List.contains_cons,Nat.reduceBEq,Bool.or_self,dlt_t,dlt_f,dle_t,dle_f,dgt_t,dgt_f,dge_t,dge_f,beq_t,beq_f,bne_t,bne_f,lt_T,le_T,nle_T,nle_F,↓wrap_up,↓wrap_down,↓wrap_pred,↓wrap_sub_nat,i64_in,i64_quo,rem_in,Int.reduceToNat,hp,hf]
   exact fzEq rfl rfl
  ·have e:pickI l k m=0:=by simp[pickI,List.getElem?_eq_none (Nat.le_of_not_lt h1)]
   rw[e]
   simp +contextual (disch:=omega) only[Try.f33,dd33,ty0,ty3,ty4,ty22,↓reduceIte,eq_self,bindW_some,bindW_map,bindW_ite,bindW_iteN,W_seq,W_region,W_draw,W_cond,W_condK,W_ret,W_skip,W_exit,W_scope,W_label,W_block,blockK_norm,blockK_ret,blockK_exit,WO_nil,WO_cons,WO_guard,WD_nil,WD_cons,WD_guard,guardV,guardW_boolT,guardW_boolF,guardW_tup,fpL_some,fpL_none,footprint,footprint0,fineF,thenK_norm,thenK_ret,thenK_exit,put_some,put_none,ev_tmp,ev_con,ev_func,ofK_int,ofK_bool,ofK_str,ofK_nil,ofK_agg,ofC_int,ofC_bool,ofC_str,ofC_nil,ofC_nilp,one_int,one_bool,one_str,one_nil,one_nilp,evOp,evBuiltin,evCall,evLen,evAppend,getElem_16,getElem_4,List.length_cons,List.length_nil,List.reduceReplicate,Nat.reduceAdd,Nat.reduceSub,List.cons_append,List.nil_append,List.append_nil,if_false,if_true,Bool.false_eq_true,Bool.true_eq_false,reduceCtorEq,Option.map_some,Option.map_none,List.map_cons,List.map_nil,evBinOp,evBin,evUn,asB_bool,splitB_decide,splitB_true,splitB_false,splitB_beq,splitB_bne,splitB_not,endK_ret,endK_norm,List.getElem?_cons_zero,List.getElem?_cons_succ,evResults,evResult,packRes,retK_norm,retK_ret,cellsAt,mkVal,evFieldAddr,evField,evIndexAddr,evPart,evStore,evBuild,evBuildSlice,fillC,fillE,evSlice,evMakeSlice,evConvert,getRow,AV.cells,List.head?_cons,List.drop_zero,List.drop_succ_cons,List.take_zero,List.take_succ_cons,List.drop_nil,List.take_nil,List.all_cons,List.all_nil,AV.ok,Bool.and_self,Bool.and_true,Bool.true_and,and_self,and_true,true_and,Nat.reduceLeDiff,Nat.reduceMul,Nat.reduceLT,Nat.reduceEqDiff,Nat.zero_add,Nat.add_zero,setCells,splice,pairsOk,pairsX,altW_none,altW_some,cfg_al,WI_nil,WI_cons,FP.apart,heapEq_refl,sameAt_refl,Bool.or_true,Bool.true_or,Bool.or_false,srcElems,elemsOf,mutDst,indDst,thwDst,evLenH,evMapUpd,evLookup,getMp,keyOk,resOk,strOf,roundK_norm,roundK_exit,roundK_ret,List.length_map,List.getElem?_map,Int.toNat_natCast,Int.reduceBNe,Int.reduceBEq,decide_true,decide_false,Bool.not_true,Bool.not_false,List.set,set_0,set_1,set_2,set_3,set_4,look_hit,look,lookD_hit,lookD_cons,lookD_nil,ins_hit,ins,upd_hit,upd,rem1_hit,rem1,dropT,dropSt_eq,initT,cfg_dd,cfg_bd,cfg_ra,actL_nil,actL_cons,act1,updT_hit,updT,frzB,mu33,List.contains_nil,List.contains_cons,Nat.reduceBEq,Bool.or_self,dlt_t,dlt_f,dle_t,dle_f,dgt_t,dgt_f,dge_t,dge_f,beq_t,beq_f,bne_t,bne_f,lt_T,le_T,nle_T,nle_F,↓wrap_up,↓wrap_down,↓wrap_pred,↓wrap_sub_nat,i64_in,i64_quo,rem_in,Int.reduceToNat]
   exact fzEq rfl rfl
end Go.Ev
/- What a state of the machine is: the plain laws of the search for it. -/
namespace Go.Ev
structure VS where
 r:List Nat
 a:List Bool
 c:Bool
def VS.mark (s:VS) (n:Nat):VS:=⟨s.r,s.a.set n true,s.c⟩
def VS.found (s:VS) (n:Nat) (c:Bool):VS:=⟨s.r++[n],s.a.set n true,c⟩
def VS.open (s:VS):Nat:=s.a.countP (fun b=>!b)
def visit (ins:List Ins):Nat→Nat→VS→VS
 | 0,_,s=>s
 | k+1,n,s=>
   if s.c=true∨s.a[n]?≠some false then s
   else match ins[n]? with
    | none=>s
    | some i=>
      if i.op=0 then s.found n true
      else if i.op=1 then s.found n false
      else if i.op=3 then visit ins k i.x.toNat (s.mark n)
      else if i.op=2 then visit ins k i.y.toNat (visit ins k i.x.toNat (s.mark n))
      else if i.op=4 then visit ins k (n+1) (s.mark n)
      else s.mark n
def visits (ins:List Ins) (k:Nat) (ns:List Nat) (s:VS):VS:=ns.foldl (fun s n=>visit ins k n s) s
def vs0 (n:Nat):VS:=⟨[],List.replicate n false,false⟩
def stateL (ins:List Ins) (ns:List Nat):List Nat:=(visits ins (ins.length+1) ns (vs0 ins.length)).r
theorem visits_nil (ins:List Ins) (k:Nat) (s:VS):visits ins k [] s=s:=rfl
theorem visits_cons (ins:List Ins) (k n:Nat) (ns:List Nat) (s:VS):visits ins k (n::ns) s=visits ins k ns (visit ins k n s):=rfl
theorem visits_one (ins:List Ins) (k n:Nat) (s:VS):visits ins k [n] s=visit ins k n s:=rfl
theorem visits_two (ins:List Ins) (k n m:Nat) (s:VS):visits ins k [n,m] s=visit ins k m (visit ins k n s):=rfl
theorem countP_set {l:List Bool} {n:Nat} (h:l[n]?=some false):(l.set n true).countP (fun b=>!b)+1=l.countP (fun b=>!b):=by
 induction l generalizing n with
 | nil=>simp at h
 | cons b l ih=>
   cases n with
   | zero=>
     simp at h;subst h
     simp
   | succ n=>
     simp at h
     have:=ih h
     simp only[List.set_cons_succ,List.countP_cons]
     omega
theorem open_mark {s:VS} {n:Nat} (h:s.a[n]?=some false):(s.mark n).open+1=s.open:=countP_set h
theorem open_found {s:VS} {n:Nat} {c:Bool} (h:s.a[n]?=some false):(s.found n c).open+1=s.open:=countP_set h
structure VS.Ok (N:Nat) (s:VS):Prop where
 len:s.a.length=N
 res:∀ n∈s.r,n < N∧s.a[n]?=some true
 nodup:s.r.Nodup
theorem VS.Ok.mark {N n:Nat} {s:VS} (h:s.Ok N):(s.mark n).Ok N:=by
 refine⟨by simp[VS.mark,h.len],fun m hm=>?_,h.nodup⟩
 obtain⟨h1,h2⟩:=h.res m hm
 refine⟨h1,?_⟩
 simp only[VS.mark]
 by_cases e:n=m
 ·subst e;rw[List.getElem?_set_self (by rw[h.len];exact h1)]
 ·rw[List.getElem?_set_ne e];exact h2
theorem VS.Ok.found {N n:Nat} {c:Bool} {s:VS} (h:s.Ok N) (hn:s.a[n]?=some false):(s.found n c).Ok N:=by
 have hlt:n < s.a.length:=(List.getElem?_eq_some_iff.1 hn).1
 have hm:=h.mark (n:=n)
 refine⟨hm.len,fun m hm'=>?_,?_⟩
 ·rcases List.mem_append.1 hm' with h1|h1
  ·exact hm.res m h1
  ·rw[List.mem_singleton.1 h1]
   exact⟨by rw[← h.len];exact hlt,by simp only[VS.found];rw[List.getElem?_set_self hlt]⟩
 ·refine List.nodup_append.2 ⟨h.nodup,by simp,fun x hx y hy e=>?_⟩
  rw[List.mem_singleton.1 hy]at e
  subst e
  have:=(h.res x hx).2
  rw[hn]at this
  cases this
theorem VS.Ok.visit {N:Nat} {ins:List Ins}:∀ {k n:Nat} {s:VS},s.Ok N→(visit ins k n s).Ok N∧(Go.Ev.visit ins k n s).open≤s.open
 | 0,n,s,h=>⟨h,Nat.le_refl _⟩
 | k+1,n,s,h=>by
   simp only[Go.Ev.visit]
   split
   ·exact⟨h,Nat.le_refl _⟩
   ·rename_i hc
    have hn:s.a[n]?=some false:=by
     by_cases e:s.a[n]?=some false
     ·exact e
     ·exact absurd (.inr e) hc
    have ho:=open_mark hn
    split
    ·exact⟨h,Nat.le_refl _⟩
    ·split
     ·exact⟨h.found hn,by have:=open_found (c:=true) hn;omega⟩
     ·split
      ·exact⟨h.found hn,by have:=open_found (c:=false) hn;omega⟩
      ·split
       ·have:=VS.Ok.visit (ins:=ins) (k:=k) (n:=‹Ins›.x.toNat) (h.mark (n:=n))
        exact⟨this.1,by omega⟩
       ·split
        ·have h1:=VS.Ok.visit (ins:=ins) (k:=k) (n:=‹Ins›.x.toNat) (h.mark (n:=n))
         have h2:=VS.Ok.visit (ins:=ins) (k:=k) (n:=‹Ins›.y.toNat) h1.1
         exact⟨h2.1,by omega⟩
        ·split
         ·have:=VS.Ok.visit (ins:=ins) (k:=k) (n:=n+1) (h.mark (n:=n))
          exact⟨this.1,by omega⟩
         ·exact⟨h.mark,by omega⟩
theorem VS.Ok.visits {N k:Nat} {ins:List Ins}:∀ {ns:List Nat} {s:VS},s.Ok N→(visits ins k ns s).Ok N∧(Go.Ev.visits ins k ns s).open≤s.open
 | [],s,h=>⟨h,Nat.le_refl _⟩
 | n::ns,s,h=>by
   have h1:=h.visit (ins:=ins) (k:=k) (n:=n)
   have h2:=VS.Ok.visits (ins:=ins) (k:=k) (ns:=ns) h1.1
   rw[visits_cons]
   exact⟨h2.1,by omega⟩
theorem vs0_ok (N:Nat):(vs0 N).Ok N:=⟨by simp[vs0],fun n h=>by simp[vs0]at h,by simp[vs0]⟩
theorem vs0_open (N:Nat):(vs0 N).open=N:=by
 simp[vs0,VS.open,List.countP_replicate]
theorem nodup_len {N:Nat} {l:List Nat} (h:l.Nodup) (hl:∀ n∈l,n < N):l.length≤N:=by
 have:=List.Nodup.length_le_of_subset h (l₂:=List.range N) (fun x hx=>List.mem_range.2 (hl x hx))
 simpa using this
theorem VS.Ok.small {N:Nat} {s:VS} (h:s.Ok N):s.r.length≤N:=nodup_len h.nodup (fun n hn=>(h.res n hn).1)
theorem stateL_ok (ins:List Ins) (ns:List Nat):(∀ n∈stateL ins ns,n < ins.length)∧(stateL ins ns).length≤ins.length:=by
 have h:=((vs0_ok ins.length).visits (ins:=ins) (k:=ins.length+1) (ns:=ns)).1
 exact⟨fun n hn=>(h.res n hn).1,h.small⟩
end Go.Ev
namespace Go.Ev
attribute [local go_sem] evBin AV.cells frzB List.length_append List.map_append tySzE List.head?_drop Nat.mul_one sameAt_zero sameAt_two sameAt_three sameAt_four sameAt_five room_ok
section
open Go.Proofs Go.RowKit Go.IntWalk
set_option maxRecDepth 100000
set_option maxHeartbeats 8000000
abbrev NV (n:Nat):AV:=I (n:Int)
theorem plain_nv (l:List Nat):AV.plainL (l.map NV)=true:=by
 induction l with
 | nil=>rfl
 | cons a l ih=>simp[AV.plainL,ih];rfl
theorem plain_bools (l:List Bool):AV.plainL (l.map AV.bool)=true:=by
 induction l with
 | nil=>rfl
 | cons a l ih=>simp[AV.plainL,ih];rfl
def Leads (ins:List Ins):Prop:=∀ n i,ins[n]?=some i→(i.op=0∨i.op=1∨i.op=2∨i.op=3∨i.op=4∨i.op=5)∧(i.op=2∨i.op=3→0≤i.x∧i.x.toNat < ins.length)∧(i.op=2→0≤i.y∧i.y.toNat < ins.length)∧(i.op=1∨i.op=4∨i.op=5→n+1 < ins.length)
abbrev capL:List AV:=[.rf 5 1 0 0,.rf 4 1 0 0,.rf 0 1 0 0,.rf 1 1 0 0,.rf 6 1 0 0]
abbrev hpL (ins:List Ins) (s:VS) (K:List MB):List MB:=
 .row 1 [.sl false (ins.map insAV)] 0::.row 1 [.ms 2 1 s.r.length 0 s.r.length] 0::.row 1 (s.r.map NV) 0::.row 1 (s.a.map AV.bool) 0 ::
  .row 1 [.ms 3 1 ins.length 0 ins.length] 0::.row 1 [.bool s.c] 0::.row 1 [.clo 46 capL] 0::K
theorem kget_last {α:Type} (K:List α) (x:α):(K++[x])[K.length]?=some x:=by simp
theorem kset_last {α:Type} (K:List α) (x y:α):(K++[x]).set K.length y=K++[y]:=by simp
theorem sl_get {s:VS} {n N:Nat} (hs:s.Ok N) (hn:n < N):∃ b,s.a[n]?=some b:=⟨_,List.getElem?_eq_getElem (by rw[hs.len];exact hn)⟩
abbrev args46 (t:Bool) (ns:List Nat):List AV:=.sl t (ns.map NV)::capL
theorem hp_kept (ins:List Ins) (s s':VS) (K K':List MB):keptOk (hpL ins s K).length (hpL ins s K) (hpL ins s' (K++K'))=true:=by
 have h:∀(n:Nat) (K:List MB),keptOk n K (K++K')=true:=by
  intro n K
  induction K with
  | nil=>cases K'<;>rfl
  | cons x K ih=>simp[keptOk,MB.beq_refl,ih]
 have hp1:=fun n=>underL_plain n _ (plain_nv s'.r)
 have hp2:=fun n=>underL_plain n _ (plain_bools s'.a)
 simp[keptOk,MB.beq_refl,h,MB.under,AV.underL,AV.under,hp1,hp2]
theorem app_n {H:List MB} {i n:Nat} {rs:List Nat} {c:Nat} {t:Bool} (hi:getRow H i=some (1,rs.map NV,0)) (hn:rs.length=n) (hr:n+1≤4000000000) :
  evAppend Try.prog H 22 22 (.ms i 1 n 0 n) (.sl t [NV c])=some (.ms i 1 (n+1) 0 (n+1),H.set i (.row 1 ((rs++[c]).map NV) 0)):=by
 have hs:srcElems Try.prog H 3 (.sl t [NV c])=some [NV c]:=rfl
 rw[evAppend_end (e:=3) (by kernel_rfl) (by kernel_rfl) (k:=1) (by kernel_rfl) (by_:=8) (by kernel_rfl) (ze:=I 0) (by kernel_rfl) rfl (by omega) hs rfl hi (by rw[List.length_map];exact hn) (Nat.zero_le _) (room_ok (by simpa using hr) (by omega))]
 rw[List.map_append]
 rfl
theorem visits_take {ins:List Ins} {k j n:Nat} {ns:List Nat} {s:VS} (h:ns[j]?=some n):visits ins k (ns.take (j+1)) s=visit ins k n (visits ins k (ns.take j) s):=by
 rw[List.take_add_one,h]
 simp[visits]
theorem bools_at {s:VS} {n:Nat} {b:Bool} (h:s.a[n]?=some b):(s.a.map AV.bool)[n]?=some (.bool b):=by simp[h]
theorem fz_slp {t:Bool} {l:List AV} (h:AV.plainL l=true) (H:List MB):fz (.sl t l) H=some (.sl false l,H):=by
 simp only[fz,fzA,fzL_plain _ _ _ h]
theorem fr46 (t:Bool) (l:List AV) (h:AV.plainL l=true) (H:List MB):frzArgs pol1 46 0 (.sl t l::capL) H=some (.sl false l::capL,H):=by
 have h1:frzArgs pol1 46 1 capL H=some (capL,H):=frzArgs_mix _ _ _ rfl
 unfold frzArgs
 rw[if_neg (show ¬ pol1.byref 46 0=true by decide),fz_slp h]
 simp only
 rw[h1]
theorem kf46 (ins:List Ins) (hl:ins.length≤1000000) (hw:Leads ins):∀(k:Nat) (t:Bool) (ns:List Nat) (s:VS) (K:List MB),ns.length≤1000000→(∀ n∈ns,n < ins.length)→s.Ok ins.length→s.open < k →
  call Try.prog pol1 46 (args46 t ns) (hpL ins s K)=some (.tup [],hpL ins (visits ins k ns s) K):=by
 intro k
 induction k with
 | zero=>intro t ns s K _ _ _ h;omega
 | succ k ih=>
   intro t ns s K hnl hns hs ho
   refine call_run2 (pol:=pol1) Try.func46 rfl rfl rfl rfl (fr46 t _ (plain_nv ns) _) ?_
   simp +contextual (disch:=omega) only[Try.f46,dd46,go_sem,simprocAttr,evAppend,mu46,↓wrap_up,↓wrap_down,↓wrap_pred,↓wrap_sub_nat]
   refine W_for (σ:=Nat×List MB) (M:=(mskOf (pol1.mask 46) (pol1.gc 46) (pol1.acts 46) 0 1)) rfl (fun x=>(⟨66,[(12,I (x.1:Nat)),(11,I (ns.length:Nat)),(10,.sl false (ns.map NV)),(5,.rf 6 1 0 0),(4,.rf 1 1 0 0),(3,.rf 0 1 0 0),(2,.rf 4 1 0 0),(1,.rf 5 1 0 0)],hpL ins (visits ins (k+1) (ns.take x.1) s) (K++x.2)⟩:St)) (fun x=>x.1≤ns.length) (fun x=>ns.length - x.1) (0,[]) ?_ (Nat.zero_le _) _ ?_
   ·rintro⟨j,K'⟩ hj
    simp only at hj ⊢
    obtain⟨hs1,ho1⟩:=hs.visits (ins:=ins) (k:=k+1) (ns:=ns.take j)
    by_cases hjl:j < ns.length
    ·obtain⟨n,hn⟩:∃ n,ns[j]?=some n:=⟨_,List.getElem?_eq_getElem hjl⟩
     have hnN:=hns n (List.mem_of_getElem? hn)
     have hstep:=visits_take (ins:=ins) (k:=k+1) (s:=s) hn
     generalize visits ins (k+1) (ns.take j) s=s1 at *
     have hget:(ns.map NV)[j]?=some (NV n):=by simp[hn]
     obtain⟨b,hb⟩:=sl_get hs1 hnN
     have hb':=bools_at hb
     have hlen:=hs1.len
     have hsame:s1.c=true∨b=true→visits ins (k+1) (ns.take (j+1)) s=s1:=by
      intro h
      rw[hstep]
      simp only[visit]
      rw[if_pos (by rcases h with h|h<;>simp[h,hb])]
     by_cases hc:s1.c=true
     ·simp +contextual (disch:=omega) only[Try.f46,dd46,go_sem,simprocAttr,evAppend,mu46,↓wrap_up,↓wrap_down,↓wrap_pred,↓wrap_sub_nat,hget,hb',hc]
      exact⟨(j+1,K'),hjl,by show ns.length - (j+1) < _;omega,by rw[hsame (.inl hc)];rfl⟩
     have hc':s1.c=false:=by simpa using hc
     cases b with
     | true=>
       simp +contextual (disch:=omega) only[Try.f46,dd46,go_sem,simprocAttr,evAppend,mu46,↓wrap_up,↓wrap_down,↓wrap_pred,↓wrap_sub_nat,hget,hb',hc',hlen]
       exact⟨(j+1,K'),hjl,by show ns.length - (j+1) < _;omega,by rw[hsame (.inr rfl)];rfl⟩
     | false=>
       obtain⟨i,hi⟩:∃ i,ins[n]?=some i:=⟨_,List.getElem?_eq_getElem hnN⟩
       have hi':(ins.map insAV)[n]?=some (insAV i):=by simp[hi]
       obtain⟨w0,w1,w2,w3⟩:=hw n i hi
       have hset:(s1.a.map AV.bool).set n (.bool true)=(s1.mark n).a.map AV.bool:=by simp[VS.mark,List.map_set]
       rw[show visit ins (k+1) n s1=_ by simp only[visit];rw[if_neg (by simp[hc',hb])],hi]at hstep
       simp only at hstep
       have hsm:=hs1.small
       have happ:∀(x y:MB) (K:List MB) (t:Bool),evAppend Try.prog (x::y::.row 1 (s1.r.map NV) 0::K) 22 22 (.ms 2 1 s1.r.length 0 s1.r.length) (.sl t [NV n])=some (.ms 2 1 (s1.r.length+1) 0 (s1.r.length+1),x::y::.row 1 ((s1.r++[n]).map NV) 0::K):=
        fun x y K t=>app_n rfl rfl (by omega)
       have hgl:=fun x:MB=>kget_last (K++K') x
       have hsl:=fun x y:MB=>kset_last (K++K') x y
       rw[List.length_append]at hgl hsl
       have hom:=open_mark (s:=s1) (n:=n) (by simpa using hb)
       have hmk:=hs1.mark (n:=n)
       have hom2:(s1.mark n).open < k:=by omega
       have hcall:∀(ns:List Nat) (J:MB),ns.length≤1000000→(∀ n∈ns,n < ins.length)→call Try.prog pol1 46 (.sl true (ns.map NV)::capL)
         (.row 1 [.sl false (ins.map insAV)] 0::.row 1 [.ms 2 1 s1.r.length 0 s1.r.length] 0::.row 1 (s1.r.map NV) 0::.row 1 ((s1.mark n).a.map AV.bool) 0 ::
           .row 1 [.ms 3 1 ins.length 0 ins.length] 0::.row 1 [.bool false] 0::.row 1 [.clo 46 capL] 0::(K++K'++[J]))=some (.tup [],hpL ins (visits ins k ns (s1.mark n)) (K++K'++[J])):=by
        intro ns J h1 h2
        have e:s1.mark n=⟨s1.r,s1.a.set n true,false⟩:=by simp[VS.mark,hc']
        rw[e]at hmk hom2 ⊢
        exact ih true ns ⟨s1.r,s1.a.set n true,false⟩ (K++K'++[J]) h1 h2 hmk hom2
       by_cases h0:i.op=0
       ·rw[if_pos h0]at hstep
        simp +contextual (disch:=omega) only[Try.f46,dd46,go_sem,simprocAttr,mu46,↓wrap_up,↓wrap_down,↓wrap_pred,↓wrap_sub_nat,hget,hb',hc',hlen,hi',hset,h0,hgl,hsl,happ]
        refine⟨(j+1,K'++[.row 5 [.agg [I 0,I i.x,I i.y,I i.n,.sl false (i.set.map spanAV)]] 0]),hjl,by show ns.length - (j+1) < _;omega,?_⟩
        rw[hstep]
        simp only[hpL,VS.found,VS.mark,List.length_append,List.length_cons,List.length_nil,← List.append_assoc,List.map_append,List.map_cons,List.map_nil]
        rfl
       rw[if_neg h0]at hstep
       by_cases h1:i.op=1
       ·rw[if_pos h1]at hstep
        simp +contextual (disch:=omega) only[Try.f46,dd46,go_sem,simprocAttr,mu46,↓wrap_up,↓wrap_down,↓wrap_pred,↓wrap_sub_nat,hget,hb',hc',hlen,hi',hset,h1,hgl,hsl,happ]
        refine⟨(j+1,K'++[.row 5 [.agg [I 1,I i.x,I i.y,I i.n,.sl false (i.set.map spanAV)]] 0]),hjl,by show ns.length - (j+1) < _;omega,?_⟩
        rw[hstep]
        simp only[hpL,VS.found,VS.mark,List.length_append,List.length_cons,List.length_nil,← List.append_assoc,List.map_append,List.map_cons,List.map_nil]
        rfl
       rw[if_neg h1]at hstep
       by_cases h3:i.op=3
       ·rw[if_pos h3]at hstep
        obtain⟨x1,x2⟩:=w1 (.inr h3)
        obtain⟨x,hx⟩:∃ x:Nat,i.x=x:=⟨i.x.toNat,by omega⟩
        rw[hx]at hstep x2
        simp only[Int.toNat_natCast]at hstep x2
        have hc1:=fun J=>hcall [x] J (by simp) (by simpa using x2)
        simp only[List.map_cons,List.map_nil,visits_one]at hc1
        simp +contextual (disch:=omega) only[Try.f46,dd46,go_sem,simprocAttr,mu46,↓wrap_up,↓wrap_down,↓wrap_pred,↓wrap_sub_nat,hget,hb',hc',hlen,hi',hset,h3,hgl,hsl,hx,hc1]
        refine⟨(j+1,K'++[.row 5 [.agg [I 3,I x,I i.y,I i.n,.sl false (i.set.map spanAV)]] 0]),hjl,by show ns.length - (j+1) < _;omega,?_⟩
        rw[hstep,← List.append_assoc]
        rfl
       rw[if_neg h3]at hstep
       by_cases h2:i.op=2
       ·rw[if_pos h2]at hstep
        obtain⟨x1,x2⟩:=w1 (.inl h2)
        obtain⟨y1,y2⟩:=w2 h2
        obtain⟨x,hx⟩:∃ x:Nat,i.x=x:=⟨i.x.toNat,by omega⟩
        obtain⟨y,hy⟩:∃ y:Nat,i.y=y:=⟨i.y.toNat,by omega⟩
        rw[hx]at hstep x2
        rw[hy]at hstep y2
        simp only[Int.toNat_natCast]at hstep x2 y2
        have hc1:=fun J=>hcall [x,y] J (by simp) (by simp[x2,y2])
        simp only[List.map_cons,List.map_nil,visits_two]at hc1
        simp +contextual (disch:=omega) only[Try.f46,dd46,go_sem,simprocAttr,mu46,↓wrap_up,↓wrap_down,↓wrap_pred,↓wrap_sub_nat,hget,hb',hc',hlen,hi',hset,h2,hgl,hsl,hx,hy,hc1]
        refine⟨(j+1,K'++[.row 5 [.agg [I 2,I x,I y,I i.n,.sl false (i.set.map spanAV)]] 0]),hjl,by show ns.length - (j+1) < _;omega,?_⟩
        rw[hstep,← List.append_assoc]
        rfl
       rw[if_neg h2]at hstep
       by_cases h4:i.op=4
       ·rw[if_pos h4]at hstep
        have x2:=w3 (.inr (.inl h4))
        have hc1:=fun J=>hcall [n+1] J (by simp) (by simpa using x2)
        simp only[List.map_cons,List.map_nil,visits_one]at hc1
        simp +contextual (disch:=omega) only[Try.f46,dd46,go_sem,simprocAttr,mu46,↓wrap_up,↓wrap_down,↓wrap_pred,↓wrap_sub_nat,hget,hb',hc',hlen,hi',hset,h4,hgl,hsl,hc1]
        refine⟨(j+1,K'++[.row 5 [.agg [I 4,I i.x,I i.y,I i.n,.sl false (i.set.map spanAV)]] 0]),hjl,by show ns.length - (j+1) < _;omega,?_⟩
        rw[hstep,← List.append_assoc]
        rfl
       rw[if_neg h4]at hstep
       have h5:i.op=5:=by omega
       simp +contextual (disch:=omega) only[Try.f46,dd46,go_sem,simprocAttr,mu46,↓wrap_up,↓wrap_down,↓wrap_pred,↓wrap_sub_nat,hget,hb',hc',hlen,hi',hset,h5,hgl,hsl]
       refine⟨(j+1,K'++[.row 5 [.agg [I 5,I i.x,I i.y,I i.n,.sl false (i.set.map spanAV)]] 0]),hjl,by show ns.length - (j+1) < _;omega,?_⟩
       rw[hstep,← List.append_assoc]
       simp only[VS.mark,hc']
       rfl
    ·simp +contextual (disch:=omega) only[Try.f46,dd46,go_sem,simprocAttr,evAppend,mu46,↓wrap_up,↓wrap_down,↓wrap_pred,↓wrap_sub_nat]
     rw[List.take_of_length_le (by omega)]
     exact retPol_keep rfl rfl rfl (hp_kept ins s _ K K') (by simp[hpL])
   ·simp only[List.take_zero,visits_nil,List.append_nil];rfl
theorem kf30l (ins:List Ins) (hl:ins.length≤1000000) (hw:Leads ins) (ns:List Nat) (hnl:ns.length≤1000000) (hns:∀ n∈ns,n < ins.length) (H:List MB) :
  call Try.prog pol1 30 [.sl false (ins.map insAV),.sl false (ns.map NV)] H=some (.sl false ((stateL ins ns).map NV),H):=by
 have hcall:=kf46 ins hl hw (ins.length+1) false ns (vs0 ins.length) [] hnl hns (vs0_ok _) (by rw[vs0_open];omega)
 have hpl:=plain_ins ins
 have hp2:=plain_nv ns
 refine call_run Try.func30 rfl rfl rfl rfl rfl rfl (fun _=>rfl) (by simp[AV.plain,AV.plainL,hpl,hp2]) (by simp[AV.plain,plain_nv]) ?_ H
 have hs:=(vs0_ok ins.length).visits (ins:=ins) (k:=ins.length+1) (ns:=ns)
 unfold stateL
 generalize hv:visits ins (ins.length+1) ns (vs0 ins.length)=s at *
 simp only[vs0,args46,hpL,capL,List.length_nil,List.map_nil,List.map_replicate]at hcall
 have hlen:=hs.1.len
 have hsm:=hs.1.small
 simp +contextual (disch:=omega) only[Try.f30,dd30,go_sem,simprocAttr,evAppend,mu30,↓wrap_up,↓wrap_down,↓wrap_pred,↓wrap_sub_nat,hcall]
 exact⟨_,fz_row (k:=1) (els:=s.r.map NV) rfl (by simp) (plain_nv _)⟩
end
section
open Go.Proofs Go.RowKit Go.IntWalk
set_option maxRecDepth 100000
set_option maxHeartbeats 8000000
def acceptG (g:Prg):Int:=if validG g≠0 then validG g else if g.ins.any (fun i=>i.op == 5) then 10 else 0
theorem kf27 (g:Prg) (hb:PrgB g) (H:List MB):call Try.prog pol1 27 [prgAV g] H=some (I (acceptG g),H):=by
 have hv:=f30 g hb
 obtain⟨hl,hs⟩:=hb
 refine call_run Try.func27 rfl rfl rfl rfl rfl rfl (fun _=>rfl) (by simp[AV.plain,AV.plainL,plain_ints,plain_span,plain_ins,plain_prg]) (by simp[AV.plain,AV.plainL,plain_ints,plain_span,plain_ins,plain_prg]) ?_ H
 unfold acceptG
 by_cases h1:validG g=0
 ·rw[h1]at hv
  rw[if_neg (by simp[h1])]
  simp +contextual (disch:=omega) only[Try.f27,dd27,go_sem,simprocAttr,evAppend,mu27,↓wrap_up,↓wrap_down,↓wrap_pred,↓wrap_sub_nat,hv]
  refine W_count (M:=(mskOf (pol1.mask 27) (pol1.gc 27) (pol1.acts 27) 0 5)) rfl g.ins.length (fun i=>(⟨22,[(14,I i),(13,I g.ins.length),(12,.sl false (g.ins.map insAV))],[.row 3 [prgAV g] 0]⟩:St))
   (fun i=>∀ k p,k < i→g.ins[k]?=some p→p.op≠5) ?_ ?_ (fun k p h=>by omega) _ (by first|rfl|(refine prep_cut rfl (by rfl) (by rfl) (by rfl) ?_ ?_<;>simp[AV.underL,AV.under,MB.under,underL_plain,under_plain,plain_ints,plain_span,plain_ins,plain_prg,-List.map_take]))
  ·intro i hi hg
   obtain⟨p,hp⟩:∃ p,g.ins[i]?=some p:=⟨_,List.getElem?_eq_getElem hi⟩
   have hp':(g.ins.map insAV)[i]?=some (insAV p):=by simp[hp]
   by_cases h5:p.op=5
   ·have:g.ins.any (fun i=>i.op == 5)=true:=List.any_eq_true.2 ⟨p,List.mem_of_getElem? hp,by simp[h5]⟩
    rw[this]
    simp +contextual (disch:=omega) only[Try.f27,dd27,go_sem,simprocAttr,evAppend,mu27,↓wrap_up,↓wrap_down,↓wrap_pred,↓wrap_sub_nat,hp',h5]
    exact fzEq rfl rfl
   ·simp +contextual (disch:=omega) only[Try.f27,dd27,go_sem,simprocAttr,evAppend,mu27,↓wrap_up,↓wrap_down,↓wrap_pred,↓wrap_sub_nat,hp',h5]
    refine⟨fun k q hk hq=>?_,(by first|rfl|(refine prep_cut rfl (by rfl) (by rfl) (by rfl) ?_ ?_<;>simp[AV.underL,AV.under,MB.under,underL_plain,under_plain,plain_ints,plain_span,plain_ins,plain_prg,-List.map_take]))⟩
    rcases Nat.lt_succ_iff_lt_or_eq.1 hk with h|rfl
    ·exact hg k q h hq
    ·rw[hp]at hq;cases hq;exact h5
  ·intro hg
   have:g.ins.any (fun i=>i.op == 5)=false:=by
    rw[List.any_eq_false]
    intro p hp
    obtain⟨k,hk,e⟩:=List.getElem_of_mem hp
    have:=hg k p hk (by rw[← e];exact List.getElem?_eq_getElem hk)
    simp[this]
   rw[this]
   simp +contextual (disch:=omega) only[Try.f27,dd27,go_sem,simprocAttr,evAppend,mu27,↓wrap_up,↓wrap_down,↓wrap_pred,↓wrap_sub_nat]
   exact fzEq rfl rfl
 ·rw[if_pos h1]
  simp +contextual (disch:=omega) only[Try.f27,dd27,go_sem,simprocAttr,evAppend,mu27,↓wrap_up,↓wrap_down,↓wrap_pred,↓wrap_sub_nat,hv]
  exact fzEq rfl rfl
abbrev kB8 (n:Int):AV:=.int .u8 n
theorem plain_b8 (l:List Int):AV.plainL (l.map kB8)=true:=by
 induction l with
 | nil=>rfl
 | cons a l ih=>simp[AV.plainL,ih];rfl
def keyI (l:List Nat):List Int:=l.flatMap fun n=>[((n / 256 % 256:Nat):Int),((n % 256:Nat):Int)]
def keyS (l:List Nat):ByteArray:=strB (keyI l)
theorem bytesOf_b8 (l:List Int):bytesOf (l.map kB8)=some l:=by
 induction l with
 | nil=>rfl
 | cons a l ih=>simp only[List.map_cons,bytesOf,if_true,ih,Option.map_some]
theorem keyI_snoc (l:List Nat) (n:Nat):keyI (l++[n])=keyI l++[((n / 256 % 256:Nat):Int),((n % 256:Nat):Int)]:=by simp[keyI]
theorem keyI_len (l:List Nat):(keyI l).length=2 * l.length:=by
 induction l with
 | nil=>rfl
 | cons a l ih=>simp only[keyI,List.flatMap_cons,List.length_append,List.length_cons,List.length_nil]at ih ⊢;omega
theorem shr8 (n:Nat):evShift .shr .i64 n 8=some (NV (n / 256)):=by
 simp only[evShift]
 simp
 rw[Int.fdiv_eq_ediv_of_nonneg _ (by decide)]
 rfl
theorem wrap8 (n:Nat):IntKind.u8.wrap n=((n % 256:Nat):Int):=by simp[IntKind.wrap,IntKind.signed,IntKind.bits]
theorem app_bb {H:List MB} {i n:Nat} {bs:List Int} {c d:Int} {t:Bool} (hi:getRow H i=some (1,bs.map kB8,0)) (hn:bs.length=n) (hr:n+2≤4000000000) :
  evAppend Try.prog H 151 151 (.ms i 1 n 0 n) (.sl t [kB8 c,kB8 d])=some (.ms i 1 (n+2) 0 (n+2),H.set i (.row 1 ((bs++[c,d]).map kB8) 0)):=by
 have hs:srcElems Try.prog H 5 (.sl t [kB8 c,kB8 d])=some [kB8 c,kB8 d]:=rfl
 rw[evAppend_end (e:=5) (by kernel_rfl) (by kernel_rfl) (k:=1) (by kernel_rfl) (by_:=1) (by kernel_rfl) (ze:=kB8 0) (by kernel_rfl) rfl (by omega) hs rfl hi (by rw[List.length_map];exact hn) (Nat.zero_le _) (room_ok (by simpa using hr) (by omega))]
 rw[List.map_append]
 rfl
theorem kf51 (l:List Nat) (hl:l.length≤1000000) (H:List MB):call Try.prog pol1 51 [.sl false (l.map NV)] H=some (.str (keyS l),H):=by
 have hp:=plain_nv l
 refine call_run Try.func51 rfl rfl rfl rfl rfl rfl (fun _=>rfl) (by simp[AV.plain,AV.plainL,hp]) (by simp[AV.plain]) ?_ H
 simp +contextual (disch:=omega) only[Try.f51,dd51,go_sem,simprocAttr,evAppend,mu51,↓wrap_up,↓wrap_down,↓wrap_pred,↓wrap_sub_nat]
 refine W_count (M:=(mskOf (pol1.mask 51) (pol1.gc 51) (pol1.acts 51) 0 3)) rfl l.length (fun i=>(⟨27,[(12,I i),(11,I l.length),(10,.sl false (l.map NV)),(3,.ms 0 1 (2 * i) 0 (2 * i))],[.row 1 ((keyI (l.take i)).map kB8) 0]⟩:St)) (fun i=>True) ?_ ?_ trivial _ ?_
 ·intro i hi _
  obtain⟨n,hn⟩:∃ n,l[i]?=some n:=⟨_,List.getElem?_eq_getElem hi⟩
  have hn':(l.map NV)[i]?=some (NV n):=by simp[hn]
  have hlen:(keyI (l.take i)).length=2 * i:=by rw[keyI_len,List.length_take];omega
  have hnx:keyI (l.take (i+1))=keyI (l.take i)++[((n / 256 % 256:Nat):Int),((n % 256:Nat):Int)]:=by rw[List.take_add_one,hn];exact keyI_snoc _ _
  have happ:=fun(K:List MB) (c d:Int) (t:Bool)=>app_bb (H:=.row 1 ((keyI (l.take i)).map kB8) 0::K) (i:=0) (c:=c) (d:=d) (t:=t) rfl hlen (by omega)
  have h1:=shr8 n
  have h2:=wrap8 (n / 256)
  have h3:=wrap8 n
  simp +contextual (disch:=omega) only[Try.f51,dd51,go_sem,simprocAttr,mu51,↓wrap_up,↓wrap_down,↓wrap_pred,↓wrap_sub_nat,hn',h1,h2,h3,happ]
  rw[hnx]
  exact(by first|rfl|(refine prep_to (n:=2) (m:=⟨some [12,11,10,3],some 2,[]⟩) rfl rfl ?_ ?_ ?_<;>first|rfl|(simp[keepT,AV.underL,AV.under,MB.under,underL_plain,under_plain,underL_append,plain_ints,plain_span,plain_ins,plain_prg,-List.map_take,-List.map_replicate,-List.map_set,Nat.mul_add,plain_nv,plain_b8];done)|(simp[keepT,AV.underL,AV.under,MB.under,underL_plain,under_plain,underL_append,plain_ints,plain_span,plain_ins,plain_prg,-List.map_take,-List.map_replicate,-List.map_set,Nat.mul_add,plain_nv,plain_b8];omega)))
 ·intro _
  have hlen:(keyI l).length=2 * l.length:=keyI_len l
  have hb:=bytesOf_b8 (keyI l)
  rw[List.take_of_length_le (Nat.le_refl _)]
  have ht:((keyI l).map kB8).take (2 * l.length)=(keyI l).map kB8:=List.take_of_length_le (by simp[hlen])
  simp +contextual (disch:=omega) only[Try.f51,dd51,go_sem,simprocAttr,evAppend,mu51,↓wrap_up,↓wrap_down,↓wrap_pred,↓wrap_sub_nat,hb,hlen,ht]
  exact fzEq rfl rfl
 ·simp only[List.take_zero,keyI,List.flatMap_nil,List.map_nil,Nat.mul_zero];exact(by first|rfl|(refine prep_to (n:=2) (m:=⟨some [12,11,10,3],some 2,[]⟩) rfl rfl ?_ ?_ ?_<;>first|rfl|(simp[keepT,AV.underL,AV.under,MB.under,underL_plain,under_plain,underL_append,plain_ints,plain_span,plain_ins,plain_prg,-List.map_take,-List.map_replicate,-List.map_set,plain_nv,plain_b8];done)|(simp[keepT,AV.underL,AV.under,MB.under,underL_plain,under_plain,underL_append,plain_ints,plain_span,plain_ins,plain_prg,-List.map_take,-List.map_replicate,-List.map_set,plain_nv,plain_b8];omega)))
def afterL (ins:List Ins) (l:List Nat) (x:Int):List Nat:=l.flatMap fun n=>match ins[n]? with
 | some i=>if i.op=1∧hasSpan i.set x=true then [n+1] else []
 | none=>[]
theorem afterL_snoc (ins:List Ins) (l:List Nat) (n:Nat) (x:Int):afterL ins (l++[n]) x=afterL ins l x++(match ins[n]? with
 | some i=>if i.op=1∧hasSpan i.set x=true then [n+1] else []
 | none=>[]):=by simp[afterL]
theorem afterL_len (ins:List Ins) (l:List Nat) (x:Int):(afterL ins l x).length≤l.length:=by
 induction l with
 | nil=>simp[afterL]
 | cons n l ih=>
   have:afterL ins (n::l) x=(match ins[n]? with
    | some i=>if i.op=1∧hasSpan i.set x=true then [n+1] else []
    | none=>[])++afterL ins l x:=by simp[afterL]
   rw[this,List.length_append,List.length_cons]
   split
   ·split<;>simp<;>omega
   ·simp;omega
theorem kf52 (ins:List Ins) (hl:ins.length≤1000000) (hs:∀ i∈ins,i.set.length≤1000000) (l:List Nat) (hll:l.length≤1000000) (hln:∀ n∈l,n < ins.length) (x:Int) (H:List MB) :
  call Try.prog pol1 52 [.sl false (ins.map insAV),.sl false (l.map NV),I x] H=some (.sl false ((afterL ins l x).map NV),H):=by
 have hp:=plain_nv l
 have hpi:=plain_ins ins
 refine call_run Try.func52 rfl rfl rfl rfl rfl rfl (fun _=>rfl) (by simp[AV.plain,AV.plainL,hp,hpi]) (by simp[AV.plain,plain_nv]) ?_ H
 simp +contextual (disch:=omega) only[Try.f52,dd52,go_sem,simprocAttr,evAppend,mu52,↓wrap_up,↓wrap_down,↓wrap_pred,↓wrap_sub_nat]
 refine W_count (M:=(mskOf (pol1.mask 52) (pol1.gc 52) (pol1.acts 52) 0 3)) rfl l.length (fun i=>(⟨38,[(12,I i),(11,I l.length),(10,.sl false (l.map NV)),(7,.ms 0 1 (afterL ins (l.take i) x).length 0 (afterL ins (l.take i) x).length),(2,I x),(0,.sl false (ins.map insAV))],[.row 1 ((afterL ins (l.take i) x).map NV) 0]⟩:St)) (fun i=>True) ?_ ?_ trivial _ ?_
 ·intro i hi _
  obtain⟨n,hn⟩:∃ n,l[i]?=some n:=⟨_,List.getElem?_eq_getElem hi⟩
  have hn':(l.map NV)[i]?=some (NV n):=by simp[hn]
  have hnN:=hln n (List.mem_of_getElem? hn)
  obtain⟨p,hq⟩:∃ p,ins[n]?=some p:=⟨_,List.getElem?_eq_getElem hnN⟩
  have hq':(ins.map insAV)[n]?=some (insAV p):=by simp[hq]
  have hnx:afterL ins (l.take (i+1)) x=afterL ins (l.take i) x++(if p.op=1∧hasSpan p.set x=true then [n+1] else []):=by rw[List.take_add_one,hn];exact(afterL_snoc _ _ _ _).trans (by rw[hq])
  have hlen:=afterL_len ins (l.take i) x
  rw[List.length_take]at hlen
  rw[hnx]
  generalize afterL ins (l.take i) x=r at *
  have happ:=fun(K:List MB) (t:Bool)=>app_n (H:=.row 1 (r.map NV) 0::K) (i:=0) (c:=n+1) (t:=t) rfl rfl (by omega)
  have hf:=f43 p.set x (hs p (List.mem_of_getElem? hq))
  by_cases h1:p.op=1
  ·cases h2:hasSpan p.set x with
   | true=>
     rw[h2]at hf
     rw[if_pos ⟨h1,rfl⟩]
     simp +contextual (disch:=omega) only[Try.f52,dd52,go_sem,simprocAttr,mu52,↓wrap_up,↓wrap_down,↓wrap_pred,↓wrap_sub_nat,hn',hq',h1,hf,happ]
     exact(by first|rfl|(refine prep_to (n:=1) (m:=⟨some [12,11,10,7,2,0],some 1,[]⟩) rfl rfl ?_ ?_ ?_<;>first|rfl|(simp[keepT,AV.underL,AV.under,MB.under,underL_plain,under_plain,underL_append,plain_ints,plain_span,plain_ins,plain_prg,-List.map_take,-List.map_replicate,-List.map_set,plain_nv];done)|(simp[keepT,AV.underL,AV.under,MB.under,underL_plain,under_plain,underL_append,plain_ints,plain_span,plain_ins,plain_prg,-List.map_take,-List.map_replicate,-List.map_set,plain_nv];omega)))
   | false=>
     rw[h2]at hf
     rw[if_neg (by simp)]
     simp +contextual (disch:=omega) only[Try.f52,dd52,go_sem,simprocAttr,mu52,↓wrap_up,↓wrap_down,↓wrap_pred,↓wrap_sub_nat,hn',hq',h1,hf]
     exact(by first|rfl|(refine prep_to (n:=1) (m:=⟨some [12,11,10,7,2,0],some 1,[]⟩) rfl rfl ?_ ?_ ?_<;>first|rfl|(simp[keepT,AV.underL,AV.under,MB.under,underL_plain,under_plain,underL_append,plain_ints,plain_span,plain_ins,plain_prg,-List.map_take,-List.map_replicate,-List.map_set,plain_nv];done)|(simp[keepT,AV.underL,AV.under,MB.under,underL_plain,under_plain,underL_append,plain_ints,plain_span,plain_ins,plain_prg,-List.map_take,-List.map_replicate,-List.map_set,plain_nv];omega)))
  ·rw[if_neg (by simp[h1])]
   simp +contextual (disch:=omega) only[Try.f52,dd52,go_sem,simprocAttr,mu52,↓wrap_up,↓wrap_down,↓wrap_pred,↓wrap_sub_nat,hn',hq',h1]
   exact(by first|rfl|(refine prep_to (n:=1) (m:=⟨some [12,11,10,7,2,0],some 1,[]⟩) rfl rfl ?_ ?_ ?_<;>first|rfl|(simp[keepT,AV.underL,AV.under,MB.under,underL_plain,under_plain,underL_append,plain_ints,plain_span,plain_ins,plain_prg,-List.map_take,-List.map_replicate,-List.map_set,plain_nv];done)|(simp[keepT,AV.underL,AV.under,MB.under,underL_plain,under_plain,underL_append,plain_ints,plain_span,plain_ins,plain_prg,-List.map_take,-List.map_replicate,-List.map_set,plain_nv];omega)))
 ·intro _
  rw[List.take_of_length_le (Nat.le_refl _)]
  simp +contextual (disch:=omega) only[Try.f52,dd52,go_sem,simprocAttr,evAppend,mu52,↓wrap_up,↓wrap_down,↓wrap_pred,↓wrap_sub_nat]
  exact⟨_,fz_row (k:=1) (els:=(afterL ins l x).map NV) rfl (by simp) (plain_nv _)⟩
 ·simp only[List.take_zero,afterL,List.flatMap_nil,List.map_nil,List.length_nil];exact(by first|rfl|(refine prep_to (n:=1) (m:=⟨some [12,11,10,7,2,0],some 1,[]⟩) rfl rfl ?_ ?_ ?_<;>first|rfl|(simp[keepT,AV.underL,AV.under,MB.under,underL_plain,under_plain,underL_append,plain_ints,plain_span,plain_ins,plain_prg,-List.map_take,-List.map_replicate,-List.map_set,plain_nv];done)|(simp[keepT,AV.underL,AV.under,MB.under,underL_plain,under_plain,underL_append,plain_ints,plain_span,plain_ins,plain_prg,-List.map_take,-List.map_replicate,-List.map_set,plain_nv];omega)))
end
section
attribute [local go_sem] evAppend
open Go.Proofs Go.RowKit Go.IntWalk
set_option maxRecDepth 100000
set_option maxHeartbeats 8000000
structure CS where
 L:List (List Nat)
 made:Nat
 emptied:Nat
def CS.need (c:CS) (size:Nat) (l:List Nat):CS:=
 if l=[] then c
 else if l∈c.L then c
 else if c.L.length=size then⟨[l],c.made+1,c.emptied+1⟩
 else⟨c.L++[l],c.made+1,c.emptied⟩
structure Lay2 where
 st:Nat→Option (List Nat×Nat)
 nx:Nat→Option (List Nat)
def Lay2.le (a b:Lay2):Prop:=(∀ i x,a.st i=some x→b.st i=some x)∧(∀ i x,a.nx i=some x→b.nx i=some x)
abbrev stAV (b:Bool) (l:List Nat) (m:AV) (f:Nat):AV:=.agg [.sl b (l.map NV),m,NV f]
abbrev dfaAV (ins:List Ins) (first:List Nat) (size:Nat) (C:Nat) (c:CS):AV:=.agg [.sl false (ins.map insAV),.sl false (first.map NV),NV size,.mpr C,NV c.made,NV c.emptied]
structure DI (ins:List Ins) (first:List Nat) (size:Nat) (P:Nat→Prop) (D C:Nat) (a:Lay2) (c:CS) (H:List MB):Prop where
 d:H[D]?=some (.row 6 [dfaAV ins first size C c] 0)
 lo:(∀ i,P i→i < H.length)∧(¬ P D∧¬ P C)∧(∀ i x,a.st i=some x→¬ P i)∧(∀ i x,a.nx i=some x→¬ P i)
 cache:∃ es:List (AV×AV),H[C]?=some (.mp .str es)∧es.length=c.L.length∧∀(i:Nat) (l:List Nat),c.L[i]?=some l→l≠[]∧(∀ n∈l,n < 65536)∧∃ t,es[i]?=some (AV.str (keyS l),AV.rf t 1 0 0)∧a.st t=some (l,c.emptied)
 st:∀ t l f,a.st t=some (l,f)→∃ b m,H[t]?=some (.row 3 [stAV b l m f] 0)∧(∀ n∈l,n < ins.length)∧l.length≤ins.length∧f≤c.emptied∧(l≠[]→f=c.emptied→l∈c.L)∧(l≠[]→b=false∧∃ q,m=.mpr q∧a.nx q=some l)
 nx:∀ q l,a.nx q=some l→∃ es,H[q]?=some (.mp (.int .i64) es)∧∀ k v,(k,v)∈es→∃ x t f,k=I x∧v=.rf t 1 0 0∧a.st t=some (stateL ins (afterL ins l x),f)
 small:c.made≤4000000000000∧c.emptied≤c.made∧c.L.length≤size∧1≤size∧size≤1024
theorem findMp_mem {x v:AV} {es:List (AV×AV)} (h:findMp x es=some v):∃ k,(k,v)∈es∧AV.beq k x=true:=by
 induction es with
 | nil=>cases h
 | cons p es ih=>
   obtain⟨k,u⟩:=p
   simp only[findMp]at h
   split at h
   ·rename_i hb
    cases h
    exact⟨k,.head _,hb⟩
   ·obtain⟨k',h1,h2⟩:=ih h
    exact⟨k',.tail _ h1,h2⟩
theorem updMp_mem {x v k u:AV} {es:List (AV×AV)} (h:(k,u)∈updMp x v es):(k,u)∈es∨(u=v∧(k=x∨AV.beq k x=true)):=by
 induction es with
 | nil=>
   simp only[updMp,List.mem_singleton,Prod.mk.injEq]at h
   exact .inr ⟨h.2,.inl h.1⟩
 | cons p es ih=>
   obtain⟨k',u'⟩:=p
   simp only[updMp]at h
   split at h
   ·rename_i hb
    rcases List.mem_cons.1 h with h|h
    ·cases h;exact .inr ⟨rfl,.inr hb⟩
    ·exact .inl (.tail _ h)
   ·rcases List.mem_cons.1 h with h|h
    ·cases h;exact .inl (.head _)
    ·rcases ih h with h|h
     ·exact .inl (.tail _ h)
     ·exact .inr h
theorem beq_str {k:AV} {b:ByteArray}:AV.beq k (.str b)=true↔k=.str b:=by
 cases k<;>simp[AV.beq]
theorem beq_I {k:AV} {b:Int}:AV.beq k (I b)=true↔k=I b:=by
 cases k<;>simp[AV.beq]
theorem map8_inj:∀ {a b:List Int},(∀ x∈a,0≤x∧x < 256)→(∀ x∈b,0≤x∧x < 256)→a.map (fun n=>UInt8.ofNat n.toNat)=b.map (fun n=>UInt8.ofNat n.toNat)→a=b
 | [],[],_,_,_=>rfl
 | [],_::_,_,_,h=>by simp at h
 | _::_,[],_,_,h=>by simp at h
 | x::a,y::b,ha,hb,h=>by
   simp only[List.map_cons,List.cons.injEq]at h
   have hx:=ha x (.head _)
   have hy:=hb y (.head _)
   have h1:x=y:=by
    have:=congrArg UInt8.toNat h.1
    simp at this
    omega
   rw[h1,map8_inj (fun z hz=>ha z (.tail _ hz)) (fun z hz=>hb z (.tail _ hz)) h.2]
theorem strB_inj {a b:List Int} (ha:∀ x∈a,0≤x∧x < 256) (hb:∀ x∈b,0≤x∧x < 256) (h:strB a=strB b):a=b:=by
 simp only[strB,ByteArray.mk.injEq,Array.mk.injEq]at h
 exact map8_inj ha hb (by simpa using h)
theorem keyI_range (l:List Nat):∀ x∈keyI l,0≤x∧x < 256:=by
 intro x hx
 simp only[keyI,List.mem_flatMap,List.mem_cons,List.not_mem_nil,or_false]at hx
 obtain⟨n,_,h|h⟩:=hx<;>omega
theorem keyI_inj:∀ {a b:List Nat},(∀ n∈a,n < 65536)→(∀ n∈b,n < 65536)→keyI a=keyI b→a=b
 | [],[],_,_,_=>rfl
 | [],_::_,_,_,h=>by simp[keyI]at h
 | _::_,[],_,_,h=>by simp[keyI]at h
 | x::a,y::b,ha,hb,h=>by
   simp only[keyI,List.flatMap_cons,List.cons_append,List.nil_append,List.cons.injEq]at h
   have hx:=ha x (.head _)
   have hy:=hb y (.head _)
   have h1:x=y:=by omega
   rw[h1,keyI_inj (fun z hz=>ha z (.tail _ hz)) (fun z hz=>hb z (.tail _ hz)) h.2.2]
theorem keyS_inj {a b:List Nat} (ha:∀ n∈a,n < 65536) (hb:∀ n∈b,n < 65536) (h:keyS a=keyS b):a=b:=
 keyI_inj ha hb (strB_inj (keyI_range a) (keyI_range b) h)
def own2 (H:List MB) (D C:Nat) (x y:MB) (K:List MB):List MB:=(H.set D x).set C y++K
theorem own2_D {H:List MB} {D C:Nat} (hD:D < H.length) (hC:C < H.length) (hn:D≠C) (x y:MB) (K:List MB):(own2 H D C x y K)[D]?=some x:=by
 unfold own2
 rw[List.getElem?_append_left (by simpa using hD),List.getElem?_set_ne (Ne.symm hn),List.getElem?_set_self hD]
theorem own2_C {H:List MB} {D C:Nat} (hD:D < H.length) (hC:C < H.length) (hn:D≠C) (x y:MB) (K:List MB):(own2 H D C x y K)[C]?=some y:=by
 unfold own2
 rw[List.getElem?_append_left (by simpa using hC),List.getElem?_set_self (by simpa using hC)]
theorem own2_setD {H:List MB} {D C:Nat} (hD:D < H.length) (hC:C < H.length) (hn:D≠C) (x y v:MB) (K:List MB):(own2 H D C x y K).set D v=own2 H D C v y K:=by
 unfold own2
 rw[List.set_append_left _ _ (by simpa using hD),List.set_comm _ _ (Ne.symm hn),List.set_set]
theorem own2_setC {H:List MB} {D C:Nat} (hD:D < H.length) (hC:C < H.length) (hn:D≠C) (x y v:MB) (K:List MB):(own2 H D C x y K).set C v=own2 H D C x v K:=by
 unfold own2
 rw[List.set_append_left _ _ (by simpa using hC),List.set_set]
section
variable {H:List MB} {D C:Nat} (x y v:MB) (K:List MB)
theorem own2_app:own2 H D C x y K++[v]=own2 H D C x y (K++[v]):=by simp[own2]
theorem own2_len:(own2 H D C x y K).length=H.length+K.length:=by simp[own2]
theorem own2_ne {i:Nat} (h1:i≠D) (h2:i≠C) (hi:i < H.length):(own2 H D C x y K)[i]?=H[i]?:=by
 unfold own2
 rw[List.getElem?_append_left (by simpa using hi),List.getElem?_set_ne (Ne.symm h2),List.getElem?_set_ne (Ne.symm h1)]
theorem own2_new {k:Nat}:(own2 H D C x y K)[H.length+k]?=K[k]?:=by
 unfold own2
 rw[List.getElem?_append_right (by simp)]
 congr 1
 simp
theorem own2_self (h1:H[D]?=some x) (h2:H[C]?=some y):own2 H D C x y []=H:=by
 unfold own2
 rw[List.append_nil]
 have e1:H.set D x=H:=by
  apply List.ext_getElem?
  intro q
  by_cases e:D=q
  ·subst e;rw[List.getElem?_set_self (List.getElem?_eq_some_iff.1 h1).1,h1]
  ·rw[List.getElem?_set_ne e]
 rw[e1]
 apply List.ext_getElem?
 intro q
 by_cases e:C=q
 ·subst e;rw[List.getElem?_set_self (List.getElem?_eq_some_iff.1 h2).1,h2]
 ·rw[List.getElem?_set_ne e]
end
section
variable {ins:List Ins} {first:List Nat} {size:Nat} {P:Nat→Prop} {D C:Nat} {a:Lay2} {c:CS} {H:List MB}
theorem DI.find (h:DI ins first size P D C a c H) {l:List Nat} (hl:∀ n∈l,n < 65536) {es:List (AV×AV)} (he:H[C]?=some (.mp .str es)) :
  (l∈c.L∧∃ t,findMp (.str (keyS l)) es=some (.rf t 1 0 0)∧a.st t=some (l,c.emptied))∨(l ∉ c.L∧findMp (.str (keyS l)) es=none):=by
 obtain⟨es',e1,e2,e3⟩:=h.cache
 rw[he]at e1
 cases e1
 cases hf:findMp (.str (keyS l)) es with
 | some v=>
   obtain⟨k,m1,m2⟩:=findMp_mem hf
   rw[beq_str]at m2
   subst m2
   obtain⟨i,hi,hg⟩:=List.getElem_of_mem m1
   obtain⟨l',hl'⟩:∃ l',c.L[i]?=some l':=⟨_,List.getElem?_eq_getElem (by omega)⟩
   obtain⟨b1,b2,t,b3,b4⟩:=e3 i l' hl'
   rw[List.getElem?_eq_getElem hi,hg]at b3
   simp only[Option.some.injEq,Prod.mk.injEq,AV.str.injEq]at b3
   obtain⟨b5,rfl⟩:=b3
   have:=keyS_inj hl b2 b5
   subst this
   exact .inl ⟨List.mem_of_getElem? hl',t,rfl,b4⟩
 | none=>
   refine .inr ⟨fun hm=>?_,rfl⟩
   obtain⟨i,hi,hg⟩:=List.getElem_of_mem hm
   obtain⟨_,_,t,b3,_⟩:=e3 i l (by rw[← hg];exact List.getElem?_eq_getElem hi)
   have hne:∀ {es:List (AV×AV)} {i:Nat} {k v:AV},es[i]?=some (k,v)→AV.beq k k=true→findMp k es≠none:=by
    intro es
    induction es with
    | nil=>intro i k v h;simp at h
    | cons p es ih=>
      intro i k v h hb
      obtain⟨k',u'⟩:=p
      simp only[findMp]
      split
      ·simp
      ·cases i with
       | zero=>simp at h;rename_i hx;rw[h.1]at hx;exact absurd hb hx
       | succ i=>exact ih (by simpa using h) hb
   exact hne b3 (beq_str.2 rfl) hf
end
end
section
attribute [local go_sem] evAppend
open Go.Proofs Go.RowKit Go.IntWalk
set_option maxRecDepth 100000
set_option maxHeartbeats 8000000
def KeepsLow (P:Nat→Prop) (H H':List MB):Prop:=H.length≤H'.length∧∀ i,P i→H'[i]?=H[i]?
theorem KeepsLow.refl (P:Nat→Prop) (H:List MB):KeepsLow P H H:=⟨Nat.le_refl _,fun _ _=>rfl⟩
theorem KeepsLow.trans {P:Nat→Prop} {H H' H'':List MB} (h:KeepsLow P H H') (h2:KeepsLow P H' H''):KeepsLow P H H'':=⟨Nat.le_trans h.1 h2.1,fun i hi=>(h2.2 i hi).trans (h.2 i hi)⟩
theorem Lay2.le_refl (a:Lay2):a.le a:=⟨fun _ _ h=>h,fun _ _ h=>h⟩
theorem Lay2.le_trans {a b c:Lay2} (h:a.le b) (h2:b.le c):a.le c:=⟨fun i x hx=>h2.1 i x (h.1 i x hx),fun i x hx=>h2.2 i x (h.2 i x hx)⟩
section
variable {ins:List Ins} {first:List Nat} {size:Nat} {P:Nat→Prop} {D C:Nat} {a:Lay2} {c:CS} {H:List MB}
theorem DI.st_at (h:DI ins first size P D C a c H) {t:Nat} {x:List Nat×Nat} (ht:a.st t=some x):t < H.length∧t≠D∧t≠C:=by
 obtain⟨l,f⟩:=x
 obtain⟨b,m,h1,_⟩:=h.st t l f ht
 refine⟨(List.getElem?_eq_some_iff.1 h1).1,fun e=>?_,fun e=>?_⟩
 ·rw[e,h.d]at h1;simp at h1
 ·obtain⟨es,h2,_⟩:=h.cache
  rw[e,h2]at h1;cases h1
theorem DI.nx_at (h:DI ins first size P D C a c H) {q:Nat} {x:List Nat} (hq:a.nx q=some x):q < H.length∧q≠D∧q≠C:=by
 obtain⟨es',h1,_⟩:=h.nx q x hq
 refine⟨(List.getElem?_eq_some_iff.1 h1).1,fun e=>?_,fun e=>?_⟩
 ·rw[e,h.d]at h1;cases h1
 ·obtain⟨es,h2,_⟩:=h.cache
  rw[e,h2]at h1;simp at h1
theorem DI.dead (h:DI ins first size P D C a c H) (x:MB) (hx:x=.row 3 [stAV true [] .nilm 0] 0) :
  DI ins first size P D C ⟨fun i=>if i=H.length then some ([],0) else a.st i,a.nx⟩ c (H++[x])∧a.le ⟨fun i=>if i=H.length then some ([],0) else a.st i,a.nx⟩:=by
 have old:∀ i,i < H.length→(H++[x])[i]?=H[i]?:=fun i hi=>List.getElem?_append_left hi
 have hD:=(List.getElem?_eq_some_iff.1 h.d).1
 obtain⟨es,hC,hes,hce⟩:=h.cache
 have hCl:=(List.getElem?_eq_some_iff.1 hC).1
 have hne:∀ t y,a.st t=some y→t≠H.length:=fun t y ht=>by have:=(h.st_at ht).1;omega
 have hle:a.le ⟨fun i=>if i=H.length then some ([],0) else a.st i,a.nx⟩:=⟨fun i y hy=>by simp[hne i y hy,hy],fun _ _ h=>h⟩
 refine⟨⟨by rw[old _ hD];exact h.d,⟨fun i hi=>by rw[List.length_append];have:=h.lo.1 i hi;omega,h.lo.2.1,fun i y hy=>?_,h.lo.2.2.2⟩,⟨es,by rw[old _ hCl];exact hC,hes,fun i l hi=>?_⟩,fun t l f ht=>?_,fun q l hq=>?_,h.small⟩,hle⟩
 ·simp only at hy
  split at hy
  ·rename_i e;exact fun hp=>by have:=h.lo.1 i hp;omega
  ·exact h.lo.2.2.1 i y hy
 ·obtain⟨b1,b2,t,b3,b4⟩:=hce i l hi
  exact⟨b1,b2,t,b3,hle.1 _ _ b4⟩
 ·simp only at ht
  split at ht
  ·rename_i e
   cases ht
   subst e
   exact⟨true,.nilm,by simp[hx],(fun n hn=>by cases hn),Nat.zero_le _,Nat.zero_le _,fun h=>absurd rfl h,fun h=>absurd rfl h⟩
  ·obtain⟨b,m,c1,c2,c3,c4,c5,c6⟩:=h.st t l f ht
   exact⟨b,m,by rw[old _ (h.st_at ht).1];exact c1,c2,c3,c4,c5,c6⟩
 ·obtain⟨es',d1,d2⟩:=h.nx q l hq
  refine⟨es',by rw[old _ (h.nx_at hq).1];exact d1,fun k v hm=>?_⟩
  obtain⟨y,t,f,e1,e2,e3⟩:=d2 k v hm
  exact⟨y,t,f,e1,e2,hle.1 _ _ e3⟩
abbrev layN (a:Lay2) (n:Nat) (l:List Nat) (f:Nat):Lay2:=⟨fun i=>if i=n+1 then some (l,f) else a.st i,fun i=>if i=n then some l else a.nx i⟩
theorem DI.made (h:DI ins first size P D C a c H) {l:List Nat} (hl:∀ n∈l,n < ins.length) (hll:l.length≤ins.length) (h0:l≠[]) (hN:ins.length≤8192) (c':CS) (es':List (AV×AV)) (hes:es'.length=c'.L.length)
  (hc:∀(i:Nat) (l':List Nat),c'.L[i]?=some l'→(l' = l∧es'[i]?=some (AV.str (keyS l),AV.rf (H.length+1) 1 0 0))∨(c'.emptied=c.emptied∧∃ es:List (AV×AV),H[C]?=some (.mp .str es)∧c.L[i]?=some l'∧es'[i]?=es[i]?))
  (he:c.emptied≤c'.emptied) (hin:l∈c'.L) (hold:c'.emptied=c.emptied→∀ x∈c.L,x∈c'.L) (hold2:c'.emptied=c.emptied∨c.emptied < c'.emptied)
  (hs:c'.made≤4000000000000∧c'.emptied≤c'.made∧c'.L.length≤size∧1≤size∧size≤1024) :
  DI ins first size P D C (layN a H.length l c'.emptied) c' (own2 H D C (.row 6 [dfaAV ins first size C c'] 0) (.mp .str es') [.mp (.int .i64) [],.row 3 [stAV false l (.mpr H.length) c'.emptied] 0])∧a.le (layN a H.length l c'.emptied):=by
 have hDl:=(List.getElem?_eq_some_iff.1 h.d).1
 obtain⟨es,hC,hes0,hce⟩:=h.cache
 have hCl:=(List.getElem?_eq_some_iff.1 hC).1
 have hDC:D≠C:=fun e=>by rw[← e,h.d]at hC;cases hC
 have hne:∀ t y,a.st t=some y→t≠H.length+1:=fun t y ht=>by have:=(h.st_at ht).1;omega
 have hne2:∀ t y,a.nx t=some y→t≠H.length:=fun t y ht=>by have:=(h.nx_at ht).1;omega
 have hle:a.le (layN a H.length l c'.emptied):=⟨fun i y hy=>by simp[layN,hne i y hy,hy],fun i y hy=>by simp[layN,hne2 i y hy,hy]⟩
 have hlo:=h.lo
 refine⟨⟨own2_D hDl hCl hDC _ _ _,⟨fun i hi=>by rw[own2_len];have:=hlo.1 i hi;omega,hlo.2.1,fun i y hy=>?_,fun i y hy=>?_⟩,⟨es',own2_C hDl hCl hDC _ _ _,hes,fun i l' hi=>?_⟩,fun t l' f ht=>?_,fun q l' hq=>?_,hs⟩,hle⟩
 ·simp only[layN]at hy
  split at hy
  ·exact fun hp=>by have:=hlo.1 i hp;omega
  ·exact hlo.2.2.1 i y hy
 ·simp only[layN]at hy
  split at hy
  ·exact fun hp=>by have:=hlo.1 i hp;omega
  ·exact hlo.2.2.2 i y hy
 ·rcases hc i l' hi with ⟨rfl,e2⟩|⟨e1,es0,e2,e3,e4⟩
  ·exact⟨h0,fun n hn=>by have:=hl n hn;omega,_,e2,by simp[layN]⟩
  ·rw[hC]at e2;cases e2
   obtain⟨b1,b2,t,b3,b4⟩:=hce i l' e3
   exact⟨b1,b2,t,by rw[e4];exact b3,(hle.1 _ _ b4).trans (by rw[e1])⟩
 ·simp only[layN]at ht
  split at ht
  ·rename_i e
   simp only[Option.some.injEq,Prod.mk.injEq]at ht
   obtain⟨rfl,rfl⟩:=ht
   subst e
   exact⟨false,.mpr H.length,by rw[own2_new];rfl,hl,hll,Nat.le_refl _,fun _ _=>hin,fun _=>⟨rfl,_,rfl,by simp[layN]⟩⟩
  ·obtain⟨b,m,c1,c2,c3,c4,c5,c6⟩:=h.st t l' f ht
   obtain⟨g1,g2,g3⟩:=h.st_at ht
   refine⟨b,m,by rw[own2_ne _ _ _ g2 g3 g1];exact c1,c2,c3,by omega,fun z1 z2=>?_,fun z1=>?_⟩
   ·rcases hold2 with e|e
    ·exact hold e l' (c5 z1 (by omega))
    ·omega
   ·obtain⟨z,q,k1,k2⟩:=c6 z1
    exact⟨z,q,k1,hle.2 _ _ k2⟩
 ·simp only[layN]at hq
  split at hq
  ·rename_i e
   subst e
   exact⟨[],by have:=own2_new (H:=H) (D:=D) (C:=C) (.row 6 [dfaAV ins first size C c'] 0) (.mp .str es') [.mp (.int .i64) [],.row 3 [stAV false l (.mpr H.length) c'.emptied] 0] (k:=0);simpa using this,fun k v hm=>by cases hm⟩
  ·obtain⟨es2,d1,d2⟩:=h.nx q l' hq
   obtain⟨g1,g2,g3⟩:=h.nx_at hq
   refine⟨es2,by rw[own2_ne _ _ _ g2 g3 g1];exact d1,fun k v hm=>?_⟩
   obtain⟨y,t,f,e1,e2,e3⟩:=d2 k v hm
   exact⟨y,t,f,e1,e2,hle.1 _ _ e3⟩
theorem own2_low (h:DI ins first size P D C a c H) (x y:MB) (K:List MB):KeepsLow P H (own2 H D C x y K):=by
 have hlo:=h.lo
 have hDl:=(List.getElem?_eq_some_iff.1 h.d).1
 refine⟨by rw[own2_len];omega,fun i hi=>own2_ne _ _ _ (fun e=>hlo.2.1.1 (e ▸ hi)) (fun e=>hlo.2.1.2 (e ▸ hi)) (hlo.1 i hi)⟩
end
theorem updMp_none {x v:AV}:∀ {es:List (AV×AV)},findMp x es=none→updMp x v es=es++[(x,v)]
 | [],_=>rfl
 | (k,u)::es,h=>by
   simp only[findMp]at h
   split at h
   ·cases h
   ·rename_i hb
    simp only[updMp]
    rw[if_neg hb,updMp_none h]
    rfl
theorem kf47 {ins:List Ins} {first:List Nat} {size:Nat} {P:Nat→Prop} {D C:Nat} {a:Lay2} {c:CS} {H:List MB} (hi:DI ins first size P D C a c H) (hN:ins.length≤8192) (hmd:c.made < 4000000000000) {l:List Nat} (hl:∀ n∈l,n < ins.length) (hll:l.length≤ins.length) :
  ∃ r,(∃ t H' a' f,r=(AV.rf t 1 0 0,H')∧DI ins first size P D C a' (c.need size l) H'∧a.le a'∧a'.st t=some (l,f)∧KeepsLow P H H')∧call Try.prog pol1 47 [.rf D 1 0 0,.sl false (l.map NV)] H=some r:=by
 have hD:=hi.d
 have hDl:=(List.getElem?_eq_some_iff.1 hD).1
 obtain⟨es,hC,hes,hce⟩:=hi.cache
 have hCl:=(List.getElem?_eq_some_iff.1 hC).1
 have hDC:D≠C:=fun e=>by rw[← e,hD]at hC;cases hC
 obtain⟨s1,s2,s3,s4,s5⟩:=hi.small
 have hk:=kf51 l (by omega)
 have oD:=fun x y K=>own2_D (D:=D) (C:=C) hDl hCl hDC x y K
 have oC:=fun x y K=>own2_C (D:=D) (C:=C) hDl hCl hDC x y K
 have oSD:=fun x y v K=>own2_setD (D:=D) (C:=C) hDl hCl hDC x y v K
 have oSC:=fun x y v K=>own2_setC (D:=D) (C:=C) hDl hCl hDC x y v K
 have hself:=own2_self _ _ hD hC
 refine call_run2E (pol:=pol1) Try.func47 rfl rfl rfl rfl (frzArgs_mix _ _ _ rfl) ?_
 rw[← hself]
 have rp:∀ H1 r H,retPol pol1 47 H1 r H=some (r,H):=fun H1 r H=>rfl
 by_cases h0:l=[]
 ·subst h0
  simp +contextual (disch:=omega) only[Try.f47,dd47,go_sem,simprocAttr,mu47,↓wrap_up,↓wrap_down,↓wrap_pred,↓wrap_sub_nat,oD,oC,oSD,oSC,own2_app,own2_len]
  refine⟨_,⟨_,_,⟨fun i=>if i=H.length then some ([],0) else a.st i,a.nx⟩,0,rfl,?_⟩,rp _ _ _⟩
  rw[show own2 H D C (.row 6 [dfaAV ins first size C c] 0) (.mp .str es) [.row 3 [.agg [.sl true [],.nilm,.int .i64 0]] 0]=H++[.row 3 [stAV true [] .nilm 0] 0] from(own2_app _ _ _ []).symm.trans (by rw[hself];rfl),hself]
  obtain⟨g1,g2⟩:=hi.dead _ rfl
  exact⟨g1,g2,by simp,⟨by simp,fun i hi2=>List.getElem?_append_left (hi.lo.1 i hi2)⟩⟩
 have hl0:((l.length:Nat):Int)=0↔False:=by
  have:l.length≠0:=fun e=>h0 (List.length_eq_zero_iff.1 e)
  exact⟨fun h=>this (by omega),False.elim⟩
 rcases hi.find (l:=l) (fun n hn=>by have:=hl n hn;omega) hC with ⟨hm,t,ht,hst⟩|⟨hm,ht⟩
 ·simp +contextual (disch:=omega) only[Try.f47,dd47,go_sem,simprocAttr,mu47,↓wrap_up,↓wrap_down,↓wrap_pred,↓wrap_sub_nat,oD,oC,oSD,oSC,own2_app,own2_len,hl0,hk,ht]
  refine⟨False.elim,fun _=>⟨_,⟨_,_,a,c.emptied,rfl,?_⟩,rp _ _ _⟩⟩
  rw[hself]
  refine⟨?_,a.le_refl,hst,.refl _ _⟩
  unfold CS.need
  rw[if_neg h0,if_pos hm]
  exact hi
 ·by_cases hfull:c.L.length=size
  ·simp +contextual (disch:=omega) only[Try.f47,dd47,go_sem,simprocAttr,mu47,↓wrap_up,↓wrap_down,↓wrap_pred,↓wrap_sub_nat,oD,oC,oSD,oSC,own2_app,own2_len,hl0,hk,ht,lenMp,evClear,hes,hfull]
   refine⟨False.elim,fun _=>⟨by unfold dOk;kernel_rfl,_,⟨_,_,layN a H.length l (c.emptied+1),c.emptied+1,rfl,?_⟩,rp _ _ _⟩⟩
   rw[hself]
   have hn:c.need size l=⟨[l],c.made+1,c.emptied+1⟩:=by unfold CS.need;rw[if_neg h0,if_neg hm,if_pos hfull]
   rw[hn]
   obtain⟨g1,g2⟩:=hi.made hl hll h0 hN ⟨[l],c.made+1,c.emptied+1⟩ [(.str (keyS l),.rf (H.length+1) 1 0 0)] rfl (fun i l' h=>by
    cases i with
    | zero=>simp at h;exact .inl ⟨h.symm,rfl⟩
    | succ i=>simp at h) (Nat.le_succ _) (by simp) (fun h=>by simp at h) (.inr (Nat.lt_succ_self _)) ⟨by simp only;omega,by simp only;omega,by simp only[List.length_singleton];omega,s4,s5⟩
   exact⟨g1,g2,by simp[layN],own2_low hi _ _ _⟩
  ·simp +contextual (disch:=omega) only[Try.f47,dd47,go_sem,simprocAttr,mu47,↓wrap_up,↓wrap_down,↓wrap_pred,↓wrap_sub_nat,oD,oC,oSD,oSC,own2_app,own2_len,hl0,hk,ht,lenMp,evClear,hes,hfull]
   refine⟨False.elim,fun _=>⟨by unfold dOk;kernel_rfl,_,⟨_,_,layN a H.length l c.emptied,c.emptied,rfl,?_⟩,rp _ _ _⟩⟩
   rw[hself,updMp_none ht]
   have hn:c.need size l=⟨c.L++[l],c.made+1,c.emptied⟩:=by unfold CS.need;rw[if_neg h0,if_neg hm,if_neg hfull]
   rw[hn]
   obtain⟨g1,g2⟩:=hi.made hl hll h0 hN ⟨c.L++[l],c.made+1,c.emptied⟩ (es++[(.str (keyS l),.rf (H.length+1) 1 0 0)]) (by simp[hes]) (fun i l' h=>by
    by_cases hlt:i < c.L.length
    ·rw[List.getElem?_append_left hlt]at h
     exact .inr ⟨rfl,es,hC,h,List.getElem?_append_left (by omega)⟩
    ·have hi3:i=c.L.length:=by
      have:=(List.getElem?_eq_some_iff.1 h).1
      simp at this;omega
     subst hi3
     simp at h
     exact .inl ⟨h.symm,by rw[← hes];simp⟩) (Nat.le_refl _) (by simp) (fun _ x hx=>List.mem_append_left _ hx) (.inl rfl) ⟨by simp only;omega,by simp only;omega,by simp only[List.length_append,List.length_singleton];omega,s4,s5⟩
   exact⟨g1,g2,by simp[layN],own2_low hi _ _ _⟩
end
section
attribute [local go_sem] evAppend
open Go.Proofs Go.RowKit Go.IntWalk
set_option maxRecDepth 100000
set_option maxHeartbeats 8000000
section
variable {ins:List Ins} {first:List Nat} {size:Nat} {P:Nat→Prop} {D C:Nat} {a:Lay2} {c:CS} {H:List MB}
theorem DI.setNx (h:DI ins first size P D C a c H) {q:Nat} {l:List Nat} (hq:a.nx q=some l) (es:List (AV×AV)) (hes:∀ k v,(k,v)∈es→∃ x t f,k=I x∧v=.rf t 1 0 0∧a.st t=some (stateL ins (afterL ins l x),f)) :
  DI ins first size P D C a c (H.set q (.mp (.int .i64) es))∧KeepsLow P H (H.set q (.mp (.int .i64) es)):=by
 obtain⟨g1,g2,g3⟩:=h.nx_at hq
 have hlo:=h.lo.2.2.2 q l hq
 have old:∀ i,i≠q→(H.set q (.mp (.int .i64) es))[i]?=H[i]?:=fun i hi=>List.getElem?_set_ne (Ne.symm hi)
 obtain⟨es0,hC,hes0,hce⟩:=h.cache
 obtain⟨es1,hq1,hq2⟩:=h.nx q l hq
 refine⟨⟨by rw[old _ (Ne.symm g2)];exact h.d,⟨fun i hi=>by rw[List.length_set];exact h.lo.1 i hi,h.lo.2⟩,⟨es0,by rw[old _ (Ne.symm g3)];exact hC,hes0,hce⟩,fun t l' f ht=>?_,fun q' l' hq'=>?_,h.small⟩,⟨by simp,fun i hi=>old i (fun e=>hlo (e ▸ hi))⟩⟩
 ·obtain⟨b,m,c1,c2⟩:=h.st t l' f ht
  have:t≠q:=fun e=>by rw[e,hq1]at c1;cases c1
  exact⟨b,m,by rw[old _ this];exact c1,c2⟩
 ·by_cases e:q' = q
  ·subst e
   rw[hq]at hq';cases hq'
   exact⟨es,List.getElem?_set_self g1,hes⟩
  ·obtain⟨es2,d1,d2⟩:=h.nx q' l' hq'
   exact⟨es2,by rw[old _ e];exact d1,d2⟩
theorem CS.need_made (c:CS) (size:Nat) (l:List Nat):(c.need size l).made≤c.made+1:=by
 unfold CS.need
 split
 ·omega
 ·split
  ·omega
  ·split<;>simp
end
structure InsOk (ins:List Ins):Prop where
 len:ins.length≤8192
 leads:Leads ins
 sets:∀ i∈ins,i.set.length≤1000000
theorem afterL_lt {ins:List Ins} (h:Leads ins) (l:List Nat) (x:Int):∀ n∈afterL ins l x,n < ins.length:=by
 intro n hn
 simp only[afterL,List.mem_flatMap]at hn
 obtain⟨m,_,hm⟩:=hn
 split at hm
 ·rename_i i hi
  split at hm
  ·rename_i h1
   simp at hm;subst hm
   exact(h m i hi).2.2.2 (.inl h1.1)
  ·simp at hm
 ·simp at hm
abbrev nextL (ins:List Ins) (l:List Nat) (x:Int):List Nat:=stateL ins (afterL ins l x)
theorem kf48 {ins:List Ins} {first:List Nat} {size:Nat} {P:Nat→Prop} {D C:Nat} {a:Lay2} {c:CS} {H:List MB} (hi:DI ins first size P D C a c H) (ho:InsOk ins) (hmd:c.made < 4000000000000) {s:Nat} {l:List Nat} {f:Nat} (hs:a.st s=some (l,f)) (hl0:l≠[]) (x:Int) :
  ∃ r,(∃ t H' a' f,r=(AV.rf t 1 0 0,H')∧DI ins first size P D C a' (c.need size (nextL ins l x)) H'∧a.le a'∧a'.st t=some (nextL ins l x,f)∧KeepsLow P H H')∧call Try.prog pol1 48 [.rf D 1 0 0,.rf s 1 0 0,I x] H=some r:=by
 have hN:=ho.len
 have hD:=hi.d
 obtain⟨b,m,s1,s2,s3,s4,s5,s6⟩:=hi.st s l f hs
 obtain⟨rfl,q,rfl,hq⟩:=s6 hl0
 obtain⟨es,q1,q2⟩:=hi.nx q l hq
 obtain⟨t1,⟨t,H1,a1,f1,rfl,d1,le1,st1,low1⟩,hc47⟩:=kf47 hi hN hmd (l:=nextL ins l x) (stateL_ok ins _).1 (stateL_ok ins _).2
 obtain⟨b',m',u1,u2,u3,u4,u5,u6⟩:=d1.st s l f (le1.1 _ _ hs)
 obtain⟨rfl,q',rfl,hq'⟩:=u6 hl0
 obtain⟨es',v1,v2⟩:=d1.nx q' l hq'
 have hal:=afterL_len ins l x
 have hc52:=kf52 ins (by omega) ho.sets l (by omega) s2 x
 have hc30:=kf30l ins (by omega) ho.leads (afterL ins l x) (by omega) (afterL_lt ho.leads l x)
 have rp:∀ H1 r H,retPol pol1 48 H1 r H=some (r,H):=fun H1 r H=>rfl
 have hsq:s≠q':=fun e=>by rw[e,v1]at u1;cases u1
 have hq'l:=(d1.nx_at hq').1
 have g1:∀ z,(H1.set q' z)[s]?=some (.row 3 [stAV false l (.mpr q') f] 0):=fun z=>by rw[List.getElem?_set_ne (Ne.symm hsq)];exact u1
 have g2:∀ z,(H1.set q' z)[q']?=some z:=fun z=>List.getElem?_set_self hq'l
 have hgood:∀(es2:List (AV×AV)),(∀ k v,(k,v)∈es2→(k,v)∈es')→∀ k v,(k,v)∈updMp (I x) (.rf t 1 0 0) es2→∃ x t f,k=I x∧v=.rf t 1 0 0∧a1.st t=some (stateL ins (afterL ins l x),f):=by
  intro es2 he k v hm
  rcases updMp_mem hm with h|⟨h1,h2⟩
  ·exact v2 k v (he k v h)
  ·refine⟨x,t,f1,?_,h1,st1⟩
   rcases h2 with h2|h2
   ·exact h2
   ·exact beq_I.1 h2
 refine call_run2E (pol:=pol1) Try.func48 rfl rfl rfl rfl (frzArgs_mix _ _ _ rfl) ?_
 have fin:∀(es2:List (AV×AV)),(∀ k v,(k,v)∈es2→(k,v)∈es')→∃ r,(∃ t H' a' f,r=(AV.rf t 1 0 0,H')∧DI ins first size P D C a' (c.need size (nextL ins l x)) H'∧a.le a'∧a'.st t=some (nextL ins l x,f)∧KeepsLow P H H') ∧
   retPol pol1 48 H (.rf t 1 0 0) (H1.set q' (.mp (.int .i64) (updMp (I x) (.rf t 1 0 0) es2)))=some r:=by
  intro es2 he
  obtain⟨w1,w2⟩:=d1.setNx hq' _ (hgood es2 he)
  exact⟨_,⟨t,_,a1,f1,rfl,w1,le1,st1,low1.trans w2⟩,rp _ _ _⟩
 cases hf:findMp (I x) es with
 | some v=>
   obtain⟨k,hm,hb⟩:=findMp_mem hf
   rw[beq_I]at hb
   subst hb
   obtain⟨x',t2,f2,e1,rfl,e3⟩:=q2 _ _ hm
   have e1:x=x':=by simpa using e1
   subst e1
   obtain⟨b2,m2,k1,k2,k3,k4,k5,k6⟩:=hi.st t2 _ _ e3
   by_cases hhit:nextL ins l x=[]∨f2=c.emptied
   ·have hneed:c.need size (nextL ins l x)=c:=by
     unfold CS.need
     by_cases h0:nextL ins l x=[]
     ·rw[if_pos h0]
     ·rw[if_neg h0]
      rcases hhit with h|h
      ·exact absurd h h0
      ·rw[if_pos (k5 h0 h)]
    have hres:∃ r,(∃ t H' a' f,r=(AV.rf t 1 0 0,H')∧DI ins first size P D C a' (c.need size (nextL ins l x)) H'∧a.le a'∧a'.st t=some (nextL ins l x,f)∧KeepsLow P H H')∧retPol pol1 48 H (.rf t2 1 0 0) H=some r:=
     ⟨_,⟨t2,H,a,f2,rfl,by rw[hneed];exact hi,a.le_refl,e3,.refl _ _⟩,rp _ _ _⟩
    by_cases h0:(nextL ins l x).length=0
    ·simp +contextual (disch:=omega) only[Try.f48,dd48,go_sem,simprocAttr,mu48,↓wrap_up,↓wrap_down,↓wrap_pred,↓wrap_sub_nat,hD,s1,q1,hf,k1,h0]
     repeat' (first|intro _|apply And.intro|(unfold dOk;kernel_rfl)|exact St.beq_refl _|(show altO _ _ _ _=true;kernel_rfl)|(show (_ || _)=true;kernel_rfl)|(show (_ && _)=true;kernel_rfl))
     all_goals first|exact hres|omega
    ·have h1:f2=c.emptied:=by
      rcases hhit with h|h
      ·exact absurd (List.length_eq_zero_iff.2 h) h0
      ·exact h
     subst h1
     simp +contextual (disch:=omega) only[Try.f48,dd48,go_sem,simprocAttr,mu48,↓wrap_up,↓wrap_down,↓wrap_pred,↓wrap_sub_nat,hD,s1,q1,hf,k1]
     repeat' (first|intro _|apply And.intro|(unfold dOk;kernel_rfl)|exact St.beq_refl _|(show altO _ _ _ _=true;kernel_rfl)|(show (_ || _)=true;kernel_rfl)|(show (_ && _)=true;kernel_rfl))
     all_goals exact hres
   ·have h0:(stateL ins (afterL ins l x)).length≠0:=fun e=>hhit (.inl (List.length_eq_zero_iff.1 e))
    have h0':((stateL ins (afterL ins l x)).length:Int)=0↔False:=⟨fun h=>h0 (by omega),False.elim⟩
    have h1:((f2:Nat):Int)=(c.emptied:Nat)↔False:=⟨fun h=>hhit (.inr (by omega)),False.elim⟩
    simp +contextual (disch:=omega) only[Try.f48,dd48,go_sem,simprocAttr,mu48,↓wrap_up,↓wrap_down,↓wrap_pred,↓wrap_sub_nat,hD,s1,q1,hf,k1,h0',h1,hc52,hc30,hc47,u1,v1,g1,g2,lenMp,evClear,List.set_set]
    repeat' (first|intro _|apply And.intro|(unfold dOk;kernel_rfl)|exact St.beq_refl _|(show altO _ _ _ _=true;kernel_rfl)|(show (_ || _)=true;kernel_rfl)|(show (_ && _)=true;kernel_rfl))
    all_goals first|contradiction|exact fin [] (fun k v h=>by cases h)|exact fin es' (fun k v h=>h)|trace_state
 | none=>
   simp +contextual (disch:=omega) only[Try.f48,dd48,go_sem,simprocAttr,mu48,↓wrap_up,↓wrap_down,↓wrap_pred,↓wrap_sub_nat,hD,s1,q1,hf,hc52,hc30,hc47,u1,v1,g1,g2,lenMp,evClear,List.set_set]
   repeat' (first|intro _|apply And.intro|(unfold dOk;kernel_rfl)|exact St.beq_refl _|(show altO _ _ _ _=true;kernel_rfl)|(show (_ || _)=true;kernel_rfl)|(show (_ && _)=true;kernel_rfl))
   ·exact fin [] (fun k v h=>by cases h)
   ·exact fin es' (fun k v h=>h)
def doneL (ins:List Ins) (l:List Nat):Bool:=match l.getLast? with
 | some n=>match ins[n]? with
   | some i=>i.op == 0
   | none=>false
 | none=>false
def runL (ins:List Ins):List Int→Nat→List Nat→Int→Int
 | xs,p,l,e=>if l=[] then e else match xs with
   | []=>if doneL ins l=true then(p:Int) else e
   | x::xs=>runL ins xs (p+1) (nextL ins l x) (if doneL ins l=true then(p:Int) else e)
def runC (ins:List Ins) (size:Nat):List Int→List Nat→CS→CS
 | xs,l,c=>if l=[] then c else match xs with
   | []=>c
   | x::xs=>runC ins size xs (nextL ins l x) (c.need size (nextL ins l x))
end
end Go.Ev
