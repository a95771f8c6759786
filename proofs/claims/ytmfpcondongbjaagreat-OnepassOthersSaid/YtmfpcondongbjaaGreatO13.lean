/- Functions of the program, each with what it computes; no further conditions. -/
import Derived.Test.YtmfpcondongbjaaGreatO07
import Derived.Test.YtmfpcondongbjaaGreatO12
set_option linter.unusedVariables false
set_option linter.unusedSimpArgs false
namespace Go.Ev
attribute [local go_sem] evAppend evBin evBuild AV.cells splice List.length_append List.map_append
end Go.Ev
namespace Go.Ev
open Go.Proofs Go.RowKit Go.IntWalk
set_option maxRecDepth 100000
set_option maxHeartbeats 2000000
def badAt (l:List (Int×Int)) (i:Nat):Bool:=
 match l[i]? with
 | some p=>!decide (0≤p.1∧p.1≤p.2∧p.2≤1114111) || (match i with
   | 0=>false
   | k+1=>match l[k]? with
     | some q=>decide (p.1 - q.2 < 2)
     | none=>false)
 | none=>false
def refSpans (l:List (Int×Int)):Int:=if(List.range l.length).any (badAt l) then 1 else if 64 < l.length then 4 else 0
theorem zDv {l:List (Int×Int)} {i:Nat} (hi:i < l.length) (h:badAt l i=true):refSpans l=1:=by
 unfold refSpans
 rw[if_pos]
 exact List.any_eq_true.2 ⟨i,List.mem_range.2 hi,h⟩
theorem zEw {l:List (Int×Int)} (h:∀ k,k < l.length→badAt l k=false):refSpans l=if 64 < l.length then 4 else 0:=by
 unfold refSpans
 rw[if_neg]
 intro h2
 obtain⟨k,h3,h4⟩:=List.any_eq_true.1 h2
 rw[h k (List.mem_range.1 h3)]at h4
 cases h4
end Go.Ev
namespace Go.Ev
open Go.Proofs Go.RowKit Go.IntWalk
set_option maxRecDepth 100000
set_option maxHeartbeats 2000000
theorem f91 (a b:Int) (H:List MB):call Tryz.prog pol1 154 [.agg [.int .i64 a,.int .i64 b]] H=some (.bool (decide (0≤a∧a≤b∧b≤1114111)),H):=by
 refine zAS Tryz.func154 rfl rfl rfl rfl rfl rfl (fun _=>rfl) (by simp[AV.plain,AV.plainL,zAE,zAG,zAH,zAI]) (by simp[AV.plain,AV.plainL,zAE,zAG,zAH,zAI]) ?_ H
 simp only[Tryz.f154,dd154,ty0,ty3,ty4,ty84,↓reduceIte,eq_self,zAZ,zBg,zBy,zBh,zGo,zCZ,zEE,zEF,zDH,zGp,zEC,zED,zDF,zDG,zDI,zBP,zBf,zBQ,zEG,zDJ,zCa,zEI,zDL,zCb,guardV,zA9,zBA,zAy,zCT,zCU,footprint,footprint0,fineF,zBW,zBp,zBX,zCL,zCM,zD4,zD5,zC8,zC0,zCP,zCy,zCz,zC1,zC4,zCR,zC2,zC3,zCQ,zCx,zCO,zCv,zCw,zCN,evOp,evBuiltin,evCall,cfn,yldF,evLen,evAppend,zBe,zBv,List.length_cons,List.length_nil,List.reduceReplicate,Nat.reduceAdd,Nat.reduceSub,List.cons_append,List.nil_append,List.append_nil,if_false,if_true,Bool.false_eq_true,Bool.true_eq_false,reduceCtorEq,Option.map_some,Option.map_none,List.map_cons,List.map_nil,evBinOp,evBin,evUn,zCC,zAw,zAm,zAi,zBa,zBZ,zBY,zCV,zBw,List.getElem?_cons_zero,List.getElem?_cons_succ,evResults,evResult,packRes,zBq,zCJ,cellsAt,mkVal,evFieldAddr,evField,evIndexAddr,evPart,evStore,evBuild,evBuildSlice,fillC,fillE,evSlice,evMakeSlice,evConvert,getRow,AV.cells,List.head?_cons,List.drop_zero,List.drop_succ_cons,List.take_zero,List.take_succ_cons,List.drop_nil,List.take_nil,List.all_cons,List.all_nil,AV.ok,Bool.and_self,Bool.and_true,Bool.true_and,and_self,and_true,true_and,Nat.reduceLeDiff,Nat.reduceMul,Nat.reduceLT,Nat.reduceEqDiff,Nat.zero_add,Nat.add_zero,setCells,splice,pairsOk,pairsX,zB0,zBz,zEA,zEH,zDK,FP.apart,zBC,sameAt_refl,Bool.or_true,Bool.true_or,Bool.or_false,srcElems,elemsOf,mutDst,indDst,thwDst,evLenH,evMapUpd,evLookup,getMp,keyOk,resOk,strOf,zBM,zBN,zBb,List.length_map,List.getElem?_map,Int.toNat_natCast,Int.reduceBNe,Int.reduceBEq,decide_true,decide_false,Bool.not_true,Bool.not_false,List.set,zF8,zF7,zF6,zF5,zF4,zCS,look,zBt,zBd,zBs,zC6,ins,zCr,upd,zCK,rem1,dropT,zBx,initT,zD8,zD9,zD7,zCY,zB1,act1,zCG,updT,frzB,mu154,List.contains_nil,List.contains_cons,Nat.reduceBEq,Bool.or_self]
 repeat' (first|intro _|apply And.intro|refine fzEq rfl ?_)
 all_goals (congr 1;simp only[decide_eq_decide,false_eq_decide_iff];omega)
theorem f121 (l:List (Int×Int)) (hl:l.length≤1000000) (H:List MB):call Tryz.prog pol1 137 [.sl false (l.map spanAV)] H=some (I (refSpans l),H):=by
 refine zAS Tryz.func137 rfl rfl rfl rfl rfl rfl (fun _=>rfl) (by simp[AV.plain,AV.plainL,zAE,zAG,zAH,zAI]) (by simp[AV.plain,AV.plainL,zAE,zAG,zAH,zAI]) ?_ H
 simp only[Tryz.f137,zMX,ty0,ty3,ty4,ty30,ty60,ty84,↓reduceIte,eq_self,zAZ,zBg,zBy,zBh,zGo,zCZ,zEE,zEF,zDH,zGp,zEC,zED,zDF,zDG,zDI,zBP,zBf,zBQ,zEG,zDJ,zCa,zEI,zDL,zCb,guardV,zA9,zBA,zAy,zCT,zCU,footprint,footprint0,fineF,zBW,zBp,zBX,zCL,zCM,zD4,zD5,zC8,zC0,zCP,zCy,zCz,zC1,zC4,zCR,zC2,zC3,zCQ,zCx,zCO,zCv,zCw,zCN,evOp,evBuiltin,evCall,cfn,yldF,evLen,evAppend,zBe,zBv,List.length_cons,List.length_nil,List.reduceReplicate,Nat.reduceAdd,Nat.reduceSub,List.cons_append,List.nil_append,List.append_nil,if_false,if_true,Bool.false_eq_true,Bool.true_eq_false,reduceCtorEq,Option.map_some,Option.map_none,List.map_cons,List.map_nil,evBinOp,evBin,evUn,zCC,zAw,zAm,zAi,zBa,zBZ,zBY,zCV,zBw,List.getElem?_cons_zero,List.getElem?_cons_succ,evResults,evResult,packRes,zBq,zCJ,cellsAt,mkVal,evFieldAddr,evField,evIndexAddr,evPart,evStore,evBuild,evBuildSlice,fillC,fillE,evSlice,evMakeSlice,evConvert,getRow,AV.cells,List.head?_cons,List.drop_zero,List.drop_succ_cons,List.take_zero,List.take_succ_cons,List.drop_nil,List.take_nil,List.all_cons,List.all_nil,AV.ok,Bool.and_self,Bool.and_true,Bool.true_and,and_self,and_true,true_and,Nat.reduceLeDiff,Nat.reduceMul,Nat.reduceLT,Nat.reduceEqDiff,Nat.zero_add,Nat.add_zero,setCells,splice,pairsOk,pairsX,zB0,zBz,zEA,zEH,zDK,FP.apart,zBC,sameAt_refl,Bool.or_true,Bool.true_or,Bool.or_false,srcElems,elemsOf,mutDst,indDst,thwDst,evLenH,evMapUpd,evLookup,getMp,keyOk,resOk,strOf,zBM,zBN,zBb,List.length_map,List.getElem?_map,Int.toNat_natCast,Int.reduceBNe,Int.reduceBEq,decide_true,decide_false,Bool.not_true,Bool.not_false,List.set,zF8,zF7,zF6,zF5,zF4,zCS,look,zBt,zBd,zBs,zC6,ins,zCr,upd,zCK,rem1,dropT,zBx,initT,zD8,zD9,zD7,zCY,zB1,act1,zCG,updT,frzB,zMC,List.contains_nil,List.contains_cons,Nat.reduceBEq,Bool.or_self]
 refine zAd (M:=(mskOf (pol1.mask 137) (pol1.gc 137) (pol1.acts 137) 0 2)) rfl l.length (fun i=>(⟨35,[(7,I i),(6,I l.length),(5,.sl false (l.map spanAV)),(0,.sl false (l.map spanAV))],[]⟩:St)) (fun i=>∀ k,k < i→badAt l k=false) ?_ ?_ (fun k h=>by omega) _ (by first|rfl|(refine zA7 rfl (by rfl) (by rfl) (by rfl) ?_ ?_<;>simp[AV.underL,AV.under,MB.under,zAF,zAJ,zAE,zAG,zAH,zAI,-List.map_take]))
 ·intro i hlt hg
  obtain⟨p,hp⟩:∃ p,l[i]?=some p:=⟨_,List.getElem?_eq_getElem hlt⟩
  have ext:badAt l i=false→∀ k,k < i+1→badAt l k=false:=fun h k hk=>by
   rcases Nat.lt_or_ge k i with h1|h1
   ·exact hg k h1
   ·obtain rfl:k=i:=by omega
    exact h
  by_cases hgd:0≤p.1∧p.1≤p.2∧p.2≤1114111
  ·rcases i with _|i
   ·simp +contextual (disch:=omega) only[Tryz.f137,zMX,ty0,ty3,ty4,ty30,ty60,ty84,↓reduceIte,eq_self,zAZ,zBg,zBy,zBh,zGo,zCZ,zEE,zEF,zDH,zGp,zEC,zED,zDF,zDG,zDI,zBP,zBf,zBQ,zEG,zDJ,zCa,zEI,zDL,zCb,guardV,zA9,zBA,zAy,zCT,zCU,footprint,footprint0,fineF,zBW,zBp,zBX,zCL,zCM,zD4,zD5,zC8,zC0,zCP,zCy,zCz,zC1,zC4,zCR,zC2,zC3,zCQ,zCx,zCO,zCv,zCw,zCN,evOp,evBuiltin,evCall,cfn,yldF,evLen,evAppend,zBe,zBv,List.length_cons,List.length_nil,List.reduceReplicate,Nat.reduceAdd,Nat.reduceSub,List.cons_append,List.nil_append,List.append_nil,if_false,if_true,Bool.false_eq_true,Bool.true_eq_false,reduceCtorEq,Option.map_some,Option.map_none,List.map_cons,List.map_nil,evBinOp,evBin,evUn,zCC,zAw,zAm,zAi,zBa,zBZ,zBY,zCV,zBw,List.getElem?_cons_zero,List.getElem?_cons_succ,evResults,evResult,packRes,zBq,zCJ,cellsAt,mkVal,evFieldAddr,evField,evIndexAddr,evPart,evStore,evBuild,evBuildSlice,fillC,fillE,evSlice,evMakeSlice,evConvert,getRow,AV.cells,List.head?_cons,List.drop_zero,List.drop_succ_cons,List.take_zero,List.take_succ_cons,List.drop_nil,List.take_nil,List.all_cons,List.all_nil,AV.ok,Bool.and_self,Bool.and_true,Bool.true_and,and_self,and_true,true_and,Nat.reduceLeDiff,Nat.reduceMul,Nat.reduceLT,Nat.reduceEqDiff,Nat.zero_add,Nat.add_zero,setCells,splice,pairsOk,pairsX,zB0,zBz,zEA,zEH,zDK,FP.apart,zBC,sameAt_refl,Bool.or_true,Bool.true_or,Bool.or_false,srcElems,elemsOf,mutDst,indDst,thwDst,evLenH,evMapUpd,evLookup,getMp,keyOk,resOk,strOf,zBM,zBN,zBb,List.length_map,List.getElem?_map,Int.toNat_natCast,Int.reduceBNe,Int.reduceBEq,decide_true,decide_false,Bool.not_true,Bool.not_false,List.set,zF8,zF7,zF6,zF5,zF4,zCS,look,zBt,zBd,zBs,zC6,ins,zCr,upd,zCK,rem1,dropT,zBx,initT,zD8,zD9,zD7,zCY,zB1,act1,zCG,updT,frzB,zMC,List.contains_nil,List.contains_cons,Nat.reduceBEq,Bool.or_self,zID,zIE,zIF,zIG,zIH,zII,zIJ,zIK,zIU,zIV,zIQ,zIR,lt_T,le_T,zHl,zHm,↓zAD,↓zAC,↓zAB,↓zAA,i64_in,i64_quo,rem_in,Int.reduceToNat,hp,spanAV,hgd,f91]
    refine⟨by unfold dOk;kernel_rfl,ext ?_,(by first|rfl|(refine zA7 rfl (by rfl) (by rfl) (by rfl) ?_ ?_<;>simp[AV.underL,AV.under,MB.under,zAF,zAJ,zAE,zAG,zAH,zAI,-List.map_take]))⟩
    simp[badAt,hp,hgd]
   ·obtain⟨q,hq⟩:∃ q,l[i]?=some q:=⟨_,List.getElem?_eq_getElem (by omega)⟩
    have hbq:=hg i (by omega)
    simp only[badAt,hq,Bool.or_eq_false_iff,Bool.not_eq_false',decide_eq_true_eq]at hbq
    replace hbq:=hbq.1
    have hb:badAt l (i+1)=decide (p.1 - q.2 < 2):=by simp[badAt,hp,hq,hgd]
    simp +contextual (disch:=omega) only[Tryz.f137,zMX,ty0,ty3,ty4,ty30,ty60,ty84,↓reduceIte,eq_self,zAZ,zBg,zBy,zBh,zGo,zCZ,zEE,zEF,zDH,zGp,zEC,zED,zDF,zDG,zDI,zBP,zBf,zBQ,zEG,zDJ,zCa,zEI,zDL,zCb,guardV,zA9,zBA,zAy,zCT,zCU,footprint,footprint0,fineF,zBW,zBp,zBX,zCL,zCM,zD4,zD5,zC8,zC0,zCP,zCy,zCz,zC1,zC4,zCR,zC2,zC3,zCQ,zCx,zCO,zCv,zCw,zCN,evOp,evBuiltin,evCall,cfn,yldF,evLen,evAppend,zBe,zBv,List.length_cons,List.length_nil,List.reduceReplicate,Nat.reduceAdd,Nat.reduceSub,List.cons_append,List.nil_append,List.append_nil,if_false,if_true,Bool.false_eq_true,Bool.true_eq_false,reduceCtorEq,Option.map_some,Option.map_none,List.map_cons,List.map_nil,evBinOp,evBin,evUn,zCC,zAw,zAm,zAi,zBa,zBZ,zBY,zCV,zBw,List.getElem?_cons_zero,List.getElem?_cons_succ,evResults,evResult,packRes,zBq,zCJ,cellsAt,mkVal,evFieldAddr,evField,evIndexAddr,evPart,evStore,evBuild,evBuildSlice,fillC,fillE,evSlice,evMakeSlice,evConvert,getRow,AV.cells,List.head?_cons,List.drop_zero,List.drop_succ_cons,List.take_zero,List.take_succ_cons,List.drop_nil,List.take_nil,List.all_cons,List.all_nil,AV.ok,Bool.and_self,Bool.and_true,Bool.true_and,and_self,and_true,true_and,Nat.reduceLeDiff,Nat.reduceMul,Nat.reduceLT,Nat.reduceEqDiff,Nat.zero_add,Nat.add_zero,setCells,splice,pairsOk,pairsX,zB0,zBz,zEA,zEH,zDK,FP.apart,zBC,sameAt_refl,Bool.or_true,Bool.true_or,Bool.or_false,srcElems,elemsOf,mutDst,indDst,thwDst,evLenH,evMapUpd,evLookup,getMp,keyOk,resOk,strOf,zBM,zBN,zBb,List.length_map,List.getElem?_map,Int.toNat_natCast,Int.reduceBNe,Int.reduceBEq,decide_true,decide_false,Bool.not_true,Bool.not_false,List.set,zF8,zF7,zF6,zF5,zF4,zCS,look,zBt,zBd,zBs,zC6,ins,zCr,upd,zCK,rem1,dropT,zBx,initT,zD8,zD9,zD7,zCY,zB1,act1,zCG,updT,frzB,zMC,List.contains_nil,List.contains_cons,Nat.reduceBEq,Bool.or_self,zID,zIE,zIF,zIG,zIH,zII,zIJ,zIK,zIU,zIV,zIQ,zIR,lt_T,le_T,zHl,zHm,↓zAD,↓zAC,↓zAB,↓zAA,i64_in,i64_quo,rem_in,Int.reduceToNat,hp,hq,spanAV,hgd,f91]
    refine⟨by unfold dOk;kernel_rfl,fun h=>fzEq rfl ?_,fun h=>⟨ext ?_,(by first|rfl|(refine zA7 rfl (by rfl) (by rfl) (by rfl) ?_ ?_<;>simp[AV.underL,AV.under,MB.under,zAF,zAJ,zAE,zAG,zAH,zAI,-List.map_take]))⟩⟩
    ·rw[zDv hlt];simp[hb];omega
    ·simp[hb];omega
  ·simp +contextual (disch:=omega) only[Tryz.f137,zMX,ty0,ty3,ty4,ty30,ty60,ty84,↓reduceIte,eq_self,zAZ,zBg,zBy,zBh,zGo,zCZ,zEE,zEF,zDH,zGp,zEC,zED,zDF,zDG,zDI,zBP,zBf,zBQ,zEG,zDJ,zCa,zEI,zDL,zCb,guardV,zA9,zBA,zAy,zCT,zCU,footprint,footprint0,fineF,zBW,zBp,zBX,zCL,zCM,zD4,zD5,zC8,zC0,zCP,zCy,zCz,zC1,zC4,zCR,zC2,zC3,zCQ,zCx,zCO,zCv,zCw,zCN,evOp,evBuiltin,evCall,cfn,yldF,evLen,evAppend,zBe,zBv,List.length_cons,List.length_nil,List.reduceReplicate,Nat.reduceAdd,Nat.reduceSub,List.cons_append,List.nil_append,List.append_nil,if_false,if_true,Bool.false_eq_true,Bool.true_eq_false,reduceCtorEq,Option.map_some,Option.map_none,List.map_cons,List.map_nil,evBinOp,evBin,evUn,zCC,zAw,zAm,zAi,zBa,zBZ,zBY,zCV,zBw,List.getElem?_cons_zero,List.getElem?_cons_succ,evResults,evResult,packRes,zBq,zCJ,cellsAt,mkVal,evFieldAddr,evField,evIndexAddr,evPart,evStore,evBuild,evBuildSlice,fillC,fillE,evSlice,evMakeSlice,evConvert,getRow,AV.cells,List.head?_cons,List.drop_zero,List.drop_succ_cons,List.take_zero,List.take_succ_cons,List.drop_nil,List.take_nil,List.all_cons,List.all_nil,AV.ok,Bool.and_self,Bool.and_true,Bool.true_and,and_self,and_true,true_and,Nat.reduceLeDiff,Nat.reduceMul,Nat.reduceLT,Nat.reduceEqDiff,Nat.zero_add,Nat.add_zero,setCells,splice,pairsOk,pairsX,zB0,zBz,zEA,zEH,zDK,FP.apart,zBC,sameAt_refl,Bool.or_true,Bool.true_or,Bool.or_false,srcElems,elemsOf,mutDst,indDst,thwDst,evLenH,evMapUpd,evLookup,getMp,keyOk,resOk,strOf,zBM,zBN,zBb,List.length_map,List.getElem?_map,Int.toNat_natCast,Int.reduceBNe,Int.reduceBEq,decide_true,decide_false,Bool.not_true,Bool.not_false,List.set,zF8,zF7,zF6,zF5,zF4,zCS,look,zBt,zBd,zBs,zC6,ins,zCr,upd,zCK,rem1,dropT,zBx,initT,zD8,zD9,zD7,zCY,zB1,act1,zCG,updT,frzB,zMC,List.contains_nil,List.contains_cons,Nat.reduceBEq,Bool.or_self,zID,zIE,zIF,zIG,zIH,zII,zIJ,zIK,zIU,zIV,zIQ,zIR,lt_T,le_T,zHl,zHm,↓zAD,↓zAC,↓zAB,↓zAA,i64_in,i64_quo,rem_in,Int.reduceToNat,hp,spanAV,hgd,f91]
   refine⟨by unfold dOk;kernel_rfl,fzEq rfl ?_⟩
   rw[zDv hlt (by simp only[badAt,hp];simp only[hgd,decide_false,Bool.not_false,Bool.true_or])]
 ·intro hg
  rw[zEw hg]
  simp +contextual (disch:=omega) only[Tryz.f137,zMX,ty0,ty3,ty4,ty30,ty60,ty84,↓reduceIte,eq_self,zAZ,zBg,zBy,zBh,zGo,zCZ,zEE,zEF,zDH,zGp,zEC,zED,zDF,zDG,zDI,zBP,zBf,zBQ,zEG,zDJ,zCa,zEI,zDL,zCb,guardV,zA9,zBA,zAy,zCT,zCU,footprint,footprint0,fineF,zBW,zBp,zBX,zCL,zCM,zD4,zD5,zC8,zC0,zCP,zCy,zCz,zC1,zC4,zCR,zC2,zC3,zCQ,zCx,zCO,zCv,zCw,zCN,evOp,evBuiltin,evCall,cfn,yldF,evLen,evAppend,zBe,zBv,List.length_cons,List.length_nil,List.reduceReplicate,Nat.reduceAdd,Nat.reduceSub,List.cons_append,List.nil_append,List.append_nil,if_false,if_true,Bool.false_eq_true,Bool.true_eq_false,reduceCtorEq,Option.map_some,Option.map_none,List.map_cons,List.map_nil,evBinOp,evBin,evUn,zCC,zAw,zAm,zAi,zBa,zBZ,zBY,zCV,zBw,List.getElem?_cons_zero,List.getElem?_cons_succ,evResults,evResult,packRes,zBq,zCJ,cellsAt,mkVal,evFieldAddr,evField,evIndexAddr,evPart,evStore,evBuild,evBuildSlice,fillC,fillE,evSlice,evMakeSlice,evConvert,getRow,AV.cells,List.head?_cons,List.drop_zero,List.drop_succ_cons,List.take_zero,List.take_succ_cons,List.drop_nil,List.take_nil,List.all_cons,List.all_nil,AV.ok,Bool.and_self,Bool.and_true,Bool.true_and,and_self,and_true,true_and,Nat.reduceLeDiff,Nat.reduceMul,Nat.reduceLT,Nat.reduceEqDiff,Nat.zero_add,Nat.add_zero,setCells,splice,pairsOk,pairsX,zB0,zBz,zEA,zEH,zDK,FP.apart,zBC,sameAt_refl,Bool.or_true,Bool.true_or,Bool.or_false,srcElems,elemsOf,mutDst,indDst,thwDst,evLenH,evMapUpd,evLookup,getMp,keyOk,resOk,strOf,zBM,zBN,zBb,List.length_map,List.getElem?_map,Int.toNat_natCast,Int.reduceBNe,Int.reduceBEq,decide_true,decide_false,Bool.not_true,Bool.not_false,List.set,zF8,zF7,zF6,zF5,zF4,zCS,look,zBt,zBd,zBs,zC6,ins,zCr,upd,zCK,rem1,dropT,zBx,initT,zD8,zD9,zD7,zCY,zB1,act1,zCG,updT,frzB,zMC,List.contains_nil,List.contains_cons,Nat.reduceBEq,Bool.or_self,zID,zIE,zIF,zIG,zIH,zII,zIJ,zIK,zIU,zIV,zIQ,zIR,lt_T,le_T,zHl,zHm,↓zAD,↓zAC,↓zAB,↓zAA,i64_in,i64_quo,rem_in,Int.reduceToNat]
  refine⟨fun h=>fzEq rfl ?_,fun h=>fzEq rfl ?_⟩
  ·rw[if_pos (by omega)]
  ·rw[if_neg (by omega)]
end Go.Ev
namespace Go.Ev
open Go.Proofs Go.RowKit Go.IntWalk
set_option maxRecDepth 100000
set_option maxHeartbeats 2000000
def lastOk (l:List (Int×Int)) (top:Int):Bool:=
 match l[l.length - 1]? with
 | some p=>decide (p.2≤top)
 | none=>true
def okIns (n:Nat) (caps:Int) (runes:Bool) (i:Ins):Bool:=
 (i.op == 1 || i.set.length == 0) && (i.op == 2 || i.y == 0) && (i.op == 2 || i.op == 3 || i.x == 0) && (i.op == 4 || i.op == 5 || i.n == 0) &&
 (i.op == 0 || (i.op == 1 && (refSpans i.set == 0 && lastOk i.set (if runes then 1114111 else 255))) ||
  (i.op == 2 && (decide (0≤i.x) && decide (i.x < n) && decide (0≤i.y) && decide (i.y < n))) || (i.op == 3 && (decide (0≤i.x) && decide (i.x < n))) ||
  (i.op == 4 && (decide (0≤i.n) && decide (i.n < 2 * caps))) || (i.op == 5 && (decide (0≤i.n) && decide (i.n≤5))))
end Go.Ev
namespace Go.Ev
attribute [local go_sem] evAppend evBin evBuild AV.cells splice List.length_append List.map_append
section
open Go.Proofs Go.RowKit Go.IntWalk
set_option maxRecDepth 100000
set_option maxHeartbeats 4000000
def PrgB (g:Prg):Prop:=g.ins.length≤1000000∧∀ i∈g.ins,i.set.length≤1000000
def lastGood (g:Prg):Bool:=match g.ins[g.ins.length - 1]? with
 | some i=>i.op == 0 || i.op == 2 || i.op == 3
 | none=>false
def validG (g:Prg):Int:=
 if 8192 < g.ins.length then 4
 else if g.ins.length=0∨g.caps < 0∨9 < g.caps then 1
 else if g.ins.all (okIns g.ins.length g.caps g.runes) && lastGood g then 0 else 1
theorem zK4 {g:Prg} (h1:¬ 8192 < g.ins.length) {k:Nat} {i:Ins} (hk:g.ins[k]?=some i) (hb:okIns g.ins.length g.caps g.runes i=false):validG g=1:=by
 have:(g.ins.all (okIns g.ins.length g.caps g.runes))=false:=by
  rw[List.all_eq_false]
  exact⟨i,List.mem_of_getElem? hk,by simp[hb]⟩
 simp[validG,h1,this]
theorem zJi {g:Prg} (h1:¬ 8192 < g.ins.length) (h2:¬(g.ins.length=0∨g.caps < 0∨9 < g.caps)) (ha:∀ k i,k < g.ins.length→g.ins[k]?=some i→okIns g.ins.length g.caps g.runes i=true) :
  validG g=if lastGood g then 0 else 1:=by
 have:(g.ins.all (okIns g.ins.length g.caps g.runes))=true:=by
  rw[List.all_eq_true]
  intro i hi
  obtain⟨k,hk,e⟩:=List.getElem_of_mem hi
  exact ha k i hk (by rw[← e];exact List.getElem?_eq_getElem hk)
 unfold validG
 rw[if_neg h1,if_neg h2,this,Bool.true_and]
end
def vI (n:Nat):List Int:=if n < 128 then [(n:Int)] else((128+n % 128:Nat):Int)::vI (n / 128)
termination_by n
decreasing_by omega
def zz (n:Int):Nat:=if n < 0 then(2 * (-(n+1))+1).toNat else(2 * n).toNat
def iE (n:Int):List Int:=vI (zz n)
end Go.Ev
namespace Go.Ev
open Go.Proofs Go.RowKit Go.IntWalk
set_option maxRecDepth 100000
set_option maxHeartbeats 4000000
def aroundI (n m:Int):Int:=(if n < 0 then - (n+1) else n) % m
def In64 (n:Int):Prop:=-9223372036854775808≤n∧n≤9223372036854775807
theorem zJe {n m:Int} (h:0 < m):0≤aroundI n m∧aroundI n m < m:=by
 unfold aroundI
 have:0≤(if n < 0 then - (n+1) else n):=by split<;>omega
 exact⟨Int.emod_nonneg _ (by omega),Int.emod_lt_of_pos _ h⟩
theorem f12 (n m:Int) (hn:In64 n) (hm:m≠0) (H:List MB):call Tryz.prog pol1 20 [.int .i64 n,.int .i64 m] H=some (I (aroundI n m),H):=by
 obtain⟨h1,h2⟩:=hn
 refine zAS Tryz.func20 rfl rfl rfl rfl rfl rfl (fun _=>rfl) (by simp[AV.plain,AV.plainL,zAE,zAG,zAH,zAI]) (by simp[AV.plain,AV.plainL,zAE,zAG,zAH,zAI]) ?_ H
 simp +contextual (disch:=omega) only[Tryz.f20,dd20,ty3,ty4,↓reduceIte,eq_self,zAZ,zBg,zBy,zBh,zGo,zCZ,zEE,zEF,zDH,zGp,zEC,zED,zDF,zDG,zDI,zBP,zBf,zBQ,zEG,zDJ,zCa,zEI,zDL,zCb,guardV,zA9,zBA,zAy,zCT,zCU,footprint,footprint0,fineF,zBW,zBp,zBX,zCL,zCM,zD4,zD5,zC8,zC0,zCP,zCy,zCz,zC1,zC4,zCR,zC2,zC3,zCQ,zCx,zCO,zCv,zCw,zCN,evOp,evBuiltin,evCall,cfn,yldF,evLen,evAppend,zBe,zBv,List.length_cons,List.length_nil,List.reduceReplicate,Nat.reduceAdd,Nat.reduceSub,List.cons_append,List.nil_append,List.append_nil,if_false,if_true,Bool.false_eq_true,Bool.true_eq_false,reduceCtorEq,Option.map_some,Option.map_none,List.map_cons,List.map_nil,evBinOp,evBin,evUn,zCC,zAw,zAm,zAi,zBa,zBZ,zBY,zCV,zBw,List.getElem?_cons_zero,List.getElem?_cons_succ,evResults,evResult,packRes,zBq,zCJ,cellsAt,mkVal,evFieldAddr,evField,evIndexAddr,evPart,evStore,evBuild,evBuildSlice,fillC,fillE,evSlice,evMakeSlice,evConvert,getRow,AV.cells,List.head?_cons,List.drop_zero,List.drop_succ_cons,List.take_zero,List.take_succ_cons,List.drop_nil,List.take_nil,List.all_cons,List.all_nil,AV.ok,Bool.and_self,Bool.and_true,Bool.true_and,and_self,and_true,true_and,Nat.reduceLeDiff,Nat.reduceMul,Nat.reduceLT,Nat.reduceEqDiff,Nat.zero_add,Nat.add_zero,setCells,splice,pairsOk,pairsX,zB0,zBz,zEA,zEH,zDK,FP.apart,zBC,sameAt_refl,Bool.or_true,Bool.true_or,Bool.or_false,srcElems,elemsOf,mutDst,indDst,thwDst,evLenH,evMapUpd,evLookup,getMp,keyOk,resOk,strOf,zBM,zBN,zBb,List.length_map,List.getElem?_map,Int.toNat_natCast,Int.reduceBNe,Int.reduceBEq,decide_true,decide_false,Bool.not_true,Bool.not_false,List.set,zF8,zF7,zF6,zF5,zF4,zCS,look,zBt,zBd,zBs,zC6,ins,zCr,upd,zCK,rem1,dropT,zBx,initT,zD8,zD9,zD7,zCY,zB1,act1,zCG,updT,frzB,mu20,List.contains_nil,List.contains_cons,Nat.reduceBEq,Bool.or_self,zID,zIE,zIF,zIG,zIH,zII,zIJ,zIK,zIU,zIV,zIQ,zIR,lt_T,le_T,zHl,zHm,↓zAD,↓zAC,↓zAB,↓zAA,i64_in,i64_quo,rem_in,Int.reduceToNat]
 unfold aroundI
 refine⟨fun h=>⟨hm,fzEq rfl ?_⟩,fun h=>⟨hm,fzEq rfl ?_⟩⟩
 ·rw[if_pos h];try (congr 2;omega)
 ·rw[if_neg h]
def pickI (l:List Int) (i m:Int):Int:=if i < 0 then 0 else match l[i.toNat]? with
 | some x=>aroundI x m
 | none=>0
theorem zGC {l:List Int} {i m:Int} (h:0 < m):0≤pickI l i m∧pickI l i m < m:=by
 unfold pickI
 split
 ·omega
 ·split
  ·exact zJe h
  ·omega
theorem f57 (l:List Int) (i m:Int) (hl:∀ x∈l,In64 x) (hm:m≠0) (H:List MB):call Tryz.prog pol1 34 [.sl false (l.map I),.int .i64 i,.int .i64 m] H=some (I (pickI l i m),H):=by
 refine zAS Tryz.func34 rfl rfl rfl rfl rfl rfl (fun _=>rfl) (by simp[AV.plain,AV.plainL,zAE,zAG,zAH,zAI]) (by simp[AV.plain,AV.plainL,zAE,zAG,zAH,zAI]) ?_ H
 by_cases h0:i < 0
 ·have e:pickI l i m=0:=by simp[pickI,h0]
  rw[e]
  simp +contextual (disch:=omega) only[Tryz.f34,dd34,ty0,ty3,ty4,ty22,↓reduceIte,eq_self,zAZ,zBg,zBy,zBh,zGo,zCZ,zEE,zEF,zDH,zGp,zEC,zED,zDF,zDG,zDI,zBP,zBf,zBQ,zEG,zDJ,zCa,zEI,zDL,zCb,guardV,zA9,zBA,zAy,zCT,zCU,footprint,footprint0,fineF,zBW,zBp,zBX,zCL,zCM,zD4,zD5,zC8,zC0,zCP,zCy,zCz,zC1,zC4,zCR,zC2,zC3,zCQ,zCx,zCO,zCv,zCw,zCN,evOp,evBuiltin,evCall,cfn,yldF,evLen,evAppend,zBe,zBv,List.length_cons,List.length_nil,List.reduceReplicate,Nat.reduceAdd,Nat.reduceSub,List.cons_append,List.nil_append,List.append_nil,if_false,if_true,Bool.false_eq_true,Bool.true_eq_false,reduceCtorEq,Option.map_some,Option.map_none,List.map_cons,List.map_nil,evBinOp,evBin,evUn,zCC,zAw,zAm,zAi,zBa,zBZ,zBY,zCV,zBw,List.getElem?_cons_zero,List.getElem?_cons_succ,evResults,evResult,packRes,zBq,zCJ,cellsAt,mkVal,evFieldAddr,evField,evIndexAddr,evPart,evStore,evBuild,evBuildSlice,fillC,fillE,evSlice,evMakeSlice,evConvert,getRow,AV.cells,List.head?_cons,List.drop_zero,List.drop_succ_cons,List.take_zero,List.take_succ_cons,List.drop_nil,List.take_nil,List.all_cons,List.all_nil,AV.ok,Bool.and_self,Bool.and_true,Bool.true_and,and_self,and_true,true_and,Nat.reduceLeDiff,Nat.reduceMul,Nat.reduceLT,Nat.reduceEqDiff,Nat.zero_add,Nat.add_zero,setCells,splice,pairsOk,pairsX,zB0,zBz,zEA,zEH,zDK,FP.apart,zBC,sameAt_refl,Bool.or_true,Bool.true_or,Bool.or_false,srcElems,elemsOf,mutDst,indDst,thwDst,evLenH,evMapUpd,evLookup,getMp,keyOk,resOk,strOf,zBM,zBN,zBb,List.length_map,List.getElem?_map,Int.toNat_natCast,Int.reduceBNe,Int.reduceBEq,decide_true,decide_false,Bool.not_true,Bool.not_false,List.set,zF8,zF7,zF6,zF5,zF4,zCS,look,zBt,zBd,zBs,zC6,ins,zCr,upd,zCK,rem1,dropT,zBx,initT,zD8,zD9,zD7,zCY,zB1,act1,zCG,updT,frzB,mu34,List.contains_nil,List.contains_cons,Nat.reduceBEq,Bool.or_self,zID,zIE,zIF,zIG,zIH,zII,zIJ,zIK,zIU,zIV,zIQ,zIR,lt_T,le_T,zHl,zHm,↓zAD,↓zAC,↓zAB,↓zAA,i64_in,i64_quo,rem_in,Int.reduceToNat]
  exact fzEq rfl rfl
 ·obtain⟨k,rfl⟩:∃ k:Nat,i=k:=⟨i.toNat,by omega⟩
  by_cases h1:k < l.length
  ·obtain⟨p,hp⟩:∃ p,l[k]?=some p:=⟨_,List.getElem?_eq_getElem h1⟩
   have e:pickI l k m=aroundI p m:=by simp[pickI,h0,hp]
   rw[e]
   have hf:=f12 p m (hl p (List.mem_of_getElem? hp)) hm
   simp +contextual (disch:=omega) only[Tryz.f34,dd34,ty0,ty3,ty4,ty22,↓reduceIte,eq_self,zAZ,zBg,zBy,zBh,zGo,zCZ,zEE,zEF,zDH,zGp,zEC,zED,zDF,zDG,zDI,zBP,zBf,zBQ,zEG,zDJ,zCa,zEI,zDL,zCb,guardV,zA9,zBA,zAy,zCT,zCU,footprint,footprint0,fineF,zBW,zBp,zBX,zCL,zCM,zD4,zD5,zC8,zC0,zCP,zCy,zCz,zC1,zC4,zCR,zC2,zC3,zCQ,zCx,zCO,zCv,zCw,zCN,evOp,evBuiltin,evCall,cfn,yldF,evLen,evAppend,zBe,zBv,List.length_cons,List.length_nil,List.reduceReplicate,Nat.reduceAdd,Nat.reduceSub,List.cons_append,List.nil_append,List.append_nil,if_false,if_true,Bool.false_eq_true,Bool.true_eq_false,reduceCtorEq,Option.map_some,Option.map_none,List.map_cons,List.map_nil,evBinOp,evBin,evUn,zCC,zAw,zAm,zAi,zBa,zBZ,zBY,zCV,zBw,List.getElem?_cons_zero,List.getElem?_cons_succ,evResults,evResult,packRes,zBq,zCJ,cellsAt,mkVal,evFieldAddr,evField,evIndexAddr,evPart,evStore,evBuild,evBuildSlice,fillC,fillE,evSlice,evMakeSlice,evConvert,getRow,AV.cells,List.head?_cons,List.drop_zero,List.drop_succ_cons,List.take_zero,List.take_succ_cons,List.drop_nil,List.take_nil,List.all_cons,List.all_nil,AV.ok,Bool.and_self,Bool.and_true,Bool.true_and,and_self,and_true,true_and,Nat.reduceLeDiff,Nat.reduceMul,Nat.reduceLT,Nat.reduceEqDiff,Nat.zero_add,Nat.add_zero,setCells,splice,pairsOk,pairsX,zB0,zBz,zEA,zEH,zDK,FP.apart,zBC,sameAt_refl,Bool.or_true,Bool.true_or,Bool.or_false,srcElems,elemsOf,mutDst,indDst,thwDst,evLenH,evMapUpd,evLookup,getMp,keyOk,resOk,strOf,zBM,zBN,zBb,List.length_map,List.getElem?_map,Int.toNat_natCast,Int.reduceBNe,Int.reduceBEq,decide_true,decide_false,Bool.not_true,Bool.not_false,List.set,zF8,zF7,zF6,zF5,zF4,zCS,look,zBt,zBd,zBs,zC6,ins,zCr,upd,zCK,rem1,dropT,zBx,initT,zD8,zD9,zD7,zCY,zB1,act1,zCG,updT,frzB,mu34,List.contains_nil,List.contains_cons,Nat.reduceBEq,Bool.or_self,zID,zIE,zIF,zIG,zIH,zII,zIJ,zIK,zIU,zIV,zIQ,zIR,lt_T,le_T,zHl,zHm,↓zAD,↓zAC,↓zAB,↓zAA,i64_in,i64_quo,rem_in,Int.reduceToNat,hp,hf]
   exact fzEq rfl rfl
  ·have e:pickI l k m=0:=by simp[pickI,List.getElem?_eq_none (Nat.le_of_not_lt h1)]
   rw[e]
   simp +contextual (disch:=omega) only[Tryz.f34,dd34,ty0,ty3,ty4,ty22,↓reduceIte,eq_self,zAZ,zBg,zBy,zBh,zGo,zCZ,zEE,zEF,zDH,zGp,zEC,zED,zDF,zDG,zDI,zBP,zBf,zBQ,zEG,zDJ,zCa,zEI,zDL,zCb,guardV,zA9,zBA,zAy,zCT,zCU,footprint,footprint0,fineF,zBW,zBp,zBX,zCL,zCM,zD4,zD5,zC8,zC0,zCP,zCy,zCz,zC1,zC4,zCR,zC2,zC3,zCQ,zCx,zCO,zCv,zCw,zCN,evOp,evBuiltin,evCall,cfn,yldF,evLen,evAppend,zBe,zBv,List.length_cons,List.length_nil,List.reduceReplicate,Nat.reduceAdd,Nat.reduceSub,List.cons_append,List.nil_append,List.append_nil,if_false,if_true,Bool.false_eq_true,Bool.true_eq_false,reduceCtorEq,Option.map_some,Option.map_none,List.map_cons,List.map_nil,evBinOp,evBin,evUn,zCC,zAw,zAm,zAi,zBa,zBZ,zBY,zCV,zBw,List.getElem?_cons_zero,List.getElem?_cons_succ,evResults,evResult,packRes,zBq,zCJ,cellsAt,mkVal,evFieldAddr,evField,evIndexAddr,evPart,evStore,evBuild,evBuildSlice,fillC,fillE,evSlice,evMakeSlice,evConvert,getRow,AV.cells,List.head?_cons,List.drop_zero,List.drop_succ_cons,List.take_zero,List.take_succ_cons,List.drop_nil,List.take_nil,List.all_cons,List.all_nil,AV.ok,Bool.and_self,Bool.and_true,Bool.true_and,and_self,and_true,true_and,Nat.reduceLeDiff,Nat.reduceMul,Nat.reduceLT,Nat.reduceEqDiff,Nat.zero_add,Nat.add_zero,setCells,splice,pairsOk,pairsX,zB0,zBz,zEA,zEH,zDK,FP.apart,zBC,sameAt_refl,Bool.or_true,Bool.true_or,Bool.or_false,srcElems,elemsOf,mutDst,indDst,thwDst,evLenH,evMapUpd,evLookup,getMp,keyOk,resOk,strOf,zBM,zBN,zBb,List.length_map,List.getElem?_map,Int.toNat_natCast,Int.reduceBNe,Int.reduceBEq,decide_true,decide_false,Bool.not_true,Bool.not_false,List.set,zF8,zF7,zF6,zF5,zF4,zCS,look,zBt,zBd,zBs,zC6,ins,zCr,upd,zCK,rem1,dropT,zBx,initT,zD8,zD9,zD7,zCY,zB1,act1,zCG,updT,frzB,mu34,List.contains_nil,List.contains_cons,Nat.reduceBEq,Bool.or_self,zID,zIE,zIF,zIG,zIH,zII,zIJ,zIK,zIU,zIV,zIQ,zIR,lt_T,le_T,zHl,zHm,↓zAD,↓zAC,↓zAB,↓zAA,i64_in,i64_quo,rem_in,Int.reduceToNat]
   exact fzEq rfl rfl
end Go.Ev
namespace Go.Ev
attribute [local go_sem] evAppend evBin evBuild AV.cells splice List.length_append List.map_append
section
attribute [local go_sem] tySzE List.head?_drop Nat.mul_one zAP zAU zAN zAQ zAR zAX
open Go.Proofs Go.RowKit Go.IntWalk
set_option maxRecDepth 100000
set_option maxHeartbeats 8000000
section
variable {α:Type} (A K:List α) (x y v:α)
theorem zBn:(A++x::K)[A.length]?=some x:=by simp
theorem zM0:(A++x::y::K)[A.length+1]?=some y:=by
 rw[List.getElem?_append_right (by omega)];simp
theorem zJv:(A++x::K).set A.length v=A++v::K:=by simp
theorem zMy:(A++x::y::K).set (A.length+1) v=A++x::v::K:=by
 rw[List.set_append_right _ _ (by omega)];simp
end
section
variable {k:IntKind} {a b:Int}
end
end
section
open Go.Proofs Go.RowKit Go.IntWalk
set_option maxRecDepth 100000
set_option maxHeartbeats 4000000
def hasSpan (l:List (Int×Int)) (x:Int):Bool:=l.any fun p=>decide (p.1≤x) && decide (x≤p.2)
theorem zHD {l:List (Int×Int)} {x:Int} {i:Nat} {p:Int×Int} (h:l[i]?=some p) (hp:p.1≤x∧x≤p.2):hasSpan l x=true:=by
 unfold hasSpan
 exact List.any_eq_true.2 ⟨p,List.mem_of_getElem? h,by simp[hp]⟩
theorem zHC {l:List (Int×Int)} {x:Int} (h:∀ k p,k < l.length→l[k]?=some p→¬ (p.1≤x∧x≤p.2)):hasSpan l x=false:=by
 unfold hasSpan
 rw[List.any_eq_false]
 intro p hp
 obtain⟨k,hk,e⟩:=List.getElem_of_mem hp
 have:=h k p hk (by rw[← e];exact List.getElem?_eq_getElem hk)
 simpa using this
theorem f43 (l:List (Int×Int)) (x:Int) (hl:l.length≤1000000) (H:List MB):call Tryz.prog pol1 66 [.sl false (l.map spanAV),I x] H=some (.bool (hasSpan l x),H):=by
 refine zAS Tryz.func66 rfl rfl rfl rfl rfl rfl (fun _=>rfl) (by simp[AV.plain,AV.plainL,zAE,zAG,zAH,zAI]) (by simp[AV.plain,AV.plainL,zAE,zAG,zAH,zAI]) ?_ H
 simp +contextual (disch:=omega) only[Tryz.f66,dd66,go_sem,simprocAttr,mu66,↓zAD,↓zAC,↓zAB,↓zAA]
 refine zAd (M:=(mskOf (pol1.mask 66) (pol1.gc 66) (pol1.acts 66) 0 2)) rfl l.length (fun i=>(⟨24,[(9,I i),(8,I l.length),(7,.sl false (l.map spanAV)),(1,I x)],[]⟩:St)) (fun i=>∀ k p,k < i→l[k]?=some p→¬ (p.1≤x∧x≤p.2)) ?_ ?_ (fun k p h=>by omega) _ (by first|rfl|(refine zA7 rfl (by rfl) (by rfl) (by rfl) ?_ ?_<;>simp[AV.underL,AV.under,MB.under,zAF,zAJ,zAE,zAG,zAH,zAI,-List.map_take]))
 ·intro i hi hg
  obtain⟨p,hp⟩:∃ p,l[i]?=some p:=⟨_,List.getElem?_eq_getElem hi⟩
  by_cases hin:p.1≤x∧x≤p.2
  ·rw[zHD hp hin]
   simp +contextual (disch:=omega) only[Tryz.f66,dd66,go_sem,simprocAttr,mu66,↓zAD,↓zAC,↓zAB,↓zAA,hp,spanAV]
   exact fzEq rfl rfl
  ·have ext:∀ k q,k < i+1→l[k]?=some q→¬ (q.1≤x∧x≤q.2):=fun k q hk hq=>by
    rcases Nat.lt_or_ge k i with h|h
    ·exact hg k q h hq
    ·obtain rfl:k=i:=by omega
     rw[hp]at hq
     obtain rfl:=Option.some.inj hq
     exact hin
   by_cases h1:p.1≤x
   ·simp +contextual (disch:=omega) only[Tryz.f66,dd66,go_sem,simprocAttr,mu66,↓zAD,↓zAC,↓zAB,↓zAA,hp,spanAV]
    exact⟨ext,(by first|rfl|(refine zA7 rfl (by rfl) (by rfl) (by rfl) ?_ ?_<;>simp[AV.underL,AV.under,MB.under,zAF,zAJ,zAE,zAG,zAH,zAI,-List.map_take]))⟩
   ·simp +contextual (disch:=omega) only[Tryz.f66,dd66,go_sem,simprocAttr,mu66,↓zAD,↓zAC,↓zAB,↓zAA,hp,spanAV]
    exact⟨ext,(by first|rfl|(refine zA7 rfl (by rfl) (by rfl) (by rfl) ?_ ?_<;>simp[AV.underL,AV.under,MB.under,zAF,zAJ,zAE,zAG,zAH,zAI,-List.map_take]))⟩
 ·intro hg
  rw[zHC hg]
  simp +contextual (disch:=omega) only[Tryz.f66,dd66,go_sem,simprocAttr,mu66,↓zAD,↓zAC,↓zAB,↓zAA]
  exact fzEq rfl rfl
def wordI (x:Int):Bool:=(decide (97≤x) && decide (x≤122)) || (decide (65≤x) && decide (x≤90)) || (decide (48≤x) && decide (x≤57)) || x == 95
end
section
open Go.Proofs Go.RowKit Go.IntWalk
set_option maxRecDepth 100000
set_option maxHeartbeats 4000000
def assertI (n:Int) (b a:Option Int):Bool:=
 let w:=fun(o:Option Int)=>match o with
  | some x=>wordI x
  | none=>false
 let e:=fun(o:Option Int)=>match o with
  | some x=>x == 10
  | none=>true
 if n=0 then b.isNone else if n=1 then a.isNone else if n=2 then e b else if n=3 then e a else if n=4 then w b != w a else if n=5 then w b == w a else false
def befS (t:List Int) (k:Nat):Option Int:=if k=0 then none else t[k - 1]?
end
inductive Goal where
 | nil
 | mk (kind:Int) (re:Re) (k fr:Int) (next:Goal)
def goalA:Goal→AV
 | .nil=>.nilp
 | .mk kind re k fr next=>.pt (I kind::(reC re++[I k,I fr,goalA next]))
abbrev goalC (kind:Int) (re:Re) (k fr:Int) (next:Goal):List AV:=I kind::(reC re++[I k,I fr,goalA next])
theorem zBG:∀(a b:List AV),AV.plainL (a++b)=(AV.plainL a && AV.plainL b)
 | [],b=>by simp[AV.plainL]
 | x::a,b=>by simp[AV.plainL,zBG a b,Bool.and_assoc]
theorem zCf:∀ g:Goal,AV.plain (goalA g)=true
 | .nil=>rfl
 | .mk kind re k fr next=>by
   have h1:=zCf next
   have h2:=zAb re
   simp[goalA,AV.plain,AV.plainL,zBG,h1,h2]
theorem zBr (kind:Int) (re:Re) (k fr:Int) (next:Goal):AV.plainL (goalC kind re k fr next)=true:=by
 have h1:=zCf next
 have h2:=zAb re
 simp[AV.plain,AV.plainL,zBG,h1,h2]
abbrev Caps:=List (Int×Int)
abbrev capA (c:Caps):AV:=.sl false (c.map spanAV)
structure SS where
 steps:Int
 empty:Bool
 ends:List Int
 caps:List Caps
def withI (c:Caps) (n fr to:Int):Caps:=if 1≤n∧n≤c.length then c.set (n - 1).toNat (fr,to) else c
def Re.op:Re→Int | .mk op _ _ _ _ _ _ _=>op
def Re.set:Re→List (Int×Int) | .mk _ set _ _ _ _ _ _=>set
def Re.kids:Re→List Re | .mk _ _ kids _ _ _ _ _=>kids
def Re.mn:Re→Int | .mk _ _ _ mn _ _ _ _=>mn
def Re.mx:Re→Int | .mk _ _ _ _ mx _ _ _=>mx
def Re.md:Re→Int | .mk _ _ _ _ _ md _ _=>md
def Re.n:Re→Int | .mk _ _ _ _ _ _ n _=>n
def stepSz (fuel:Int) (s:SS):SS:=⟨s.steps+1,s.empty || decide (fuel < s.steps+1),s.ends,s.caps⟩
abbrev RunT:=Goal→Int→Caps→SS→Option (Bool×SS)
def orR (a:Option (Bool×SS)) (f:SS→Option (Bool×SS)):Option (Bool×SS):=
 match a with
 | none=>none
 | some (true,s)=>some (true,s)
 | some (false,s)=>f s
def repR (fuel:Int) (R:RunT) (re:Re) (k:Int) (next:Goal) (i:Int) (c:Caps) (s:SS):Option (Bool×SS):=
 let s1:=stepSz fuel s
 if s1.empty=true then some (true,s1)
 else
  match re.kids with
  | []=>none
  | kid::_=>
    let once:=Goal.mk 0 kid 0 0 (.mk 2 re k i next)
    let more:Bool:=decide (re.mx = -1) || decide (k < re.mx)
    if k < re.mn then R once i c s1
    else if re.md=1 then orR (R next i c s1) fun s2=>if more then R once i c s2 else some (false,s2)
    else orR (if more then R once i c s1 else some (false,s1)) fun s2=>R next i c s2
def catG (next:Goal):List Re→Goal
 | []=>next
 | k::ks=>.mk 0 k 0 0 (catG next ks)
def altR (R:RunT) (next:Goal) (i:Int) (c:Caps):List Re→SS→Option (Bool×SS)
 | [],s=>some (false,s)
 | k::ks,s=>orR (R (.mk 0 k 0 0 next) i c s) (altR R next i c ks)
def nodeR (t:List Int) (fuel:Int) (R:RunT) (re:Re) (next:Goal) (i:Int) (c:Caps) (s:SS):Option (Bool×SS):=
 if re.op=4 then repR fuel R re 0 next i c s
 else
  let s1:=stepSz fuel s
  if s1.empty=true then some (true,s1)
  else if re.op=1 then
   match t[i.toNat]? with
   | some x=>if hasSpan re.set x=true then R next (i+1) c s1 else some (false,s1)
   | none=>some (false,s1)
  else if re.op=2 then R (catG next re.kids) i c s1
  else if re.op=3 then altR R next i c re.kids s1
  else if re.op=5 then
   match re.kids with
   | []=>none
   | kid::_=>R (.mk 0 kid 0 0 (.mk 3 re 0 i next)) i c s1
  else if re.op=11 then(if assertI re.n (befS t i.toNat) t[i.toNat]?=true then R next i c s1 else some (false,s1))
  else R next i c s1
def runG (t:List Int) (fuel:Int):Nat→RunT
 | 0,_,_,_,_=>none
 | _+1,.nil,i,c,s=>some (false,⟨s.steps,s.empty,s.ends++[i],s.caps++[c]⟩)
 | d+1,.mk kind re k fr next,i,c,s=>
   if kind=1 then repR fuel (runG t fuel d) re k next i c s
   else if kind=2 then(if re.mn≤k∧i=fr then some (false,s) else runG t fuel d (.mk 1 re (k+1) 0 next) i c s)
   else if kind=3 then runG t fuel d next i (withI c re.n fr i) s
   else nodeR t fuel (runG t fuel d) re next i c s
end Go.Ev
namespace Go.Ev
attribute [local go_sem] evAppend evBin evBuild AV.cells splice List.length_append List.map_append
section
attribute [local go_sem] tySzE List.head?_drop Nat.mul_one zAP zAU zAN zAQ zAR zAX
open Go.Proofs Go.RowKit Go.IntWalk
set_option maxRecDepth 100000
set_option maxHeartbeats 8000000
section
variable {α:Type} (A K:List α) (x y z v:α)
theorem zMz:(A++x::y::z::K)[A.length+2]?=some z:=by
 rw[List.getElem?_append_right (by omega)];simp
theorem zMx:(A++x::y::z::K).set (A.length+2) v=A++x::y::v::K:=by
 rw[List.set_append_right _ _ (by omega)];simp
end
abbrev sB (m:Nat) (t:List Int) (fuel steps:Int) (empty:Bool) (e:Nat):MB:=.row 7 [.agg [.sl false (t.map I),I (-1),I fuel,I steps,.bool empty,.ms (m+1) 1 e 0 e,.ms (m+2) 1 e 0 e]] 0
abbrev srH (A:List MB) (t:List Int) (fuel:Int) (s:SS) (e:Nat) (K:List MB):List MB:=
 A++sB A.length t fuel s.steps s.empty e::.row 1 (s.ends.map I) 0::.row 1 (s.caps.map capA) 0::K
theorem zFJ (l:List Caps):AV.plainL (l.map capA)=true:=by
 induction l with
 | nil=>rfl
 | cons a l ih=>simp[AV.plainL,AV.plain,zAG,ih]
theorem zGM (n:Nat) (x y z x' y' z':MB) (K L:List MB) (h1:MB.under n x' = true) (h2:MB.under n y' = true) (h3:MB.under n z' = true):∀ A:List MB,keptOk n (A++x::y::z::K) (A++x'::y'::z'::(K++L))=true
 | []=>by
   simp only[List.nil_append,keptOk,h1,h2,h3,Bool.or_true,Bool.true_and]
   exact zC5 n L K
 | a::A=>by simp[keptOk,MB.beq_refl,zGM n x y z x' y' z' K L h1 h2 h3 A]
theorem zIh {α:Type} (x y z x' y' z':α) (K L:List α):∀ A:List α,(A++x'::y'::z'::(K++L)).take (A++x::y::z::K).length=A++x'::y'::z'::K
 | []=>by simp
 | a::A=>by
   simp only[List.cons_append,List.length_cons,List.take_succ_cons,zIh x y z x' y' z' K L A]
theorem zKd {f:Nat} (hk:pol1.keep f=false) (ho:pol1.own f=false) (b:Bool) (A K L:List MB) (t:List Int) (fuel:Int) (s s':SS) (e e':Nat) :
  retPol pol1 f (srH A t fuel s e K) (.bool b) (srH A t fuel s' e' (K++L))=some (.bool b,srH A t fuel s' e' K):=
 zBB hk ho rfl (zGM _ _ _ _ _ _ _ _ _ (by simp[MB.under,AV.underL,AV.under,zAF,zAE]<;>omega) (by simp[MB.under,zAF,zAE]) (by simp[MB.under,zAF,zFJ]) A) (zIh _ _ _ _ _ _ _ _ _)
theorem zLn {f:Nat} (hk:pol1.keep f=false) (ho:pol1.own f=false) (b:Bool) (A K:List MB) (t:List Int) (fuel:Int) (s s':SS) (e e':Nat) :
  retPol pol1 f (srH A t fuel s e K) (.bool b) (srH A t fuel s' e' K)=some (.bool b,srH A t fuel s' e' K):=by
 have:=zKd hk ho b A K [] t fuel s s' e e'
 rwa [List.append_nil]at this
theorem f161 (A K:List MB) (t:List Int) (fuel:Int) (s:SS) (e:Nat) (hs:0≤s.steps∧s.steps≤1000000000000) :
  call Tryz.prog pol1 177 [.rf A.length 1 0 0] (srH A t fuel s e K)=some (.bool (!(stepSz fuel s).empty),srH A t fuel (stepSz fuel s) e K):=by
 have fr:frzArgs pol1 177 0 [.rf A.length 1 0 0] (srH A t fuel s e K)=some ([.rf A.length 1 0 0],srH A t fuel s e K):=zAO _ _ _ rfl
 refine zAY (pol:=pol1) Tryz.func177 rfl rfl rfl rfl fr ?_
 have hw:IntKind.i64.wrap (s.steps+1)=s.steps+1:=by rw[i64_in]<;>omega
 have ret:=fun b s'=>zLn (f:=177) rfl rfl b A K t fuel s s' e e
 obtain⟨steps,empty,ends,caps⟩:=s
 simp only at hs hw
 by_cases h:fuel < steps+1
 ·have e1:stepSz fuel ⟨steps,empty,ends,caps⟩=⟨steps+1,true,ends,caps⟩:=by simp[stepSz,h]
  rw[e1]
  simp +contextual (disch:=omega) only[Tryz.f177,dd177,go_sem,simprocAttr,zOc,↓zAD,↓zAC,↓zAB,↓zAA,zBn,zJv,hw]
  repeat' (first|intro _|apply And.intro|(unfold dOk;kernel_rfl)|exact St.beq_refl _|(show altO _ _ _ _=true;kernel_rfl)|(show (_ || _)=true;kernel_rfl)|(show (_ && _)=true;kernel_rfl))
  exact ret false ⟨steps+1,true,ends,caps⟩
 ·have e1:stepSz fuel ⟨steps,empty,ends,caps⟩=⟨steps+1,empty,ends,caps⟩:=by simp[stepSz,h]
  rw[e1]
  simp +contextual (disch:=omega) only[Tryz.f177,dd177,go_sem,simprocAttr,zOc,↓zAD,↓zAC,↓zAB,↓zAA,zBn,zJv,hw]
  repeat' (first|intro _|apply And.intro|(unfold dOk;kernel_rfl)|exact St.beq_refl _|(show altO _ _ _ _=true;kernel_rfl)|(show (_ || _)=true;kernel_rfl)|(show (_ && _)=true;kernel_rfl))
  exact ret (!empty) ⟨steps+1,empty,ends,caps⟩
theorem f162 (l:List (Int×Int)) (x:Int) (hl:l.length≤1000000) (H:List MB):call Tryz.prog pol1 178 [.sl false (l.map spanAV),I x] H=some (.bool (hasSpan l x),H):=by
 refine zAS Tryz.func178 rfl rfl rfl rfl rfl rfl (fun _=>rfl) (by simp[AV.plain,AV.plainL,zAG]) rfl ?_ H
 simp +contextual (disch:=omega) only[Tryz.f178,zMU,go_sem,simprocAttr,zL9,↓zAD,↓zAC,↓zAB,↓zAA]
 refine zAd (M:=(mskOf (pol1.mask 178) (pol1.gc 178) (pol1.acts 178) 0 2)) rfl l.length (fun i=>(⟨28,[(5,I i),(1,I x),(0,.sl false (l.map spanAV))],[]⟩:St)) (fun i=>∀ k p,k < i→l[k]?=some p→¬ (p.1≤x∧x≤p.2)) ?_ ?_ (fun k p h=>by omega) _ (by first|rfl|(refine zA7 rfl (by rfl) (by rfl) (by rfl) ?_ ?_<;>simp[AV.underL,AV.under,MB.under,zAF,zAJ,zAE,zAG,zAH,zAI,-List.map_take]))
 ·intro i hi hg
  obtain⟨p,hp⟩:∃ p,l[i]?=some p:=⟨_,List.getElem?_eq_getElem hi⟩
  by_cases hin:p.1≤x∧x≤p.2
  ·rw[zHD hp hin]
   simp +contextual (disch:=omega) only[Tryz.f178,zMU,go_sem,simprocAttr,zL9,↓zAD,↓zAC,↓zAB,↓zAA,hp,spanAV]
   exact fzEq rfl rfl
  ·have ext:∀ k q,k < i+1→l[k]?=some q→¬ (q.1≤x∧x≤q.2):=fun k q hk hq=>by
    rcases Nat.lt_or_ge k i with h|h
    ·exact hg k q h hq
    ·obtain rfl:k=i:=by omega
     rw[hp]at hq
     obtain rfl:=Option.some.inj hq
     exact hin
   by_cases h1:p.1≤x
   ·simp +contextual (disch:=omega) only[Tryz.f178,zMU,go_sem,simprocAttr,zL9,↓zAD,↓zAC,↓zAB,↓zAA,hp,spanAV]
    exact⟨ext,(by first|rfl|(refine zA7 rfl (by rfl) (by rfl) (by rfl) ?_ ?_<;>simp[AV.underL,AV.under,MB.under,zAF,zAJ,zAE,zAG,zAH,zAI,-List.map_take]))⟩
   ·simp +contextual (disch:=omega) only[Tryz.f178,zMU,go_sem,simprocAttr,zL9,↓zAD,↓zAC,↓zAB,↓zAA,hp,spanAV]
    exact⟨ext,(by first|rfl|(refine zA7 rfl (by rfl) (by rfl) (by rfl) ?_ ?_<;>simp[AV.underL,AV.under,MB.under,zAF,zAJ,zAE,zAG,zAH,zAI,-List.map_take]))⟩
 ·intro hg
  rw[zHC hg]
  simp +contextual (disch:=omega) only[Tryz.f178,zMU,go_sem,simprocAttr,zL9,↓zAD,↓zAC,↓zAB,↓zAA]
  exact fzEq rfl rfl
theorem f167 (x:Int) (H:List MB):call Tryz.prog pol1 193 [I x] H=some (.bool (wordI x),H):=by
 refine zAS Tryz.func193 rfl rfl rfl rfl rfl rfl (fun _=>rfl) rfl rfl ?_ H
 simp +contextual (disch:=omega) only[Tryz.f193,dd193,go_sem,simprocAttr,mu193,↓zAD,↓zAC,↓zAB,↓zAA]
 repeat' (first|intro _|apply And.intro|refine fzEq rfl (congrArg AV.bool ?_))
 all_goals (rw[Bool.eq_iff_iff];simp[wordI]<;>omega)
theorem f165 (n:Int) (t:List Int) (k:Nat) (hn:0≤n∧n≤5) (hk:k≤t.length) (ht:t.length≤1000000000) (H:List MB):call Tryz.prog pol1 181 [I n,.sl false (t.map I),I k] H=some (.bool (assertI n (befS t k) t[k]?),H):=by
 refine zAS Tryz.func181 rfl rfl rfl rfl rfl rfl (fun _=>rfl) (by simp[AV.plain,AV.plainL,zAE]) rfl ?_ H
 rcases k with _|k
 ·rcases t with _|⟨x,t⟩
  ·simp +contextual (disch:=omega) only[Tryz.f181,zNI,go_sem,simprocAttr,zM4,↓zAD,↓zAC,↓zAB,↓zAA,f167]
   repeat' (first|intro _|apply And.intro|(unfold dOk;kernel_rfl)|(show (_ && _)=true;kernel_rfl)|(show (_ || _)=true;kernel_rfl)|refine fzEq rfl (congrArg AV.bool ?_))
   all_goals (simp_all [assertI,befS];try (intros;omega))
  ·simp +contextual (disch:=omega) only[Tryz.f181,zNI,go_sem,simprocAttr,zM4,↓zAD,↓zAC,↓zAB,↓zAA,f167]
   repeat' (first|intro _|apply And.intro|(unfold dOk;kernel_rfl)|(show (_ && _)=true;kernel_rfl)|(show (_ || _)=true;kernel_rfl)|refine fzEq rfl (congrArg AV.bool ?_))
   all_goals (simp_all [assertI,befS];try (intros;omega))
 ·obtain⟨x,hx⟩:∃ x,t[k]?=some x:=⟨_,List.getElem?_eq_getElem (by omega)⟩
  by_cases hl:k+1 < t.length
  ·obtain⟨y,hy⟩:∃ y,t[k+1]?=some y:=⟨_,List.getElem?_eq_getElem hl⟩
   simp +contextual (disch:=omega) only[Tryz.f181,zNI,go_sem,simprocAttr,zM4,↓zAD,↓zAC,↓zAB,↓zAA,f167,hx,hy]
   repeat' (first|intro _|apply And.intro|(unfold dOk;kernel_rfl)|(show (_ && _)=true;kernel_rfl)|(show (_ || _)=true;kernel_rfl)|refine fzEq rfl (congrArg AV.bool ?_))
   all_goals (simp_all [assertI,befS];try (intros;omega))
   all_goals (cases wordI x<;>cases wordI y<;>rfl)
  ·have hy:t[k+1]?=none:=List.getElem?_eq_none (by omega)
   simp +contextual (disch:=omega) only[Tryz.f181,zNI,go_sem,simprocAttr,zM4,↓zAD,↓zAC,↓zAB,↓zAA,f167,hx]
   repeat' (first|intro _|apply And.intro|(unfold dOk;kernel_rfl)|(show (_ && _)=true;kernel_rfl)|(show (_ || _)=true;kernel_rfl)|refine fzEq rfl (congrArg AV.bool ?_))
   all_goals (simp_all [assertI,befS];try (intros;omega))
theorem f153 (c:Caps) (n fr to:Int) (hc:c.length≤1000) (H:List MB):call Tryz.prog pol1 144 [capA c,I n,I fr,I to] H=some (capA (withI c n fr to),H):=by
 refine zAS Tryz.func144 rfl rfl rfl rfl rfl rfl (fun _=>rfl) (by simp[AV.plain,AV.plainL,zAG]) (by simp[AV.plain,zAG]) ?_ H
 unfold withI
 rcases c with _|⟨x,c⟩
 ·rw[if_neg (by simp;omega)]
  by_cases h1:1≤n
  ·simp +contextual (disch:=omega) only[Tryz.f144,zMW,go_sem,simprocAttr,zMB,↓zAD,↓zAC,↓zAB,↓zAA]
   exact⟨_,rfl⟩
  ·simp +contextual (disch:=omega) only[Tryz.f144,zMW,go_sem,simprocAttr,zMB,↓zAD,↓zAC,↓zAB,↓zAA]
   exact⟨_,rfl⟩
 ·simp only[List.length_cons]at hc
  have hroom:=zAX (n:=c.length+1) (b:=16) (by omega) (by omega)
  have hal:((c.map spanAV).all fun y=>decide ((match y with | .agg cs=>cs|x=>[x]).length=2) && (match y with | .agg cs=>cs|x=>[x]).all AV.ok)=true:=by
   rw[List.all_eq_true];intro y hy;obtain⟨p,_,rfl⟩:=List.mem_map.1 hy;rfl
  have hz:∀ d:Caps,d.length=c.length+1→∃ H',fz (.ms 0 2 (c.length+1) 0 (c.length+1)) [.row 2 (d.map spanAV) 0]=some (capA d,H'):=fun d hd=>
   ⟨_,zFg rfl (by rw[List.length_map];exact hd) (zAG d)⟩
  by_cases h1:1≤n
  ·by_cases h2:n≤((x::c).length:Int)
   ·rw[if_pos ⟨h1,h2⟩]
    obtain⟨j,rfl⟩:∃ j:Nat,n=(j:Int)+1:=⟨(n - 1).toNat,by omega⟩
    simp only[List.length_cons]at h2
    obtain⟨y,hy⟩:∃ y,(x::c)[j]?=some y:=⟨_,List.getElem?_eq_getElem (by simp;omega)⟩
    have hy2:(spanAV x::List.map spanAV c)[j]?=some (spanAV y):=by
     have:((x::c).map spanAV)[j]?=some (spanAV y):=by rw[List.getElem?_map,hy];rfl
     exact this
    have hw:IntKind.i64.wrap ((j:Int)+1 - 1)=(j:Int):=by rw[i64_in]<;>omega
    have hj:((j:Int)+1 - 1)=(j:Int):=by omega
    have hset:(spanAV x::List.map spanAV c).set j (.agg [I fr,I to])=((x::c).set j (fr,to)).map spanAV:=by rw[List.map_set];rfl
    simp +contextual (disch:=omega) only[Tryz.f144,zMW,go_sem,simprocAttr,zMB,↓zAD,↓zAC,↓zAB,↓zAA,hroom,hw,hy2,hj,hset]
    exact⟨hal,hz _ (by simp)⟩
   ·rw[if_neg (by omega)]
    simp only[List.length_cons]at h2
    simp +contextual (disch:=omega) only[Tryz.f144,zMW,go_sem,simprocAttr,zMB,↓zAD,↓zAC,↓zAB,↓zAA,hroom]
    exact⟨hal,hz (x::c) rfl⟩
  ·rw[if_neg (by omega)]
   simp +contextual (disch:=omega) only[Tryz.f144,zMW,go_sem,simprocAttr,zMB,↓zAD,↓zAC,↓zAB,↓zAA,hroom]
   exact⟨hal,hz (x::c) rfl⟩
section
variable {cs xs:List AV} {k:IntKind} {n:Int} {b:Bool} {x a c d e f:Nat}
theorem zBK:(AV.agg cs).cells=cs:=rfl
theorem zBJ:(AV.int k n).cells=[.int k n]:=rfl
theorem zAq:(AV.bool b).cells=[.bool b]:=rfl
theorem zB9:(AV.sl b xs).cells=[.sl b xs]:=rfl
theorem zCA:(AV.rf a c d e).cells=[.rf a c d e]:=rfl
theorem zCB:(AV.pt xs).cells=[.pt xs]:=rfl
theorem zAo:AV.nilp.cells=[.nilp]:=rfl
end
theorem zAp (g:Goal):(goalA g).cells=[goalA g]:=by cases g<;>rfl
theorem zAV (g:Goal):AV.ok (goalA g)=true:=by cases g<;>rfl
theorem zBl (r:Re) (n:Nat) (l:List AV):List.take (n+8) (reC r++l)=reC r++List.take n l:=by
 rw[List.take_append,zAM,List.take_of_length_le (by rw[zAM];omega)];congr 2
theorem zBm (r:Re) (n:Nat) (l:List AV):List.drop (n+8) (reC r++l)=List.drop n l:=by
 rw[List.drop_append,zAM,List.drop_of_length_le (by rw[zAM];omega),List.nil_append];congr 1
end
section
attribute [local go_sem] tySzE List.head?_drop Nat.mul_one zAP zAU zAN zAQ zAR zAX
open Go.Proofs Go.RowKit Go.IntWalk
set_option maxRecDepth 100000
set_option maxHeartbeats 4000000
theorem f102 (r:Bool) (H:List MB):call Tryz.prog pol1 84 [.bool r] H=some (I (if r then 1114111 else 255),H):=by
 cases r
 ·refine zAS Tryz.func84 rfl rfl rfl rfl rfl rfl (fun _=>rfl) (by simp[AV.plain,AV.plainL,zAE,zAG,zAH,zAI]) (by simp[AV.plain,AV.plainL,zAE,zAG,zAH,zAI]) ?_ H
  simp +contextual (disch:=omega) only[Tryz.f84,dd84,go_sem,simprocAttr,mu84,↓zAD,↓zAC,↓zAB,↓zAA]
  exact fzEq rfl rfl
 ·refine zAS Tryz.func84 rfl rfl rfl rfl rfl rfl (fun _=>rfl) (by simp[AV.plain,AV.plainL,zAE,zAG,zAH,zAI]) (by simp[AV.plain,AV.plainL,zAE,zAG,zAH,zAI]) ?_ H
  simp +contextual (disch:=omega) only[Tryz.f84,dd84,go_sem,simprocAttr,mu84,↓zAD,↓zAC,↓zAB,↓zAA]
  exact fzEq rfl rfl
theorem zMf {l:List (Int×Int)} {top:Int} {i:Nat} {p:Int×Int} (hp:l[i]?=some p) (h:p.1 < 0∨p.2 < p.1∨top < p.2):badS l top i=true:=by
 simp only[badS,hp]
 rcases h with h|h|h<;>simp[h]
theorem zJc {l:List (Int×Int)} {top:Int} {p:Int×Int} (hp:l[0]?=some p) (h:¬ (p.1 < 0∨p.2 < p.1∨top < p.2)):badS l top 0=false:=by
 have h1:¬ p.1 < 0:=fun e=>h (.inl e)
 have h2:¬ p.2 < p.1:=fun e=>h (.inr (.inl e))
 have h3:¬ top < p.2:=fun e=>h (.inr (.inr e))
 simp[badS,hp,h1,h2,h3]
theorem zJd {l:List (Int×Int)} {top:Int} {i:Nat} {p q:Int×Int} (hp:l[i+1]?=some p) (hq:l[i]?=some q) (h:¬ (p.1 < 0∨p.2 < p.1∨top < p.2)):badS l top (i+1)=decide (p.1 < q.2+2):=by
 have h1:¬ p.1 < 0:=fun e=>h (.inl e)
 have h2:¬ p.2 < p.1:=fun e=>h (.inr (.inl e))
 have h3:¬ top < p.2:=fun e=>h (.inr (.inr e))
 simp[badS,hp,hq,h1,h2,h3]
theorem zMg {l:List (Int×Int)} {top:Int} {i:Nat} {q:Int×Int} (hq:l[i]?=some q) (h:badS l top i=false):0≤q.1∧q.1≤q.2∧q.2≤top:=by
 simp only[badS,hq,Bool.or_eq_false_iff,decide_eq_false_iff_not]at h
 omega
theorem f131 (l:List (Int×Int)) (top:Int) (ht:top≤1114111) (hl:l.length≤1000000) (H:List MB):call Tryz.prog pol1 112 [.sl false (l.map spanAV),I top] H=some (.bool (spansG l top),H):=by
 refine zAS Tryz.func112 rfl rfl rfl rfl rfl rfl (fun _=>rfl) (by simp[AV.plain,AV.plainL,zAG]) rfl ?_ H
 by_cases h64:64 < l.length
 ·rw[zF0 h64]
  simp +contextual (disch:=omega) only[Tryz.f112,zKE,go_sem,simprocAttr,zJy,↓zAD,↓zAC,↓zAB,↓zAA]
  exact fzEq rfl rfl
 ·simp +contextual (disch:=omega) only[Tryz.f112,zKE,go_sem,simprocAttr,zJy,↓zAD,↓zAC,↓zAB,↓zAA]
  refine zAd (M:=(mskOf (pol1.mask 112) (pol1.gc 112) (pol1.acts 112) 0 4)) rfl l.length (fun i=>(⟨50,[(12,I i),(11,I l.length),(10,.sl false (l.map spanAV)),(1,I top),(0,.sl false (l.map spanAV))],[]⟩:St)) (fun i=>∀ k,k < i→badS l top k=false) ?_ ?_ (fun k h=>by omega) _ (by first|rfl|(refine zAa (n:=0) (m:=⟨some [12,11,10,1,0],some 0,[]⟩) rfl rfl ?_ ?_ ?_<;>first|rfl|(simp[keepT,AV.underL,AV.under,MB.under,zAF,zAJ,zAK,zAE,zAG,zAH,zAI,-List.map_take,-List.map_replicate,-List.map_set];done)|(simp[keepT,AV.underL,AV.under,MB.under,zAF,zAJ,zAK,zAE,zAG,zAH,zAI,-List.map_take,-List.map_replicate,-List.map_set];omega)))
  ·intro i hlt hg
   obtain⟨p,hp⟩:∃ p,l[i]?=some p:=⟨_,List.getElem?_eq_getElem hlt⟩
   have ext:badS l top i=false→∀ k,k < i+1→badS l top k=false:=fun h k hk=>by
    rcases Nat.lt_or_ge k i with h1|h1
    ·exact hg k h1
    ·obtain rfl:k=i:=by omega
     exact h
   by_cases hgd:p.1 < 0∨p.2 < p.1∨top < p.2
   ·rw[zEJ hlt (zMf hp hgd)]
    have hgd':p.1 < 0∨(¬ p.1 < 0∧p.2 < p.1)∨(¬ p.1 < 0∧¬ p.2 < p.1∧top < p.2):=by omega
    rcases hgd' with h|⟨h,h'⟩|⟨h,h',h''⟩
    all_goals (
     simp +contextual (disch:=omega) only[Tryz.f112,zKE,go_sem,simprocAttr,zJy,↓zAD,↓zAC,↓zAB,↓zAA,hp,spanAV]
     repeat' (first|intro _|apply And.intro|(unfold dOk;kernel_rfl)|exact St.beq_refl _|(show altO _ _ _ _=true;kernel_rfl)|(show (_ || _)=true;kernel_rfl)|(show (_ && _)=true;kernel_rfl))
     all_goals exact fzEq rfl rfl)
   ·rcases i with _|i
    ·simp +contextual (disch:=omega) only[Tryz.f112,zKE,go_sem,simprocAttr,zJy,↓zAD,↓zAC,↓zAB,↓zAA,hp,spanAV]
     repeat' (first|intro _|apply And.intro|(unfold dOk;kernel_rfl)|exact St.beq_refl _|(show altO _ _ _ _=true;kernel_rfl)|(show (_ || _)=true;kernel_rfl)|(show (_ && _)=true;kernel_rfl))
     ·exact ext (zJc hp hgd) _ ‹_›
     ·exact(by first|rfl|(refine zAa (n:=0) (m:=⟨some [12,11,10,1,0],some 0,[]⟩) rfl rfl ?_ ?_ ?_<;>first|rfl|(simp[keepT,AV.underL,AV.under,MB.under,zAF,zAJ,zAK,zAE,zAG,zAH,zAI,-List.map_take,-List.map_replicate,-List.map_set];done)|(simp[keepT,AV.underL,AV.under,MB.under,zAF,zAJ,zAK,zAE,zAG,zAH,zAI,-List.map_take,-List.map_replicate,-List.map_set];omega)))
    ·obtain⟨q,hq⟩:∃ q,l[i]?=some q:=⟨_,List.getElem?_eq_getElem (by omega)⟩
     have hqb:=zMg hq (hg i (by omega))
     have hb:=zJd hp hq hgd
     by_cases h2:p.1 < q.2+2
     ·rw[zEJ hlt (by rw[hb];simp[h2])]
      simp +contextual (disch:=omega) only[Tryz.f112,zKE,go_sem,simprocAttr,zJy,↓zAD,↓zAC,↓zAB,↓zAA,hp,hq,spanAV]
      repeat' (first|intro _|apply And.intro|(unfold dOk;kernel_rfl)|exact St.beq_refl _|(show altO _ _ _ _=true;kernel_rfl)|(show (_ || _)=true;kernel_rfl)|(show (_ && _)=true;kernel_rfl))
      all_goals exact fzEq rfl rfl
     ·simp +contextual (disch:=omega) only[Tryz.f112,zKE,go_sem,simprocAttr,zJy,↓zAD,↓zAC,↓zAB,↓zAA,hp,hq,spanAV]
      repeat' (first|intro _|apply And.intro|(unfold dOk;kernel_rfl)|exact St.beq_refl _|(show altO _ _ _ _=true;kernel_rfl)|(show (_ || _)=true;kernel_rfl)|(show (_ && _)=true;kernel_rfl))
      ·exact ext (by rw[hb];simp[h2]) _ ‹_›
      ·exact(by first|rfl|(refine zAa (n:=0) (m:=⟨some [12,11,10,1,0],some 0,[]⟩) rfl rfl ?_ ?_ ?_<;>first|rfl|(simp[keepT,AV.underL,AV.under,MB.under,zAF,zAJ,zAK,zAE,zAG,zAH,zAI,-List.map_take,-List.map_replicate,-List.map_set];done)|(simp[keepT,AV.underL,AV.under,MB.under,zAF,zAJ,zAK,zAE,zAG,zAH,zAI,-List.map_take,-List.map_replicate,-List.map_set];omega)))
  ·intro hg
   rw[zF1 (by omega) hg]
   simp +contextual (disch:=omega) only[Tryz.f112,zKE,go_sem,simprocAttr,zJy,↓zAD,↓zAC,↓zAB,↓zAA]
   exact fzEq rfl rfl
end
section
attribute [local go_sem] tySzE List.head?_drop Nat.mul_one zAP zAU zAN zAQ zAR zAX
open Go.Proofs Go.RowKit Go.IntWalk
set_option maxRecDepth 100000
set_option maxHeartbeats 8000000
abbrev nodeL (op:Int) (set:List (Int×Int)) (kids:List Re) (mn mx md n:Int) (neg:Bool):List AV:=[I op,.sl false (set.map spanAV),.sl false (kids.map reAV),I mn,I mx,I md,I n,.bool neg]
theorem f132 (op:Int) (set:List (Int×Int)) (kids:List Re) (mn mx md n:Int) (neg:Bool) (H:List MB):call Tryz.prog pol1 113 [.pt (nodeL op set kids mn mx md n neg)] H=some (.bool (repG mn mx md),H):=by
 refine zAS Tryz.func113 rfl rfl rfl rfl rfl rfl (fun _=>rfl) (by simp[AV.plain,AV.plainL,zAG,zAL]) rfl ?_ H
 by_cases h:mn < 0∨32 < mn∨md < 0∨2 < md
 ·have e:repG mn mx md=false:=by
   simp only[repG,Bool.and_eq_false_iff,decide_eq_false_iff_not]
   omega
  rw[e]
  have h':mn < 0∨(¬ mn < 0∧32 < mn)∨(¬ mn < 0∧¬ 32 < mn∧md < 0)∨(¬ mn < 0∧¬ 32 < mn∧¬ md < 0∧2 < md):=by omega
  rcases h' with h|⟨h,h1⟩|⟨h,h1,h2⟩|⟨h,h1,h2,h3⟩
  all_goals (
   simp +contextual (disch:=omega) only[Tryz.f113,dd113,go_sem,simprocAttr,zOe,↓zAD,↓zAC,↓zAB,↓zAA]
   repeat' (first|intro _|apply And.intro|(unfold dOk;kernel_rfl)|exact St.beq_refl _|(show altO _ _ _ _=true;kernel_rfl)|(show (_ || _)=true;kernel_rfl)|(show (_ && _)=true;kernel_rfl))
   all_goals exact fzEq rfl rfl)
 ·have e:repG mn mx md=(mx == -1 || (decide (1≤mx) && decide (mx≤32) && decide (mn≤mx))):=by
   have h1:0≤mn:=by omega
   have h2:mn≤32:=by omega
   have h3:0≤md:=by omega
   have h4:md≤2:=by omega
   simp[repG,h1,h2,h3,h4]
  rw[e]
  simp +contextual (disch:=omega) only[Tryz.f113,dd113,go_sem,simprocAttr,zOe,↓zAD,↓zAC,↓zAB,↓zAA]
  repeat' (first|intro _|apply And.intro|(unfold dOk;kernel_rfl)|exact St.beq_refl _|(show altO _ _ _ _=true;kernel_rfl)|(show (_ || _)=true;kernel_rfl)|(show (_ && _)=true;kernel_rfl))
  all_goals (first|exact fzEq rfl rfl|refine fzEq rfl (congrArg AV.bool ?_))
  all_goals (rw[Bool.eq_iff_iff];simp<;>omega)
theorem f104z (caps top:Int) (ht:top≤1114111) (op:Int) (set:List (Int×Int)) (kids:List Re) (mn mx md n:Int) (neg:Bool) (hs:set.length≤1000000) (hk:kids.length≤1000000) (H:List MB) :
  call Tryz.prog pol1 86 [.pt (nodeL op set kids mn mx md n neg),I caps,I top] H=some (.bool (formedG caps top (.mk op set kids mn mx md n neg)),H):=by
 refine zAS Tryz.func86 rfl rfl rfl rfl rfl rfl (fun _=>rfl) (by simp[AV.plain,AV.plainL,zAG,zAL]) rfl ?_ H
 have h131:=f131 set top ht hs
 have h132:=f132 op set kids mn mx md n neg
 by_cases h0:op < 0∨11 < op
 ·have e:formedG caps top (.mk op set kids mn mx md n neg)=false:=by
   have:¬ (0≤op∧op≤11):=by omega
   simp only[formedG,Bool.and_eq_false_iff,decide_eq_false_iff_not]
   omega
  rw[e]
  simp +contextual (disch:=omega) only[Tryz.f86,dd86,go_sem,simprocAttr,mu86,↓zAD,↓zAC,↓zAB,↓zAA,h131,h132]
  repeat' (first|intro _|apply And.intro|(unfold dOk;kernel_rfl)|exact St.beq_refl _|(show altO _ _ _ _=true;kernel_rfl)|(show (_ || _)=true;kernel_rfl)|(show (_ && _)=true;kernel_rfl))
  all_goals exact fzEq rfl rfl
 have hop:op=1∨op=4∨op=0∨op=2∨op=3∨op=5∨op=6∨op=7∨op=8∨op=9∨op=10∨op=11:=by omega
 clear h0
 rcases hop with rfl|rfl|rfl|rfl|rfl|rfl|rfl|rfl|rfl|rfl|rfl|rfl
 ·cases hsp:spansG set top
  all_goals (
   rw[hsp]at h131
   simp +contextual (disch:=omega) only[Tryz.f86,dd86,go_sem,simprocAttr,mu86,↓zAD,↓zAC,↓zAB,↓zAA,h131,h132]
   repeat' (first|intro _|apply And.intro|(unfold dOk;kernel_rfl)|exact St.beq_refl _|(show altO _ _ _ _=true;kernel_rfl)|(show (_ || _)=true;kernel_rfl)|(show (_ && _)=true;kernel_rfl))
   all_goals (clear h131 h132;refine fzEq rfl (congrArg AV.bool ?_);first|(simp_all [formedG,kidsG];done)|(simp_all [formedG,kidsG];omega)))
 ·cases hrp:repG mn mx md
  all_goals (
   rw[hrp]at h132
   simp +contextual (disch:=omega) only[Tryz.f86,dd86,go_sem,simprocAttr,mu86,↓zAD,↓zAC,↓zAB,↓zAA,h131,h132]
   repeat' (first|intro _|apply And.intro|(unfold dOk;kernel_rfl)|exact St.beq_refl _|(show altO _ _ _ _=true;kernel_rfl)|(show (_ || _)=true;kernel_rfl)|(show (_ && _)=true;kernel_rfl))
   all_goals (clear h131 h132;refine fzEq rfl (congrArg AV.bool ?_);first|(simp_all [formedG,kidsG];done)|(simp_all [formedG,kidsG];omega)))
 all_goals (
  simp +contextual (disch:=omega) only[Tryz.f86,dd86,go_sem,simprocAttr,mu86,↓zAD,↓zAC,↓zAB,↓zAA,h131,h132]
  repeat' (first|intro _|apply And.intro|(unfold dOk;kernel_rfl)|exact St.beq_refl _|(show altO _ _ _ _=true;kernel_rfl)|(show (_ || _)=true;kernel_rfl)|(show (_ && _)=true;kernel_rfl))
  all_goals (clear h131 h132;refine fzEq rfl (congrArg AV.bool ?_);first|(simp_all [formedG,kidsG,repG];done)|(simp_all [formedG,kidsG,repG];omega)))
end
section
attribute [local go_sem] tySzE List.head?_drop Nat.mul_one zAP zAU zAN zAQ zAR zAX
open Go.Proofs Go.RowKit Go.IntWalk
set_option maxRecDepth 100000
set_option maxHeartbeats 8000000
theorem f112:∀(N:Nat) (r:Re),r.wt≤N→r.wt≤1000000→∀ H,call Tryz.prog pol1 173 [reAV r] H=some (I r.size,H)
 | 0,r,h,_,_=>by have:=r.wt_pos;omega
 | N+1,.mk op set kids mn mx md n neg,h,hN,H=>by
   have hkl:=Re.wtL_len kids
   have hwt:1+set.length+Re.wtL kids=(Re.mk op set kids mn mx md n neg).wt:=by simp[Re.wt]
   have ih:=fun k (hk:k∈kids)=>f112 N k (by have:=Re.wtL_mem hk;omega) (by have:=Re.wtL_mem hk;omega)
   have hsz:=Re.sizeL_wt kids
   rw[show reAV (.mk op set kids mn mx md n neg)=.agg (nodeL op set kids mn mx md n neg) from congrArg AV.agg zCc]
   refine zAS Tryz.func173 rfl rfl rfl rfl rfl rfl (fun _=>rfl) (by simp[AV.plain,AV.plainL,zAG,zAL]) rfl ?_ H
   simp +contextual (disch:=omega) only[Tryz.f173,zOJ,go_sem,simprocAttr,zN1,↓zAD,↓zAC,↓zAB,↓zAA]
   refine zAd (M:=(mskOf (pol1.mask 173) (pol1.gc 173) (pol1.acts 173) 0 3)) rfl kids.length (fun i=>(⟨21,[(4,I i),(3,I ((1+Re.sizeL (kids.take i):Nat):Int)),(1,.rf 0 1 0 0)],[.row 8 [.agg (nodeL op set kids mn mx md n neg)] 0]⟩:St)) (fun _=>True) ?_ ?_ trivial _ (by first|rfl|(refine zAa (n:=1) (m:=⟨some [4,3,1],some 1,[]⟩) rfl rfl ?_ ?_ ?_<;>first|rfl|(simp[keepT,AV.underL,AV.under,MB.under,zAF,zAJ,zAK,zAE,zAG,zAH,zAI,-List.map_take,-List.map_replicate,-List.map_set,Re.sizeL,zAL];done)|(simp[keepT,AV.underL,AV.under,MB.under,zAF,zAJ,zAK,zAE,zAG,zAH,zAI,-List.map_take,-List.map_replicate,-List.map_set,Re.sizeL,zAL];omega)))
   ·intro i hi _
    obtain⟨k,hk⟩:∃ k,kids[i]?=some k:=⟨_,List.getElem?_eq_getElem hi⟩
    have hkm:=List.mem_of_getElem? hk
    have ihk:=ih k hkm
    have hle:=Re.sizeL_take hk
    have hle2:=Re.sizeL_le (l:=kids) (i:=i+1)
    have hadd:((1+Re.sizeL (kids.take i):Nat):Int)+(k.size:Int)=((1+Re.sizeL (kids.take (i+1)):Nat):Int):=by omega
    have hl8:=zAM k
    have ht8:=zAT k
    simp +contextual (disch:=omega) only[Tryz.f173,zOJ,go_sem,simprocAttr,zN1,↓zAD,↓zAC,↓zAB,↓zAA,hk,ihk,hadd,hl8,ht8]
    exact(by first|rfl|(refine zAa (n:=1) (m:=⟨some [4,3,1],some 1,[]⟩) rfl rfl ?_ ?_ ?_<;>first|rfl|(simp[keepT,AV.underL,AV.under,MB.under,zAF,zAJ,zAK,zAE,zAG,zAH,zAI,-List.map_take,-List.map_replicate,-List.map_set,zAL];done)|(simp[keepT,AV.underL,AV.under,MB.under,zAF,zAJ,zAK,zAE,zAG,zAH,zAI,-List.map_take,-List.map_replicate,-List.map_set,zAL];omega)))
   ·intro _
    rw[List.take_length]
    simp +contextual (disch:=omega) only[Tryz.f173,zOJ,go_sem,simprocAttr,zN1,↓zAD,↓zAC,↓zAB,↓zAA]
    exact fzEq rfl (by simp[Re.size])
theorem f113:∀(N:Nat) (r:Re),r.wt≤N→r.wt≤1000000→∀ H,call Tryz.prog pol1 174 [reAV r] H=some (I r.depth,H)
 | 0,r,h,_,_=>by have:=r.wt_pos;omega
 | N+1,.mk op set kids mn mx md n neg,h,hN,H=>by
   have hkl:=Re.wtL_len kids
   have hwt:1+set.length+Re.wtL kids=(Re.mk op set kids mn mx md n neg).wt:=by simp[Re.wt]
   have ih:=fun k (hk:k∈kids)=>f113 N k (by have:=Re.wtL_mem hk;omega) (by have:=Re.wtL_mem hk;omega)
   have hsz:=Re.sizeL_wt kids
   have hdz:=Re.depthL_size kids
   rw[show reAV (.mk op set kids mn mx md n neg)=.agg (nodeL op set kids mn mx md n neg) from congrArg AV.agg zCc]
   refine zAS Tryz.func174 rfl rfl rfl rfl rfl rfl (fun _=>rfl) (by simp[AV.plain,AV.plainL,zAG,zAL]) rfl ?_ H
   simp +contextual (disch:=omega) only[Tryz.f174,zOI,go_sem,simprocAttr,zN0,↓zAD,↓zAC,↓zAB,↓zAA]
   refine zAd (M:=(mskOf (pol1.mask 174) (pol1.gc 174) (pol1.acts 174) 0 3)) rfl kids.length (fun i=>(⟨22,[(4,I i),(3,I ((Re.depthL (kids.take i):Nat):Int)),(1,.rf 0 1 0 0)],[.row 8 [.agg (nodeL op set kids mn mx md n neg)] 0]⟩:St)) (fun _=>True) ?_ ?_ trivial _ (by first|rfl|(refine zAa (n:=1) (m:=⟨some [4,3,1],some 1,[]⟩) rfl rfl ?_ ?_ ?_<;>first|rfl|(simp[keepT,AV.underL,AV.under,MB.under,zAF,zAJ,zAK,zAE,zAG,zAH,zAI,-List.map_take,-List.map_replicate,-List.map_set,Re.depthL,zAL];done)|(simp[keepT,AV.underL,AV.under,MB.under,zAF,zAJ,zAK,zAE,zAG,zAH,zAI,-List.map_take,-List.map_replicate,-List.map_set,Re.depthL,zAL];omega)))
   ·intro i hi _
    obtain⟨k,hk⟩:∃ k,kids[i]?=some k:=⟨_,List.getElem?_eq_getElem hi⟩
    have hkm:=List.mem_of_getElem? hk
    have ihk:=ih k hkm
    have hle:=Re.depthL_take hk
    have hadd:(if(k.depth:Int) > (Re.depthL (kids.take i):Nat) then(k.depth:Int) else(Re.depthL (kids.take i):Nat))=((Re.depthL (kids.take (i+1)):Nat):Int):=by rw[hle];split<;>omega
    have hl8:=zAM k
    have ht8:=zAT k
    simp +contextual (disch:=omega) only[Tryz.f174,zOI,go_sem,simprocAttr,zN0,↓zAD,↓zAC,↓zAB,↓zAA,hk,ihk,evMax,hadd,hl8,ht8]
    exact(by first|rfl|(refine zAa (n:=1) (m:=⟨some [4,3,1],some 1,[]⟩) rfl rfl ?_ ?_ ?_<;>first|rfl|(simp[keepT,AV.underL,AV.under,MB.under,zAF,zAJ,zAK,zAE,zAG,zAH,zAI,-List.map_take,-List.map_replicate,-List.map_set,zAL];done)|(simp[keepT,AV.underL,AV.under,MB.under,zAF,zAJ,zAK,zAE,zAG,zAH,zAI,-List.map_take,-List.map_replicate,-List.map_set,zAL];omega)))
   ·intro _
    rw[List.take_length]
    simp +contextual (disch:=omega) only[Tryz.f174,zOI,go_sem,simprocAttr,zN0,↓zAD,↓zAC,↓zAB,↓zAA]
    exact fzEq rfl (by simp[Re.depth];omega)
end
end Go.Ev
