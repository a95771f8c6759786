/- Functions of the program, each with what it computes; no further conditions. -/
import Derived.Test.YtmfpcondongbjaaGreatO07
import Derived.Test.YtmfpcondongbjaaGreatO14
import Derived.Test.YtmfpcondongbjaaGreatO13
set_option linter.unusedVariables false
set_option linter.unusedSimpArgs false
namespace Go.Ev
attribute [local go_sem] evAppend evBin evBuild splice List.length_append List.map_append
section
attribute [local go_sem] AV.cells tySzE List.head?_drop Nat.mul_one zAP zAU zAN zAQ zAR zAX
open Go.Proofs Go.RowKit Go.IntWalk
set_option maxRecDepth 100000
set_option maxHeartbeats 8000000
theorem zGe (ins:List Int):∀ l:List Re,compL ins l=true↔∀ k∈l,compG ins k=true
 | []=>by simp[compL]
 | k::ks=>by simp[compL,zGe ins ks]
theorem zDC {ins:List Int} {l:List Re} {k:Re} (h:k∈l) (hk:compG ins k=false):compL ins l=false:=by
 rw[Bool.eq_false_iff]
 intro hw
 rw[zGe]at hw
 rw[hw k h]at hk;cases hk
theorem zDa {ins:List Int} {l:List Re} (h:∀(i:Nat) (k:Re),i < l.length→l[i]?=some k→compG ins k=true):compL ins l=true:=by
 rw[zGe]
 intro k hk
 obtain⟨i,hi,e⟩:=List.getElem_of_mem hk
 exact h i k hi (by rw[← e];exact List.getElem?_eq_getElem hi)
theorem f115 (l:List Int) (x:Int) (hl:l.length≤10000000) (H:List MB):call Tryz.prog pol1 41 [.sl false (l.map I),I x] H=some (.bool (decide (x∈l)),H):=by
 refine zAS Tryz.func41 rfl rfl rfl rfl rfl rfl (fun _=>rfl) (by simp[AV.plain,AV.plainL,zAE]) rfl ?_ H
 simp +contextual (disch:=omega) only[Tryz.f41,dd41,go_sem,simprocAttr,mu41,↓zAD,↓zAC,↓zAB,↓zAA]
 refine zAd (M:=(mskOf (pol1.mask 41) (pol1.gc 41) (pol1.acts 41) 0 2)) rfl l.length (fun i=>(⟨18,[(5,I i),(1,I x),(0,.sl false (l.map I))],[]⟩:St)) (fun i=>∀ k p,k < i→l[k]?=some p→p≠x) ?_ ?_ (fun k p h=>by omega) _ (by first|rfl|(simp[keepT,AV.underL,AV.under,MB.under,zAF,zAJ,zAK,zAE,zAG,zAH,zAI,-List.map_take,-List.map_replicate,-List.map_set];done))
 ·intro i hi hg
  obtain⟨p,hp⟩:∃ p,l[i]?=some p:=⟨_,List.getElem?_eq_getElem hi⟩
  by_cases hpx:p=x
  ·subst hpx
   rw[decide_eq_true (List.mem_of_getElem? hp)]
   simp +contextual (disch:=omega) only[Tryz.f41,dd41,go_sem,simprocAttr,mu41,↓zAD,↓zAC,↓zAB,↓zAA,hp]
   exact fzEq rfl rfl
  ·simp +contextual (disch:=omega) only[Tryz.f41,dd41,go_sem,simprocAttr,mu41,↓zAD,↓zAC,↓zAB,↓zAA,hp]
   refine⟨fun k q hk hq=>?_,(by first|rfl|(simp[keepT,AV.underL,AV.under,MB.under,zAF,zAJ,zAK,zAE,zAG,zAH,zAI,-List.map_take,-List.map_replicate,-List.map_set];done))⟩
   rcases Nat.lt_or_ge k i with h|h
   ·exact hg k q h hq
   ·obtain rfl:k=i:=by omega
    rw[hp]at hq;obtain rfl:=Option.some.inj hq
    exact hpx
 ·intro hg
  have:¬ x∈l:=fun hm=>by
   obtain⟨i,hi,e⟩:=List.getElem_of_mem hm
   exact hg i x hi (by rw[← e];exact List.getElem?_eq_getElem hi) rfl
  rw[decide_eq_false this]
  simp +contextual (disch:=omega) only[Tryz.f41,dd41,go_sem,simprocAttr,mu41,↓zAD,↓zAC,↓zAB,↓zAA]
  exact fzEq rfl rfl
theorem f134 (l:List Int) (x:Int) (hl:l.length≤10000000):∃ r:Int,(0≤r↔x∈l)∧∀ H,call Tryz.prog pol1 115 [.sl false (l.map I),I x] H=some (I r,H):=by
 have h:∃ r,(∃ i:Int,(0≤i↔x∈l)∧r=I i)∧∀ H,call Tryz.prog pol1 115 [.sl false (l.map I),I x] H=some (r,H):=by
  refine zCX Tryz.func115 rfl rfl rfl rfl rfl rfl (fun _=>rfl) (by simp[AV.plain,AV.plainL,zAE]) ?_ ?_
  ·rintro _ ⟨i,_,rfl⟩;rfl
  simp +contextual (disch:=omega) only[Tryz.f115,zNK,go_sem,simprocAttr,zM6,↓zAD,↓zAC,↓zAB,↓zAA]
  refine zAd (M:=(mskOf (pol1.mask 115) (pol1.gc 115) (pol1.acts 115) 0 2)) rfl l.length (fun i=>(⟨19,[(8,I i),(7,I l.length),(1,I x),(0,.sl false (l.map I))],[]⟩:St)) (fun i=>∀ k p,k < i→l[k]?=some p→p≠x) ?_ ?_ (fun k p h=>by omega) _ (by first|rfl|(simp[keepT,AV.underL,AV.under,MB.under,zAF,zAJ,zAK,zAE,zAG,zAH,zAI,-List.map_take,-List.map_replicate,-List.map_set];done))
  ·intro i hi hg
   obtain⟨p,hp⟩:∃ p,l[i]?=some p:=⟨_,List.getElem?_eq_getElem hi⟩
   by_cases hpx:p=x
   ·subst hpx
    simp +contextual (disch:=omega) only[Tryz.f115,zNK,go_sem,simprocAttr,zM6,↓zAD,↓zAC,↓zAB,↓zAA,hp]
    exact⟨_,⟨i,⟨fun _=>List.mem_of_getElem? hp,fun _=>by omega⟩,rfl⟩,_,rfl⟩
   ·simp +contextual (disch:=omega) only[Tryz.f115,zNK,go_sem,simprocAttr,zM6,↓zAD,↓zAC,↓zAB,↓zAA,hp]
    refine⟨fun k q hk hq=>?_,(by first|rfl|(simp[keepT,AV.underL,AV.under,MB.under,zAF,zAJ,zAK,zAE,zAG,zAH,zAI,-List.map_take,-List.map_replicate,-List.map_set];done))⟩
    rcases Nat.lt_or_ge k i with h|h
    ·exact hg k q h hq
    ·obtain rfl:k=i:=by omega
     rw[hp]at hq;obtain rfl:=Option.some.inj hq
     exact hpx
  ·intro hg
   have:¬ x∈l:=fun hm=>by
    obtain⟨i,hi,e⟩:=List.getElem_of_mem hm
    exact hg i x hi (by rw[← e];exact List.getElem?_eq_getElem hi) rfl
   simp +contextual (disch:=omega) only[Tryz.f115,zNK,go_sem,simprocAttr,zM6,↓zAD,↓zAC,↓zAB,↓zAA]
   exact⟨_,⟨-1,⟨fun h=>by omega,fun h=>absurd h this⟩,rfl⟩,_,rfl⟩
 obtain⟨_,⟨i,h1,rfl⟩,h2⟩:=h
 exact⟨i,h1,h2⟩
theorem f106z (l:List Int) (x:Int) (hl:l.length≤10000000) (H:List MB):call Tryz.prog pol1 88 [.sl false (l.map I),I x] H=some (.bool (decide (x∈l)),H):=by
 refine zAS Tryz.func88 rfl rfl rfl rfl rfl rfl (fun _=>rfl) (by simp[AV.plain,AV.plainL,zAE]) rfl ?_ H
 obtain⟨r,h1,h2⟩:=f134 l x hl
 simp +contextual (disch:=omega) only[Tryz.f88,dd88,go_sem,simprocAttr,mu88,↓zAD,↓zAC,↓zAB,↓zAA,h2]
 refine fzEq rfl (congrArg AV.bool ?_)
 rw[decide_eq_decide]
 exact h1
def zi (m:Nat):Nat→Nat
 | 0=>0
 | _+1=>m
theorem zNT (m i:Nat):max (zi m i) m=m:=by cases i<;>simp[zi]
theorem f53 (caps top:Int):∀(N:Nat) (r:Re) (ins:List Int),r.wt≤N→r.wt≤1000000→ins.length+r.wt≤2000000→wholeG caps top r=true→∀ H,call Tryz.prog pol1 61 [reAV r,.sl false (ins.map I)] H=some (.bool (compG ins r),H)
 | 0,r,_,h,_,_,_=>by have:=r.wt_pos;omega
 | N+1,.mk op set kids mn mx md n neg,ins,h,hN,hI,hw=>by
   intro H
   have hkl:=Re.wtL_len kids
   have hwt:1+set.length+Re.wtL kids=(Re.mk op set kids mn mx md n neg).wt:=by simp[Re.wt]
   obtain⟨hwk,hkd,hrp,_,ho1,ho2⟩:=zAv hw
   have ih:=fun k (hk:k∈kids) (ins':List Int) (hi:ins'.length≤ins.length+1)=>f53 caps top N k ins' (by have:=Re.wtL_mem hk;omega) (by have:=Re.wtL_mem hk;omega) (by have:=Re.wtL_mem hk;omega) (hwk k hk)
   have h20:=fun k (hk:k∈kids)=>f20 k.wt k (Nat.le_refl _) (by have:=Re.wtL_mem hk;omega)
   have h115:=f115 ins n (by omega)
   rw[show reAV (.mk op set kids mn mx md n neg)=.agg (nodeL op set kids mn mx md n neg) from congrArg AV.agg zCc]
   refine zAS Tryz.func61 rfl rfl rfl rfl rfl rfl (fun _=>rfl) (by simp[AV.plain,AV.plainL,zAG,zAL,zAE]) rfl ?_ H
   rw[compG]
   by_cases h4:op=4∧(md=2∨nullHd kids=true)
   ·rw[if_pos h4]
    obtain⟨rfl,h4⟩:=h4
    by_cases hmd:md=2
    ·simp +contextual (disch:=omega) only[Tryz.f61,dd61,go_sem,simprocAttr,mu61,↓zAD,↓zAC,↓zAB,↓zAA]
     exact fzEq rfl rfl
    ·have hnl:nullHd kids=true:=by rcases h4 with h|h;exact absurd h hmd;exact h
     cases kids with
     | nil=>simp[nullHd]at hnl
     | cons k ks=>
       have h20k:=h20 k (List.mem_cons_self ..)
       rw[show nullG k=true from hnl]at h20k
       have hl8:=zAM k
       have ht8:=zAT k
       simp only[List.length_cons]at hkl
       simp +contextual (disch:=omega) only[Tryz.f61,dd61,go_sem,simprocAttr,mu61,↓zAD,↓zAC,↓zAB,↓zAA,h20k,hl8,ht8]
       exact fzEq rfl rfl
   rw[if_neg h4]
   by_cases h5:op=5
   ·subst h5
    rw[if_pos rfl]
    by_cases hm:n∈ins
    ·rw[if_pos hm]
     rw[decide_eq_true hm]at h115
     simp +contextual (disch:=omega) only[Tryz.f61,dd61,go_sem,simprocAttr,mu61,↓zAD,↓zAC,↓zAB,↓zAA,h115]
     exact fzEq rfl rfl
    ·rw[if_neg hm]
     rw[decide_eq_false hm]at h115
     have hcall:∀(b0:MB) (z:Nat) (k:Re),k∈kids→call Tryz.prog pol1 61 [reAV k,.ms 1 1 (ins.length+1) 0 (ins.length+1)] [b0,.row 1 ((ins++[n]).map I) z]=some (.bool (compG (ins++[n]) k),[b0,.row 1 ((ins++[n]).map I) (max z (ins.length+1))]):=fun b0 z k hk=>by
      have h1:frzArgs pol1 61 0 [reAV k,.ms 1 1 (ins.length+1) 0 (ins.length+1)] [b0,.row 1 ((ins++[n]).map I) z]=some ([reAV k,.sl false ((ins++[n]).map I)],[b0,.row 1 ((ins++[n]).map I) (max z (ins.length+1))]):=by
       have h2:fz (.ms 1 1 (ins.length+1) 0 (ins.length+1)) [b0,.row 1 ((ins++[n]).map I) z]=some (.sl false ((ins++[n]).map I),[b0,.row 1 ((ins++[n]).map I) (max z (ins.length+1))]):=
        zFg (k:=1) (z:=z) rfl (by simp) (zAE _)
       have hby:∀ i,pol1.byref 61 i=false:=fun i=>rfl
       simp only[frzArgs,hby,Bool.false_eq_true,if_false,zAf _ (show AV.plain (reAV k)=true from zAb k),h2]
      rw[zNM rfl h1 (by simp[AV.plainL,AV.plain,zAb,zAE,-List.map_append])]
      exact ih k hk (ins++[n]) (by simp) _
     have hmm:∀ z,z=0∨z=ins.length+1→max z (ins.length+1)=ins.length+1:=fun z hz=>by omega
     have hinl:ins.length≤2000000:=by omega
     cases ins with
     | nil=>
       simp only[List.map_nil,List.map_cons,List.nil_append,List.length_nil,Nat.zero_add]at h115 hcall
       simp +contextual (disch:=omega) only[Tryz.f61,dd61,go_sem,simprocAttr,mu61,↓zAD,↓zAC,↓zAB,↓zAA,h115]
       repeat' (first|intro _|apply And.intro|(unfold dOk;kernel_rfl)|exact St.beq_refl _|(show altO _ _ _ _=true;kernel_rfl)|(show (_ || _)=true;kernel_rfl)|(show (_ && _)=true;kernel_rfl))
       refine zAd (M:=(mskOf (pol1.mask 61) (pol1.gc 61) (pol1.acts 61) 0 12)) rfl kids.length (fun i=>(⟨61,[(7,I i),(2,.rf 0 1 0 0),(1,.ms 1 1 (1) 0 (1))],[.row 8 [.agg (nodeL 5 set kids mn mx md n neg)] 0,.row 1 ([I n]) (zi (1) i)]⟩:St)) (fun i=>∀ j k,j < i→kids[j]?=some k→compG ([n]) k=true) ?_ ?_ (fun j k h=>by omega) _ (by first|rfl|(refine zAa (n:=2) (m:=⟨some [7,2,1],some 2,[]⟩) rfl rfl ?_ ?_ ?_<;>first|rfl|(simp[keepT,AV.underL,AV.under,MB.under,zAF,zAJ,zAK,zAE,zAG,zAH,zAI,-List.map_take,-List.map_replicate,-List.map_set,zAL,zi];done)|(simp[keepT,AV.underL,AV.under,MB.under,zAF,zAJ,zAK,zAE,zAG,zAH,zAI,-List.map_take,-List.map_replicate,-List.map_set,zAL,zi];omega)))
       ·intro i hi hg
        obtain⟨k,hk⟩:∃ k,kids[i]?=some k:=⟨_,List.getElem?_eq_getElem hi⟩
        have ihk:=fun b0 z=>hcall b0 z k (List.mem_of_getElem? hk)
        have hl8:=zAM k
        have ht8:=zAT k
        have hz:=zNT (1) i
        cases hn:compG ([n]) k with
        | false=>
          rw[hn]at ihk
          rw[show compL [n] kids=false from zDC (List.mem_of_getElem? hk) hn]
          simp +contextual (disch:=omega) only[Tryz.f61,dd61,go_sem,simprocAttr,mu61,↓zAD,↓zAC,↓zAB,↓zAA,hk,ihk,hl8,ht8]
          exact fzEq rfl rfl
        | true=>
          rw[hn]at ihk
          simp +contextual (disch:=omega) only[Tryz.f61,dd61,go_sem,simprocAttr,mu61,↓zAD,↓zAC,↓zAB,↓zAA,hk,ihk,hl8,ht8,hz]
          refine⟨fun j q hj hq=>?_,(by first|rfl|(refine zAa (n:=2) (m:=⟨some [7,2,1],some 2,[]⟩) rfl rfl ?_ ?_ ?_<;>first|rfl|(simp[keepT,AV.underL,AV.under,MB.under,zAF,zAJ,zAK,zAE,zAG,zAH,zAI,-List.map_take,-List.map_replicate,-List.map_set,zAL,zAE];done)|(simp[keepT,AV.underL,AV.under,MB.under,zAF,zAJ,zAK,zAE,zAG,zAH,zAI,-List.map_take,-List.map_replicate,-List.map_set,zAL,zAE];omega)))⟩
          rcases Nat.lt_or_ge j i with h|h
          ·exact hg j q h hq
          ·obtain rfl:j=i:=by omega
           rw[hk]at hq;obtain rfl:=Option.some.inj hq
           exact hn
       ·intro hg
        rw[show compL [n] kids=true from zDa fun j k hj hk=>hg j k hj hk]
        simp +contextual (disch:=omega) only[Tryz.f61,dd61,go_sem,simprocAttr,mu61,↓zAD,↓zAC,↓zAB,↓zAA]
        exact fzEq rfl rfl
     | cons x xs=>
       simp only[List.map_nil,List.map_cons,List.map_append,List.cons_append,List.length_cons]at h115 hcall hinl
       have hto:List.take (xs.length+1) (I x::List.map I xs)=I x::List.map I xs:=by rw[List.take_succ_cons];rw[zDN rfl]
       have hsn:x::(xs++[n])=(x::xs)++[n]:=rfl
       have hal:=zK2 (x::xs)
       simp +contextual (disch:=omega) only[Tryz.f61,dd61,go_sem,simprocAttr,mu61,↓zAD,↓zAC,↓zAB,↓zAA,h115,hto]
       repeat' (first|intro _|apply And.intro|(unfold dOk;kernel_rfl)|exact St.beq_refl _|(show altO _ _ _ _=true;kernel_rfl)|(show (_ || _)=true;kernel_rfl)|(show (_ && _)=true;kernel_rfl))
       ·exact zK2 xs
       refine zAd (M:=(mskOf (pol1.mask 61) (pol1.gc 61) (pol1.acts 61) 0 12)) rfl kids.length (fun i=>(⟨61,[(7,I i),(2,.rf 0 1 0 0),(1,.ms 1 1 (xs.length+1+1) 0 (xs.length+1+1))],[.row 8 [.agg (nodeL 5 set kids mn mx md n neg)] 0,.row 1 (I x::(List.map I xs++[I n])) (zi (xs.length+1+1) i)]⟩:St)) (fun i=>∀ j k,j < i→kids[j]?=some k→compG (x::(xs++[n])) k=true) ?_ ?_ (fun j k h=>by omega) _ (by first|rfl|(refine zAa (n:=2) (m:=⟨some [7,2,1],some 2,[]⟩) rfl rfl ?_ ?_ ?_<;>first|rfl|(simp[keepT,AV.underL,AV.under,MB.under,zAF,zAJ,zAK,zAE,zAG,zAH,zAI,-List.map_take,-List.map_replicate,-List.map_set,zAL,zi];done)|(simp[keepT,AV.underL,AV.under,MB.under,zAF,zAJ,zAK,zAE,zAG,zAH,zAI,-List.map_take,-List.map_replicate,-List.map_set,zAL,zi];omega)))
       ·intro i hi hg
        obtain⟨k,hk⟩:∃ k,kids[i]?=some k:=⟨_,List.getElem?_eq_getElem hi⟩
        have ihk:=fun b0 z=>hcall b0 z k (List.mem_of_getElem? hk)
        have hl8:=zAM k
        have ht8:=zAT k
        have hz:=zNT (xs.length+1+1) i
        cases hn:compG (x::(xs++[n])) k with
        | false=>
          rw[hn]at ihk
          rw[show compL (x::(xs++[n])) kids=false from zDC (List.mem_of_getElem? hk) hn]
          simp +contextual (disch:=omega) only[Tryz.f61,dd61,go_sem,simprocAttr,mu61,↓zAD,↓zAC,↓zAB,↓zAA,hk,ihk,hl8,ht8]
          exact fzEq rfl rfl
        | true=>
          rw[hn]at ihk
          simp +contextual (disch:=omega) only[Tryz.f61,dd61,go_sem,simprocAttr,mu61,↓zAD,↓zAC,↓zAB,↓zAA,hk,ihk,hl8,ht8,hz]
          refine⟨fun j q hj hq=>?_,(by first|rfl|(refine zAa (n:=2) (m:=⟨some [7,2,1],some 2,[]⟩) rfl rfl ?_ ?_ ?_<;>first|rfl|(simp[keepT,AV.underL,AV.under,MB.under,zAF,zAJ,zAK,zAE,zAG,zAH,zAI,-List.map_take,-List.map_replicate,-List.map_set,zAL,zAE];done)|(simp[keepT,AV.underL,AV.under,MB.under,zAF,zAJ,zAK,zAE,zAG,zAH,zAI,-List.map_take,-List.map_replicate,-List.map_set,zAL,zAE];omega)))⟩
          rcases Nat.lt_or_ge j i with h|h
          ·exact hg j q h hq
          ·obtain rfl:j=i:=by omega
           rw[hk]at hq;obtain rfl:=Option.some.inj hq
           exact hn
       ·intro hg
        rw[show compL (x::(xs++[n])) kids=true from zDa fun j k hj hk=>hg j k hj hk]
        simp +contextual (disch:=omega) only[Tryz.f61,dd61,go_sem,simprocAttr,mu61,↓zAD,↓zAC,↓zAB,↓zAA]
        exact fzEq rfl rfl
   rw[if_neg h5]
   by_cases h6:5 < op∧op≠11
   ·rw[if_pos h6]
    have hnl:op=4→¬ nullHd kids=true:=fun h=>by omega
    simp +contextual (disch:=omega) only[Tryz.f61,dd61,go_sem,simprocAttr,mu61,↓zAD,↓zAC,↓zAB,↓zAA]
    exact fzEq rfl rfl
   rw[if_neg h6]
   have hfrz:∀ k (H:List MB),k∈kids→call Tryz.prog pol1 61 [reAV k,.sl false (ins.map I)] H=some (.bool (compG ins k),H):=fun k H hk=>ih k hk ins (by omega) H
   have hmain:∀ k',kids.head?=some k'→op=4→∀ H,call Tryz.prog pol1 96 [reAV k'] H=some (.bool false,H):=fun k' hk' hop4=>by
    cases kids with
    | nil=>cases hk'
    | cons k ks=>
      have e:k=k':=by simpa using hk'
      subst e
      have h1:=h20 k (List.mem_cons_self ..)
      have:nullG k=false:=by
       cases hn:nullG k with
       | false=>rfl
       | true=>exact absurd ⟨hop4,.inr hn⟩ h4
      rw[this]at h1;exact h1
   have hloop:∀ r,r=compL ins kids→op≠5→True:=fun _ _ _=>trivial
   have hone:op=4→kids.length=1:=fun h=>by subst h;simpa [kidsG] using hkd
   by_cases ho4:op=4
   ·subst ho4
    have hmd:¬ md=2:=fun h=>h4 ⟨rfl,.inl h⟩
    have hk1:=hone rfl
    match kids,hk1 with
    | [k],_=>
      have h20k:=hmain k rfl rfl
      have hl8:=zAM k
      have ht8:=zAT k
      have hf:=fun H=>hfrz k H (List.mem_cons_self ..)
      generalize hks:([k]:List Re)=kids at *
      have hkk:kids.map reAV=[reAV k]:=by rw[← hks];rfl
      have hget:(kids.map reAV)[0]?=some (reAV k):=by rw[hkk];rfl
      have hget':kids[0]?=some k:=by rw[← hks];rfl
      have hlen1:kids.length=1:=by rw[← hks];rfl
      clear hmain hloop hone
      simp +contextual (disch:=omega) only[Tryz.f61,dd61,go_sem,simprocAttr,mu61,↓zAD,↓zAC,↓zAB,↓zAA,h20k,hl8,ht8,hget']
      refine zAd (M:=(mskOf (pol1.mask 61) (pol1.gc 61) (pol1.acts 61) 0 12)) rfl (kids).length (fun i=>(⟨61,[(7,I i),(2,.rf 0 1 0 0),(1,.sl false (ins.map I))],[.row 8 [.agg (nodeL _ set (kids) mn mx md n neg)] 0]⟩:St)) (fun i=>∀ j k,j < i→(kids)[j]?=some k→compG ins k=true) ?_ ?_ (fun j k h=>by omega) _ (by first|rfl|(refine zAa (n:=2) (m:=⟨some [7,2,1],some 2,[]⟩) rfl rfl ?_ ?_ ?_<;>first|rfl|(simp[keepT,AV.underL,AV.under,MB.under,zAF,zAJ,zAK,zAE,zAG,zAH,zAI,-List.map_take,-List.map_replicate,-List.map_set,zAL,zAb];done)|(simp[keepT,AV.underL,AV.under,MB.under,zAF,zAJ,zAK,zAE,zAG,zAH,zAI,-List.map_take,-List.map_replicate,-List.map_set,zAL,zAb];omega)))
      ·intro i hi hg
       obtain⟨k,hk⟩:∃ k,(kids)[i]?=some k:=⟨_,List.getElem?_eq_getElem hi⟩
       have ihk:=fun H=>hfrz k H (List.mem_of_getElem? hk)
       have hl8:=zAM k
       have ht8:=zAT k
       cases hn:compG ins k with
       | false=>
         rw[hn]at ihk
         rw[show compL ins (kids)=false from zDC (List.mem_of_getElem? hk) hn]
         simp +contextual (disch:=omega) only[Tryz.f61,dd61,go_sem,simprocAttr,mu61,↓zAD,↓zAC,↓zAB,↓zAA,hk,ihk,hl8,ht8]
         exact fzEq rfl rfl
       | true=>
         rw[hn]at ihk
         simp +contextual (disch:=omega) only[Tryz.f61,dd61,go_sem,simprocAttr,mu61,↓zAD,↓zAC,↓zAB,↓zAA,hk,ihk,hl8,ht8]
         refine⟨fun j q hj hq=>?_,(by first|rfl|(refine zAa (n:=2) (m:=⟨some [7,2,1],some 2,[]⟩) rfl rfl ?_ ?_ ?_<;>first|rfl|(simp[keepT,AV.underL,AV.under,MB.under,zAF,zAJ,zAK,zAE,zAG,zAH,zAI,-List.map_take,-List.map_replicate,-List.map_set,zAL,zAb];done)|(simp[keepT,AV.underL,AV.under,MB.under,zAF,zAJ,zAK,zAE,zAG,zAH,zAI,-List.map_take,-List.map_replicate,-List.map_set,zAL,zAb];omega)))⟩
         rcases Nat.lt_or_ge j i with h|h
         ·exact hg j q h hq
         ·obtain rfl:j=i:=by omega
          rw[hk]at hq;obtain rfl:=Option.some.inj hq
          exact hn
      ·intro hg
       rw[show compL ins (kids)=true from zDa fun j k hj hk=>hg j k hj hk]
       simp +contextual (disch:=omega) only[Tryz.f61,dd61,go_sem,simprocAttr,mu61,↓zAD,↓zAC,↓zAB,↓zAA]
       exact fzEq rfl rfl
   ·have hop:op=0∨op=1∨op=2∨op=3∨op=11:=by omega
    clear hmain hloop hone h4
    rcases hop with rfl|rfl|rfl|rfl|rfl
    all_goals (
     simp +contextual (disch:=omega) only[Tryz.f61,dd61,go_sem,simprocAttr,mu61,↓zAD,↓zAC,↓zAB,↓zAA]
     refine zAd (M:=(mskOf (pol1.mask 61) (pol1.gc 61) (pol1.acts 61) 0 12)) rfl (kids).length (fun i=>(⟨61,[(7,I i),(2,.rf 0 1 0 0),(1,.sl false (ins.map I))],[.row 8 [.agg (nodeL _ set (kids) mn mx md n neg)] 0]⟩:St)) (fun i=>∀ j k,j < i→(kids)[j]?=some k→compG ins k=true) ?_ ?_ (fun j k h=>by omega) _ (by first|rfl|(refine zAa (n:=2) (m:=⟨some [7,2,1],some 2,[]⟩) rfl rfl ?_ ?_ ?_<;>first|rfl|(simp[keepT,AV.underL,AV.under,MB.under,zAF,zAJ,zAK,zAE,zAG,zAH,zAI,-List.map_take,-List.map_replicate,-List.map_set,zAL,zAb];done)|(simp[keepT,AV.underL,AV.under,MB.under,zAF,zAJ,zAK,zAE,zAG,zAH,zAI,-List.map_take,-List.map_replicate,-List.map_set,zAL,zAb];omega)))
     ·intro i hi hg
      obtain⟨k,hk⟩:∃ k,(kids)[i]?=some k:=⟨_,List.getElem?_eq_getElem hi⟩
      have ihk:=fun H=>hfrz k H (List.mem_of_getElem? hk)
      have hl8:=zAM k
      have ht8:=zAT k
      cases hn:compG ins k with
      | false=>
        rw[hn]at ihk
        rw[show compL ins (kids)=false from zDC (List.mem_of_getElem? hk) hn]
        simp +contextual (disch:=omega) only[Tryz.f61,dd61,go_sem,simprocAttr,mu61,↓zAD,↓zAC,↓zAB,↓zAA,hk,ihk,hl8,ht8]
        exact fzEq rfl rfl
      | true=>
        rw[hn]at ihk
        simp +contextual (disch:=omega) only[Tryz.f61,dd61,go_sem,simprocAttr,mu61,↓zAD,↓zAC,↓zAB,↓zAA,hk,ihk,hl8,ht8]
        refine⟨fun j q hj hq=>?_,(by first|rfl|(refine zAa (n:=2) (m:=⟨some [7,2,1],some 2,[]⟩) rfl rfl ?_ ?_ ?_<;>first|rfl|(simp[keepT,AV.underL,AV.under,MB.under,zAF,zAJ,zAK,zAE,zAG,zAH,zAI,-List.map_take,-List.map_replicate,-List.map_set,zAL,zAb];done)|(simp[keepT,AV.underL,AV.under,MB.under,zAF,zAJ,zAK,zAE,zAG,zAH,zAI,-List.map_take,-List.map_replicate,-List.map_set,zAL,zAb];omega)))⟩
        rcases Nat.lt_or_ge j i with h|h
        ·exact hg j q h hq
        ·obtain rfl:j=i:=by omega
         rw[hk]at hq;obtain rfl:=Option.some.inj hq
         exact hn
     ·intro hg
      rw[show compL ins (kids)=true from zDa fun j k hj hk=>hg j k hj hk]
      simp +contextual (disch:=omega) only[Tryz.f61,dd61,go_sem,simprocAttr,mu61,↓zAD,↓zAC,↓zAB,↓zAA]
      exact fzEq rfl rfl)
end
section
attribute [local go_sem] AV.cells tySzE List.head?_drop Nat.mul_one zAP zAU zAN zAQ zAR zAX
open Go.Proofs Go.RowKit Go.IntWalk
set_option maxRecDepth 100000
set_option maxHeartbeats 8000000
def insSplit (md next other:Int):Ins:=if md=1 then⟨2,other,next,0,[]⟩ else⟨2,next,other,0,[]⟩
mutual
def codeG:Re→Nat→List Ins
 | .mk op set kids mn mx md n neg,f=>
   if op=1 then [⟨1,0,0,0,set⟩] else if op=11 then [⟨5,0,0,n,[]⟩] else if op=2 then codeCat kids f else if op=3 then codeAlt kids f
   else if op=5 then⟨4,0,0,2 * n - 2,[]⟩::(codeHd kids (f+1)++[⟨4,0,0,2 * n - 1,[]⟩])
   else if op=4 then
    let L:=lenL kids
    let copies:=(List.range mn.toNat).flatMap fun i=>codeHd kids (f+i * L)
    let p:=f+mn.toNat * L
    if mx = -1 then copies++(insSplit md ((p+1:Nat):Int) ((p+L+2:Nat):Int)::(codeHd kids (p+1)++[⟨3,(p:Int),0,0,[]⟩]))
    else copies++(List.range (mx.toNat - mn.toNat)).flatMap fun j=>insSplit md ((p+j * (L+1)+1:Nat):Int) ((f+mx.toNat * L+(mx.toNat - mn.toNat):Nat):Int)::codeHd kids (p+j * (L+1)+1)
   else []
def codeCat:List Re→Nat→List Ins
 | [],_=>[]
 | k::ks,f=>codeG k f++codeCat ks (f+lenG k)
def codeAlt:List Re→Nat→List Ins
 | [],_=>[]
 | k::ks,f=>if ks.length=0 then codeG k f else
    ⟨2,((f+1:Nat):Int),((f+lenG k+2:Nat):Int),0,[]⟩::(codeG k (f+1)++(⟨3,((f+lenL (k::ks)+2 * ks.length:Nat):Int),0,0,[]⟩::codeAlt ks (f+lenG k+2)))
def codeHd:List Re→Nat→List Ins
 | [],_=>[]
 | k::_,f=>codeG k f
end
mutual
def codable:Re→Bool
 | .mk op set kids mn mx md n neg=>(decide (op≤5) || op == 11) && codableL kids
def codableL:List Re→Bool
 | []=>true
 | k::ks=>codable k && codableL ks
end
theorem zFh:∀ l:List Re,codableL l=true↔∀ k∈l,codable k=true
 | []=>by simp[codableL]
 | k::ks=>by simp[codableL,zFh ks]
mutual
theorem zFU:∀(r:Re) (ins:List Int),compG ins r=true→codable r=true
 | .mk op set kids mn mx md n neg,ins,h=>by
   rw[compG]at h
   rw[codable,Bool.and_eq_true,Bool.or_eq_true,decide_eq_true_eq,beq_iff_eq]
   split at h
   ·cases h
   ·split at h
    ·split at h
     ·cases h
     ·exact⟨.inl (by omega),zEk kids _ h⟩
    ·split at h
     ·cases h
     ·exact⟨by omega,zEk kids _ h⟩
theorem zEk:∀(l:List Re) (ins:List Int),compL ins l=true→codableL l=true
 | [],_,_=>rfl
 | k::ks,ins,h=>by
   rw[compL,Bool.and_eq_true]at h
   rw[codableL,zFU k ins h.1,zEk ks ins h.2];rfl
end
structure GoodC (caps top:Int) (r:Re):Prop where
 whole:wholeG caps top r=true
 cod:codable r=true
theorem GoodC.kids {caps top op:Int} {set:List (Int×Int)} {kids:List Re} {mn mx md n:Int} {neg:Bool} (h:GoodC caps top (.mk op set kids mn mx md n neg)):∀ k∈kids,GoodC caps top k:=by
 intro k hk
 have h2:=h.cod
 rw[codable,Bool.and_eq_true,zFh]at h2
 exact⟨(zAv h.whole).1 k hk,h2.2 k hk⟩
theorem GoodC.op {caps top op:Int} {set:List (Int×Int)} {kids:List Re} {mn mx md n:Int} {neg:Bool} (h:GoodC caps top (.mk op set kids mn mx md n neg)):op=0∨op=1∨op=2∨op=3∨op=4∨op=5∨op=11:=by
 have h2:=h.cod
 rw[codable,Bool.and_eq_true,Bool.or_eq_true,decide_eq_true_eq,beq_iff_eq]at h2
 have h3:=(zAv h.whole).2.2.2.2
 omega
theorem zD3 {α:Type} (g:Nat→List α) (L:Nat):∀ m,(∀ i,i < m→(g i).length=L)→((List.range m).flatMap g).length=m * L
 | 0,_=>by simp
 | m+1,h=>by
   rw[List.range_succ,List.flatMap_append,List.length_append,zD3 g L m (fun i hi=>h i (by omega))]
   simp only[List.flatMap_cons,List.flatMap_nil,List.append_nil,h m (by omega),Nat.succ_mul]
mutual
theorem zBO (caps top:Int):∀(r:Re) (f:Nat),GoodC caps top r→(codeG r f).length=lenG r
 | .mk op set kids mn mx md n neg,f,hw=>by
   have hop:=hw.op
   obtain⟨_,hkd,hrp,_,ho1,ho2⟩:=zAv hw.whole
   have hwk:=hw.kids
   have hcat:=zEj caps top kids f hwk
   have halt:=zGg caps top kids f hwk
   have hhd:=fun f=>zLQ caps top kids f hwk
   rw[codeG,lenG]
   by_cases h1:op=1
   ·rw[if_pos h1,if_pos (.inl h1)];rfl
   rw[if_neg h1]
   by_cases h11:op=11
   ·rw[if_pos h11,if_pos (.inr h11)];rfl
   rw[if_neg h11,if_neg (show ¬ (op=1∨op=11) by omega)]
   by_cases h2:op=2
   ·rw[if_pos h2,if_neg (show ¬ op=3 by omega),if_neg (show ¬ op=5 by omega),if_neg (show ¬ op=4 by omega)];exact hcat
   rw[if_neg h2]
   by_cases h3:op=3
   ·subst h3
    rw[if_pos rfl,if_pos rfl]
    have:2≤kids.length:=by simpa [kidsG] using hkd
    exact halt (by omega)
   rw[if_neg h3,if_neg h3]
   have hone:op=4∨op=5→kids.length=1:=fun e=>by rcases e with rfl|rfl<;>simpa [kidsG] using hkd
   by_cases h5:op=5
   ·rw[if_pos h5,if_pos h5]
    simp[hhd _ (hone (.inr h5))]
   rw[if_neg h5,if_neg h5]
   by_cases h4:op=4
   ·rw[if_pos h4,if_pos h4]
    have hh:=fun f=>hhd f (hone (.inl h4))
    have hr:=hrp h4
    simp only[repG,Bool.and_eq_true,Bool.or_eq_true,decide_eq_true_eq,beq_iff_eq]at hr
    by_cases hm:mx = -1
    ·simp only[if_pos hm,List.length_append,List.length_cons,List.length_nil]
     rw[zD3 _ (lenL kids) _ (fun i _=>hh _),hh,Nat.succ_mul]
     omega
    ·simp only[if_neg hm,List.length_append]
     rw[zD3 _ (lenL kids) _ (fun i _=>hh _),zD3 _ (lenL kids+1) _ (fun i _=>by simp[hh])]
     obtain⟨e,he⟩:∃ e,mx.toNat=mn.toNat+e:=⟨mx.toNat - mn.toNat,by omega⟩
     rw[he,Nat.add_sub_cancel_left,Nat.add_mul,Nat.mul_add]
     omega
   rw[if_neg h4,if_neg h4]
   have hk0:kids=[]:=by
    have:op=0:=by omega
    subst this
    exact List.length_eq_zero_iff.1 (by simpa [kidsG] using hkd)
   rw[hk0];rfl
theorem zEj (caps top:Int):∀(l:List Re) (f:Nat),(∀ k∈l,GoodC caps top k)→(codeCat l f).length=lenL l
 | [],f,_=>rfl
 | k::ks,f,h=>by
   rw[codeCat,lenL,List.length_append,zBO caps top k f (h k (List.mem_cons_self ..)),zEj caps top ks _ (fun k hk=>h k (List.mem_cons_of_mem _ hk))]
theorem zGg (caps top:Int):∀(l:List Re) (f:Nat),(∀ k∈l,GoodC caps top k)→1≤l.length→(codeAlt l f).length=lenL l+2 * (l.length - 1)
 | [],f,_,h=>by simp at h
 | k::ks,f,h,_=>by
   have hk:=fun f=>zBO caps top k f (h k (List.mem_cons_self ..))
   rw[codeAlt]
   split
   ·rename_i h0
    have:ks=[]:=List.length_eq_zero_iff.1 h0
    subst this
    simp[hk,lenL]
   ·rename_i h0
    have:=zGg caps top ks (f+lenG k+2) (fun k hk=>h k (List.mem_cons_of_mem _ hk)) (by omega)
    simp only[List.length_cons,List.length_append,hk,this,lenL]
    omega
theorem zLQ (caps top:Int):∀(l:List Re) (f:Nat),(∀ k∈l,GoodC caps top k)→l.length=1→(codeHd l f).length=lenL l
 | [],f,_,h=>by simp at h
 | k::ks,f,h,hl=>by
   have:ks=[]:=List.length_eq_zero_iff.1 (by simpa using hl)
   subst this
   rw[codeHd,zBO caps top k f (h k (List.mem_cons_self ..))]
   simp[lenL]
end
end
mutual
def noPoss:Re→Bool
 | .mk op set kids mn mx md n neg=>decide (md≠2) && noPossL kids
def noPossL:List Re→Bool
 | []=>true
 | k::ks=>noPoss k && noPossL ks
end
theorem zGF:∀ l:List Re,noPossL l=true↔∀ k∈l,noPoss k=true
 | []=>by simp[noPossL]
 | k::ks=>by simp[noPossL,zGF ks]
structure RGood (caps top:Int) (r:Re):Prop where
 good:GoodC caps top r
 np:noPoss r=true
 sz:r.size≤256
theorem Re.sizeL_mem:∀ {l:List Re} {k:Re},k∈l→k.size≤Re.sizeL l
 | x::l,k,h=>by
   rcases List.mem_cons.1 h with e|e
   ·rw[e];simp[Re.sizeL]
   ·have:=Re.sizeL_mem e
    simp[Re.sizeL];omega
theorem Re.sizeL_len:∀ l:List Re,l.length≤Re.sizeL l
 | []=>Nat.le_refl _
 | k::ks=>by
   have:=Re.size_pos k
   have:=Re.sizeL_len ks
   simp[Re.sizeL];omega
theorem RGood.kids {caps top:Int} {r:Re} (h:RGood caps top r):∀ k∈r.kids,RGood caps top k:=by
 obtain⟨op,set,kids,mn,mx,md,n,neg⟩:=r
 intro k hk
 have h1:=h.np
 have h2:=h.sz
 rw[noPoss,Bool.and_eq_true,zGF]at h1
 have:=Re.sizeL_mem hk
 simp only[Re.size,Re.kids]at h2 this
 exact⟨h.good.kids k hk,h1.2 k hk,by omega⟩
theorem RGood.len {caps top:Int} {r:Re} (h:RGood caps top r):r.kids.length≤255:=by
 obtain⟨op,set,kids,mn,mx,md,n,neg⟩:=r
 have h2:=h.sz
 have:=Re.sizeL_len kids
 simp only[Re.size,Re.kids]at h2 ⊢
 omega
theorem RGood.md {caps top:Int} {r:Re} (h:RGood caps top r):r.md≠2:=by
 obtain⟨op,set,kids,mn,mx,md,n,neg⟩:=r
 have h1:=h.np
 rw[noPoss,Bool.and_eq_true,decide_eq_true_eq]at h1
 exact h1.1
def GG (caps top:Int) (L:Int) (steps:Int):Goal→Prop
 | .nil=>True
 | .mk kind re k fr next=>RGood caps top re∧(kind=0∨(kind=1∧re.op=4∧0≤k∧k≤steps)∨(kind=2∧re.op=4∧0≤k∧k < steps)∨(kind=3∧re.op=5))∧(0≤fr∧fr≤L)∧GG caps top L steps next
theorem GG.mono {caps top L a b:Int} (hab:a≤b):∀ {g:Goal},GG caps top L a g→GG caps top L b g
 | .nil,_=>trivial
 | .mk kind re k fr next,h=>⟨h.1,by rcases h.2.1 with h|h|h|h<;>omega,h.2.2.1,h.2.2.2.mono hab⟩
theorem GG.cat {caps top L a:Int} (hL:0≤L) {next:Goal} (hn:GG caps top L a next):∀ {l:List Re},(∀ k∈l,RGood caps top k)→GG caps top L a (catG next l)
 | [],_=>hn
 | k::ks,h=>⟨h k (by simp),.inl rfl,⟨Int.le_refl _,hL⟩,GG.cat hL hn (fun q hq=>h q (by simp[hq]))⟩
structure SPre (fuel:Int) (s:SS):Prop where
 ne:s.empty=false
 st:0≤s.steps∧s.steps≤fuel
 cl:s.caps.length=s.ends.length
 el:(s.ends.length:Int)≤256 * s.steps
structure SPost (fuel:Int) (s:SS) (b:Bool) (s':SS):Prop where
 st:s.steps≤s'.steps
 eb:b=s'.empty
 fu:b=false→s'.steps≤fuel
 cl:s'.caps.length=s'.ends.length
 el:(s'.ends.length:Int)≤s.ends.length+1+256 * (s'.steps - s.steps)
def RunP (caps top:Int) (t:List Int) (fuel:Int) (R:RunT):Prop:=
 ∀(g:Goal) (i:Int) (c:Caps) (s:SS) (b:Bool) (s':SS),GG caps top t.length s.steps g→0≤i→i≤t.length→c.length≤1000→SPre fuel s→R g i c s=some (b,s')→SPost fuel s b s'
variable {caps top:Int} {t:List Int} {fuel:Int}
theorem SPost.none {s:SS} (h:SPre fuel s):SPost fuel s false s:=⟨Int.le_refl _,h.ne.symm,fun _=>h.st.2,h.cl,by omega⟩
theorem zCm {s:SS} (h:SPre fuel s) (he:(stepSz fuel s).empty=false):SPre fuel (stepSz fuel s)∧((stepSz fuel s).ends.length:Int)≤256 * (stepSz fuel s).steps - 256:=by
 have h1:=h.st
 have h2:=h.el
 simp only[stepSz,h.ne,Bool.false_or,decide_eq_false_iff_not]at he
 exact⟨⟨by simp[stepSz,h.ne];omega,⟨by simp only[stepSz];omega,by simp only[stepSz];omega⟩,h.cl,by simp only[stepSz];omega⟩,by simp only[stepSz];omega⟩
theorem zIi {s:SS} (h:SPre fuel s) (he:(stepSz fuel s).empty=true):SPost fuel s true (stepSz fuel s):=
 ⟨by simp only[stepSz];omega,he.symm,fun e=>(by cases e),h.cl,by simp only[stepSz];omega⟩
theorem SPost.after {s s1 s':SS} {b:Bool} (h1:s1=stepSz fuel s) (h:SPost fuel s1 b s'):SPost fuel s b s':=by
 subst h1
 have a:=h.st
 have e:=h.el
 simp only[stepSz]at a e
 exact⟨by omega,h.eb,h.fu,h.cl,by omega⟩
theorem SPost.pre {s s2:SS} (hp:SPre fuel s) (hx:(s.ends.length:Int)≤256 * s.steps - 256) (h:SPost fuel s false s2):SPre fuel s2:=by
 have a:=h.st
 have e:=h.el
 have f:=h.fu rfl
 have p:=hp.st
 exact⟨h.eb.symm,⟨by omega,f⟩,h.cl,by omega⟩
theorem SPost.trans {s s2 s':SS} {b:Bool} (h1:SPost fuel s false s2) (h2:SPost fuel s2 b s'):s.steps≤s'.steps∧b=s'.empty∧(b=false→s'.steps≤fuel)∧s'.caps.length=s'.ends.length∧(s'.ends.length:Int)≤s.ends.length+2+256 * (s'.steps - s.steps):=by
 have a:=h1.st
 have b':=h2.st
 have c:=h1.el
 have d:=h2.el
 exact⟨by omega,h2.eb,h2.fu,h2.cl,by omega⟩
theorem zJs {re:Re} (h:RGood caps top re) (ho:re.op=4):∃ kid,re.kids=[kid]∧RGood caps top kid:=by
 obtain⟨op,set,kids,mn,mx,md,n,neg⟩:=re
 simp only[Re.op]at ho
 subst ho
 have hk:=(zAv h.good.whole).2.1
 obtain⟨k,rfl⟩:∃ k,kids=[k]:=List.length_eq_one_iff.1 (by simpa [kidsG] using hk)
 exact⟨k,rfl,h.kids k (by simp[Re.kids])⟩
theorem zKK {re:Re} (h:RGood caps top re) (ho:re.op=5):∃ kid,re.kids=[kid]∧RGood caps top kid:=by
 obtain⟨op,set,kids,mn,mx,md,n,neg⟩:=re
 simp only[Re.op]at ho
 subst ho
 have hk:=(zAv h.good.whole).2.1
 obtain⟨k,rfl⟩:∃ k,kids=[k]:=List.length_eq_one_iff.1 (by simpa [kidsG] using hk)
 exact⟨k,rfl,h.kids k (by simp[Re.kids])⟩
theorem zGE {re kid:Re} {next:Goal} {k i L steps:Int} (h:RGood caps top re) (hk:RGood caps top kid) (ho:re.op=4) (h0:0≤k∧k < steps) (hi:0≤i∧i≤L) (hn:GG caps top L steps next) :
 GG caps top L steps (.mk 0 kid 0 0 (.mk 2 re k i next)):=⟨hk,.inl rfl,⟨Int.le_refl _,by omega⟩,h,.inr (.inr (.inl ⟨rfl,ho,h0.1,h0.2⟩)),hi,hn⟩
theorem zKe {R:RunT} (hR:RunP caps top t fuel R) {re:Re} {k i:Int} {next:Goal} {c:Caps} {s s':SS} {b:Bool} (h:RGood caps top re) (ho:re.op=4) (hk:0≤k∧k≤s.steps) (hi:0≤i∧i≤t.length)
  (hn:GG caps top t.length s.steps next) (hc:c.length≤1000) (hs:SPre fuel s) (he:repR fuel R re k next i c s=some (b,s')):SPost fuel s b s':=by
 unfold repR at he
 simp only at he
 by_cases h1:(stepSz fuel s).empty=true
 ·rw[if_pos h1]at he
  simp only[Option.some.injEq,Prod.mk.injEq]at he
  obtain⟨rfl,rfl⟩:=he
  exact zIi hs h1
 ·rw[if_neg h1]at he
  have h1':(stepSz fuel s).empty=false:=by simpa using h1
  obtain⟨p1,p2⟩:=zCm hs h1'
  obtain⟨kid,hkid,hgk⟩:=zJs h ho
  rw[hkid]at he
  simp only at he
  have hst:(stepSz fuel s).steps=s.steps+1:=rfl
  have hen:(stepSz fuel s).ends.length=s.ends.length:=rfl
  have hn1:=hn.mono (show s.steps≤(stepSz fuel s).steps by omega)
  have hon:=zGE (next:=next) (i:=i) (L:=t.length) (steps:=(stepSz fuel s).steps) h hgk ho (k:=k) ⟨hk.1,by omega⟩ hi hn1
  have A:∀ b s',R (.mk 0 kid 0 0 (.mk 2 re k i next)) i c (stepSz fuel s)=some (b,s')→SPost fuel (stepSz fuel s) b s':=fun b s' e=>hR _ _ _ _ _ _ hon hi.1 hi.2 hc p1 e
  have B:∀ b s',R next i c (stepSz fuel s)=some (b,s')→SPost fuel (stepSz fuel s) b s':=fun b s' e=>hR _ _ _ _ _ _ hn1 hi.1 hi.2 hc p1 e
  have two:∀(g:Goal) (s2:SS) (b:Bool) (s':SS),GG caps top t.length (stepSz fuel s).steps g→SPost fuel (stepSz fuel s) false s2→R g i c s2=some (b,s')→SPost fuel s b s':=by
   intro g s2 b s' hg q e
   have p3:=q.pre p1 p2
   have q2:=hR _ _ _ _ _ _ (hg.mono q.st) hi.1 hi.2 hc p3 e
   obtain⟨a1,a2,a3,a4,a5⟩:=q.trans q2
   exact⟨by omega,a2,a3,a4,by omega⟩
  split at he
  ·exact(A _ _ he).after rfl
  ·split at he
   ·unfold orR at he
    split at he
    ·cases he
    ·rename_i s2 e2
     simp only[Option.some.injEq,Prod.mk.injEq]at he
     obtain⟨rfl,rfl⟩:=he
     exact(B _ _ e2).after rfl
    ·rename_i s2 e2
     split at he
     ·exact two _ _ _ _ hon (B _ _ e2) he
     ·simp only[Option.some.injEq,Prod.mk.injEq]at he
      obtain⟨rfl,rfl⟩:=he
      exact(B _ _ e2).after rfl
   ·unfold orR at he
    split at he
    ·cases he
    ·rename_i s2 e2
     simp only[Option.some.injEq,Prod.mk.injEq]at he
     obtain⟨rfl,rfl⟩:=he
     split at e2
     ·exact(A _ _ e2).after rfl
     ·cases e2
    ·rename_i s2 e2
     split at e2
     ·exact two _ _ _ _ hn1 (A _ _ e2) he
     ·simp only[Option.some.injEq,Prod.mk.injEq,true_and]at e2
      subst e2
      exact(B _ _ he).after rfl
theorem zKz {R:RunT} (hR:RunP caps top t fuel R) {next:Goal} {i:Int} {c:Caps} (hi:0≤i∧i≤t.length) (hc:c.length≤1000) :
  ∀(l:List Re) (s s':SS) (b:Bool),(∀ k∈l,RGood caps top k)→GG caps top t.length s.steps next→SPre fuel s→(s.ends.length:Int)+l.length≤256 * s.steps→altR R next i c l s=some (b,s') →
   s.steps≤s'.steps∧b=s'.empty∧(b=false→s'.steps≤fuel)∧s'.caps.length=s'.ends.length∧(s'.ends.length:Int)≤s.ends.length+l.length+256 * (s'.steps - s.steps)
 | [],s,s',b,_,_,hs,_,he=>by
   simp only[altR,Option.some.injEq,Prod.mk.injEq]at he
   obtain⟨rfl,rfl⟩:=he
   exact⟨Int.le_refl _,hs.ne.symm,fun _=>hs.st.2,hs.cl,by simp⟩
 | k::ks,s,s',b,hg,hn,hs,hx,he=>by
   simp only[altR]at he
   unfold orR at he
   have A:∀ b s',R (.mk 0 k 0 0 next) i c s=some (b,s')→SPost fuel s b s':=fun b s' e=>
    hR (.mk 0 k 0 0 next) _ _ _ _ _ ⟨hg k (by simp),.inl rfl,⟨Int.le_refl _,by omega⟩,hn⟩ hi.1 hi.2 hc hs e
   simp only[List.length_cons]at hx ⊢
   split at he
   ·cases he
   ·rename_i s2 e2
    simp only[Option.some.injEq,Prod.mk.injEq]at he
    obtain⟨rfl,rfl⟩:=he
    have q:=A _ _ e2
    have a:=q.el
    exact⟨q.st,q.eb,q.fu,q.cl,by omega⟩
   ·rename_i s2 e2
    have q:=A _ _ e2
    have a:=q.el
    have b1:=q.st
    have f:=q.fu rfl
    have p0:=hs.st
    obtain⟨r1,r2,r3,r4,r5⟩:=zKz hR hi hc ks s2 s' b (fun x hx=>hg x (by simp[hx])) (hn.mono b1) ⟨q.eb.symm,⟨by omega,f⟩,q.cl,by omega⟩ (by omega) he
    exact⟨by omega,r2,r3,r4,by omega⟩
theorem zL7 {R:RunT} (hR:RunP caps top t fuel R) {re:Re} {i:Int} {next:Goal} {c:Caps} {s s':SS} {b:Bool} (h:RGood caps top re) (hi:0≤i∧i≤t.length)
  (hn:GG caps top t.length s.steps next) (hc:c.length≤1000) (hs:SPre fuel s) (he:nodeR t fuel R re next i c s=some (b,s')):SPost fuel s b s':=by
 unfold nodeR at he
 split at he
 ·rename_i ho
  exact zKe hR h ho ⟨Int.le_refl _,hs.st.1⟩ hi hn hc hs he
 ·simp only at he
  by_cases h1:(stepSz fuel s).empty=true
  ·rw[if_pos h1]at he
   simp only[Option.some.injEq,Prod.mk.injEq]at he
   obtain⟨rfl,rfl⟩:=he
   exact zIi hs h1
  ·rw[if_neg h1]at he
   have h1':(stepSz fuel s).empty=false:=by simpa using h1
   obtain⟨p1,p2⟩:=zCm hs h1'
   have hst:(stepSz fuel s).steps=s.steps+1:=rfl
   have hn1:=hn.mono (show s.steps≤(stepSz fuel s).steps by omega)
   have B:∀ b s',R next i c (stepSz fuel s)=some (b,s')→SPost fuel (stepSz fuel s) b s':=fun b s' e=>hR _ _ _ _ _ _ hn1 hi.1 hi.2 hc p1 e
   have Z:∀ b s',some (false,stepSz fuel s)=some (b,s')→SPost fuel (stepSz fuel s) b s':=fun b s' e=>by
    simp only[Option.some.injEq,Prod.mk.injEq]at e
    obtain⟨rfl,rfl⟩:=e
    exact SPost.none p1
   split at he
   ·split at he
    ·rename_i x hx
     have hlt:=(List.getElem?_eq_some_iff.1 hx).1
     split at he
     ·exact(hR _ _ _ _ _ _ hn1 (by omega) (by omega) hc p1 he).after rfl
     ·exact(Z _ _ he).after rfl
    ·exact(Z _ _ he).after rfl
   ·split at he
    ·exact(hR _ _ _ _ _ _ (GG.cat (by omega) hn1 h.kids) hi.1 hi.2 hc p1 he).after rfl
    ·split at he
     ·have hl:=h.len
      obtain⟨r1,r2,r3,r4,r5⟩:=zKz hR hi hc _ _ _ _ h.kids hn1 p1 (by omega) he
      have hen:(stepSz fuel s).ends.length=s.ends.length:=rfl
      exact⟨by omega,r2,r3,r4,by omega⟩
     ·split at he
      ·rename_i ho
       obtain⟨kid,hkid,hgk⟩:=zKK h ho
       rw[hkid]at he
       simp only at he
       exact(hR (.mk 0 kid 0 0 (.mk 3 re 0 i next)) _ _ _ _ _ ⟨hgk,.inl rfl,⟨Int.le_refl _,by omega⟩,h,.inr (.inr (.inr ⟨rfl,ho⟩)),hi,hn1⟩ hi.1 hi.2 hc p1 he).after rfl
      ·split at he
       ·split at he
        ·exact(B _ _ he).after rfl
        ·exact(Z _ _ he).after rfl
       ·exact(B _ _ he).after rfl
theorem zHW (c:Caps) (n a b:Int):(withI c n a b).length=c.length:=by
 unfold withI;split<;>simp
theorem zF9 (caps top:Int) (t:List Int) (fuel:Int):∀ d,RunP caps top t fuel (runG t fuel d)
 | 0=>fun g i c s b s' _ _ _ _ _ e=>by cases g<;>simp[runG]at e
 | d+1=>fun g i c s b s' hg h0 hL hc hs e=>by
   have ih:=zF9 caps top t fuel d
   cases g with
   | nil=>
     simp only[runG,Option.some.injEq,Prod.mk.injEq]at e
     obtain⟨rfl,rfl⟩:=e
     exact⟨Int.le_refl _,hs.ne.symm,fun _=>hs.st.2,by simp[hs.cl],by simp⟩
   | mk kind re k fr next=>
     obtain⟨g1,g2,g3,g4⟩:=hg
     simp only[runG]at e
     rcases g2 with rfl|⟨rfl,g2⟩|⟨rfl,g2⟩|⟨rfl,g2⟩
     ·rw[if_neg (by omega),if_neg (by omega),if_neg (by omega)]at e
      exact zL7 ih g1 ⟨h0,hL⟩ g4 hc hs e
     ·rw[if_pos rfl]at e
      exact zKe ih g1 g2.1 g2.2 ⟨h0,hL⟩ g4 hc hs e
     ·rw[if_neg (by omega),if_pos rfl]at e
      split at e
      ·simp only[Option.some.injEq,Prod.mk.injEq]at e
       obtain⟨rfl,rfl⟩:=e
       exact SPost.none hs
      ·exact ih (.mk 1 re (k+1) 0 next) _ _ _ _ _ ⟨g1,.inr (.inl ⟨rfl,g2.1,by omega,by omega⟩),⟨Int.le_refl _,by omega⟩,g4⟩ h0 hL hc hs e
     ·rw[if_neg (by omega),if_neg (by omega),if_pos rfl]at e
      exact ih _ _ _ _ _ _ g4 h0 hL (by rw[zHW];exact hc) hs e
end Go.Ev
namespace Go.Ev
attribute [local go_sem] evAppend evBin evBuild splice List.length_append List.map_append
section
attribute [local go_sem] AV.cells tySzE List.head?_drop Nat.mul_one zAP zAU zAN zAQ zAR zAX
open Go.Proofs Go.RowKit Go.IntWalk
set_option maxRecDepth 100000
set_option maxHeartbeats 8000000
theorem zHw {j:List AV→List MB→Option (List AV×List MB)} (l:List Ins):KeepL j (l.map insAV) (l.map insAV):=KeepL.plain (zAH l)
theorem zNx {f id n:Nat} {els:List AV} {c:List Ins} {H:List MB} (hk:pol1.keep f=false) (ho:pol1.own f=true) (hr:getRow H id=some (5,els,0)) (hn:c.length=n) (hK:∀ j,KeepL j els (c.map insAV)) :
  retPol pol1 f [] (.ms id 5 n 0 n) H=some (.ms 0 5 n 0 n,[.row 5 (c.map insAV) 0]):=by
 have hl:=(hK (fun _ _=>none)).len
 rw[List.length_map]at hl
 exact zFI (els:=els) hk ho hr (by omega) ((hK _).fz H) hr (zAH c) (by simp[hn])
theorem zNy {f id n:Nat} {els xs:List AV} {c:List Ins} {H:List MB} (hk:pol1.keep f=false) (ho:pol1.own f=true) (hr:getRow H id=some (5,els,0)) (hn:c.length=n) (hx:xs=c.map insAV) (hK:∀ j,KeepL j els (c.map insAV)) :
 retPol pol1 f [] (.ms id 5 n 0 n) H=some (.ms 0 5 n 0 n,[.row 5 xs 0]):=hx ▸ zNx hk ho hr hn hK
def copiesG (k:Re) (f i:Nat):List Ins:=(List.range i).flatMap fun i=>codeG k (f+i * lenG k)
theorem zKF (k:Re) (f i:Nat):copiesG k f (i+1)=copiesG k f i++codeG k (f+i * lenG k):=by
 simp[copiesG,List.range_succ,List.flatMap_append]
theorem zLP {caps top:Int} {k:Re} (h:GoodC caps top k) (f i:Nat):(copiesG k f i).length=i * lenG k:=zD3 _ _ _ (fun i _=>zBO caps top k _ h)
def optsG (md:Int) (k:Re) (p e i:Nat):List Ins:=(List.range i).flatMap fun j=>insSplit md ((p+j * (lenG k+1)+1:Nat):Int) (e:Nat)::codeG k (p+j * (lenG k+1)+1)
def restG (md:Int) (k:Re) (f m e i:Nat):List Ins:=copiesG k f m++optsG md k (f+m * lenG k) e i
end
section
attribute [local go_sem] AV.cells tySzE List.head?_drop Nat.mul_one zAP zAU zAN zAQ zAR zAX
open Go.Proofs Go.RowKit Go.IntWalk
set_option maxRecDepth 100000
set_option maxHeartbeats 8000000
theorem zMd {P:Program} {pol:Pol} {f:Nat} {args l:List AV} {H H1:List MB} (hp:pol.pure f=true) (h:frzArgs pol f 0 args H=some (l,H1)) (ha:AV.plainL l=true) :
  call P pol f args H=call P pol f l H1:=by
 have hf:∀(l:List AV) (i:Nat),AV.plainL l=true→frzArgs pol f i l H1=some (l,H1):=by
  intro l
  induction l with
  | nil=>intro i _;rfl
  | cons x l ih=>
    intro i h
    simp only[AV.plainL,Bool.and_eq_true]at h
    simp only[frzArgs,zAf H1 h.1,ih (i+1) h.2]
    split<;>simp_all
 rw[zA5,zA5]
 unfold evStep
 simp only[hp,if_true,h,hf l 0 ha]
theorem zEW:∀(a b:List Re) (f:Nat),codeCat (a++b) f=codeCat a f++codeCat b (f+lenL a)
 | [],b,f=>by simp[codeCat,lenL]
 | k::ks,b,f=>by simp[codeCat,lenL,zEW ks b,Nat.add_assoc]
theorem zJW {l:List Re} {i:Nat} {k:Re} (h:l[i]?=some k) (f:Nat):codeCat (l.take (i+1)) f=codeCat (l.take i) f++codeG k (f+lenL (l.take i)):=by
 rw[List.take_add_one,h,zEW];simp[codeCat]
theorem zFd:∀(l:List Re) (i:Nat),lenL (l.take i)≤lenL l:=fun l i=>by
 have:=zEe (l.take i) (l.drop i)
 rw[List.take_append_drop]at this
 omega
end
section
attribute [local go_sem] AV.cells
open Go.Proofs Go.RowKit Go.IntWalk
set_option maxRecDepth 100000
set_option maxHeartbeats 4000000
theorem zHF {j:List AV→List MB→Option (List AV×List MB)} (ys:List AV):∀(xs:List AV) (H:List MB),fzL j (xs++ys) H=(match fzL j xs H with
  | some (a,H1)=>(match fzL j ys H1 with
    | some (b,H2)=>some (a++b,H2)
    | none=>none)
  | none=>none)
 | [],H=>by
   simp only[List.nil_append,fzL]
   cases fzL j ys H with
   | none=>rfl
   | some q=>rfl
 | x::xs,H=>by
   simp only[List.cons_append,fzL]
   cases fzA j x H with
   | none=>rfl
   | some q=>
     simp only[zHF ys xs q.2]
     cases fzL j xs q.2 with
     | none=>rfl
     | some q2=>
       simp only[]
       cases fzL j ys q2.2 with
       | none=>rfl
       | some q3=>rfl
end
section
attribute [local go_sem] tySzE List.head?_drop Nat.mul_one zAP zAU zAN zAQ zAR zAX
open Go.Proofs Go.RowKit Go.IntWalk
set_option maxRecDepth 100000
set_option maxHeartbeats 8000000
def Run138 (caps top:Int) (t:List Int) (fuel:Int) (R:RunT):Prop:=
 ∀(A K:List MB) (g:Goal) (i:Int) (c:Caps) (s:SS) (b:Bool) (s':SS),GG caps top t.length s.steps g→0≤i→i≤t.length→c.length≤1000→SPre fuel s→R g i c s=some (b,s') →
  call Tryz.prog pol1 118 [.rf A.length 1 0 0,goalA g,I i,capA c] (srH A t fuel s s.ends.length K)=some (.bool b,srH A t fuel s' s'.ends.length K)
theorem zGi {P:Program} {pol:Pol} {f:Nat} {args l:List AV} {H H1:List MB} (hp:pol.pure f=false) (he:pol.ext f=none) (h:frzArgs pol f 0 args H=some (l,H1)) (h2:frzArgs pol f 0 l H1=some (l,H1)) (hy:f≠yldF:=by decide) :
  call P pol f args H=call P pol f l H1:=by
 rw[zA5,zA5]
 unfold evStep
 simp only[hp,Bool.false_eq_true,if_false,if_neg hy]
 unfold evBody
 simp only[he,h,h2]
theorem zKw (A K:List MB) (t:List Int) (fuel:Int) (s:SS) (e:Nat) (cells:List AV) (i:Int) (c:Caps) (hp:AV.plainL cells=true) :
  call Tryz.prog pol1 118 [.rf A.length 1 0 0,.rf (A.length+(K.length+1+1+1)) 1 0 0,I i,capA c] (srH A t fuel s e (K++[.row 12 [.agg cells] 0])) =
   call Tryz.prog pol1 118 [.rf A.length 1 0 0,.pt cells,I i,capA c] (srH A t fuel s e (K++[.row 12 [.agg cells] 1])):=by
 refine zGi rfl rfl ?_ (zAO _ _ _ (by simp[mixOk,show pol1.byref 118 0=true from rfl,AV.plain,hp,zAG]))
 have h0:pol1.byref 118 0=true:=rfl
 have h1:pol1.byref 118 1=false:=rfl
 have h2:pol1.byref 118 2=false:=rfl
 have h3:pol1.byref 118 3=false:=rfl
 have hget:∀ v,(srH A t fuel s e (K++[v]))[A.length+(K.length+1+1+1)]?=some v:=fun v=>by
  rw[List.getElem?_append_right (by omega)];simp
 have hset:∀ u v,(srH A t fuel s e (K++[u])).set (A.length+(K.length+1+1+1)) v=srH A t fuel s e (K++[v]):=fun u v=>by
  rw[List.set_append_right _ _ (by omega)];simp
 have hz:=zJ4 (id:=A.length+(K.length+1+1+1)) (tot:=1) (i:=0) (j:=0) (k:=12) (z:=0) (H:=srH A t fuel s e (K++[.row 12 [.agg cells] 0])) (els:=[.agg cells]) (x:=.agg cells) (by unfold getRow;rw[hget]) rfl rfl hp
 have hm:mark (srH A t fuel s e (K++[.row 12 [.agg cells] 0])) (A.length+(K.length+1+1+1)) (0+1)=srH A t fuel s e (K++[.row 12 [.agg cells] 1]):=by
  unfold mark getRow
  simp only[hget,hset]
  rfl
 rw[hm]at hz
 have hc:∀ H,fz (capA c) H=some (capA c,H):=fun H=>zAf H (by simp[AV.plain,zAG])
 have hi:∀ H,fz (I i) H=some (I i,H):=fun H=>rfl
 simp only[frzArgs,h0,h1,h2,h3,Bool.false_eq_true,if_false,if_true,hz,hc,hi]
 rfl
theorem zBD {A K L:List MB} {t:List Int} {fuel:Int} {s:SS} {e:Nat}:srH A t fuel s e K++L=srH A t fuel s e (K++L):=by simp
theorem zA8 {A K L:List MB} {t:List Int} {fuel:Int} {s:SS} {e:Nat} {v:MB}:(srH A t fuel s e (K++v::L))[A.length+(K.length+1+1+1)]?=some v:=by
 rw[List.getElem?_append_right (by omega)];simp
theorem zBH {A K L:List MB} {t:List Int} {fuel:Int} {s:SS} {e:Nat} {u v:MB}:(srH A t fuel s e (K++u::L)).set (A.length+(K.length+1+1+1)) v=srH A t fuel s e (K++v::L):=by
 rw[List.set_append_right _ _ (by omega)];simp
theorem zAj {A K L:List MB} {t:List Int} {fuel:Int} {s:SS} {e:Nat} {u v:MB}:(srH A t fuel s e (K++u::v::L))[A.length+(K.length+1+1+1+1)]?=some v:=by
 rw[List.getElem?_append_right (by omega)]
 rw[show A.length+(K.length+1+1+1+1) - A.length=(K.length+1)+1+1+1 by omega]
 simp only[List.getElem?_cons_succ]
 rw[List.getElem?_append_right (by omega)];simp
theorem zAl {A K L:List MB} {t:List Int} {fuel:Int} {s:SS} {e:Nat} {u v w:MB}:(srH A t fuel s e (K++u::v::L)).set (A.length+(K.length+1+1+1+1)) w=srH A t fuel s e (K++u::w::L):=by
 rw[List.set_append_right _ _ (by omega)]
 rw[show A.length+(K.length+1+1+1+1) - A.length=(K.length+1)+1+1+1 by omega]
 simp only[List.set_cons_succ]
 rw[List.set_append_right _ _ (by omega)];simp
theorem zAu {A K L L':List MB} {t:List Int} {fuel:Int} {s:SS} {e:Nat} {u:MB}:sameAt (A.length+(K.length+1+1+1)) (srH A t fuel s e (K++u::L)) (srH A t fuel s e (K++u::L'))=true:=by
 unfold sameAt
 rw[zA8,zA8]
 exact MB.beq_refl u
theorem zNc {H H1 H2:List MB} {a b:Nat} {pre ca:List AV} (hb:getRow H b=some (12,[.agg (pre++[.rf a 1 0 0])],0)) (hm:mark H b 1=H1) (ha:getRow H1 a=some (12,[.agg ca],0)) (hm2:mark H1 a 1=H2)
  (hp:AV.plainL pre=true) (hc:AV.plainL ca=true):fz (.rf b 1 0 0) H=some (.pt (pre++[.pt ca]),H2):=by
 have hin:fzA (fzJ 5) (.rf a 1 0 0) H1=some (.pt ca,H2):=by
  simp only[fzA,ha,List.length_cons,List.length_nil,Nat.zero_add,if_true,List.getElem?_cons_zero,AV.cells,List.drop_zero,hm2,fzJ,zBE _ _ _ hc]
 have hl:fzL (fzJ 5) (pre++[.rf a 1 0 0]) H1=some (pre++[.pt ca],H2):=by
  rw[zHF,zBE _ _ _ hp]
  simp only[fzL,hin]
 simp only[fz,fzA,hb,List.length_cons,List.length_nil,Nat.zero_add,if_true,List.getElem?_cons_zero,AV.cells,List.drop_zero,hm]
 show (match fzL (fzJ 5) (pre++[AV.rf a 1 0 0]) H1 with|some (ys,H')=>some (AV.pt ys,H')|none=>none)=_
 rw[hl]
theorem zHb {A K L:List MB} {t:List Int} {fuel:Int} {s:SS} {e:Nat} {u v w:MB}:(srH A t fuel s e (K++u::v::w::L))[A.length+(K.length+2+1+1+1)]?=some w:=by
 rw[List.getElem?_append_right (by omega)]
 rw[show A.length+(K.length+2+1+1+1) - A.length=(K.length+2)+1+1+1 by omega]
 simp only[List.getElem?_cons_succ]
 rw[List.getElem?_append_right (by omega)];simp
theorem zLj {A K L:List MB} {t:List Int} {fuel:Int} {s:SS} {e:Nat} {u v w x:MB}:(srH A t fuel s e (K++u::v::w::L)).set (A.length+(K.length+2+1+1+1)) x=srH A t fuel s e (K++u::v::x::L):=by
 rw[List.set_append_right _ _ (by omega)]
 rw[show A.length+(K.length+2+1+1+1) - A.length=(K.length+2)+1+1+1 by omega]
 simp only[List.set_cons_succ]
 rw[List.set_append_right _ _ (by omega)];simp
theorem zNv {fuel:Int} {R:RunT} {op:Int} {set:List (Int×Int)} {kid:Re} {mn mx md n:Int} {neg:Bool} {k:Int} {next:Goal} {i:Int} {c:Caps} {s:SS} :
 repR fuel R (.mk op set [kid] mn mx md n neg) k next i c s =
  if(stepSz fuel s).empty=true then some (true,stepSz fuel s)
  else if k < mn then R (.mk 0 kid 0 0 (.mk 2 (.mk op set [kid] mn mx md n neg) k i next)) i c (stepSz fuel s)
  else if md=1 then orR (R next i c (stepSz fuel s)) fun s2=>if(decide (mx = -1) || decide (k < mx))=true then R (.mk 0 kid 0 0 (.mk 2 (.mk op set [kid] mn mx md n neg) k i next)) i c s2 else some (false,s2)
  else orR (if(decide (mx = -1) || decide (k < mx))=true then R (.mk 0 kid 0 0 (.mk 2 (.mk op set [kid] mn mx md n neg) k i next)) i c (stepSz fuel s) else some (false,stepSz fuel s)) fun s2=>R next i c s2:=rfl
theorem f152 {caps top:Int} {t:List Int} {fuel:Int} (ht:t.length≤65536) (hf:0≤fuel∧fuel≤1000000) {R:RunT} (hP:RunP caps top t fuel R) (hR:Run138 caps top t fuel R)
  (A K:List MB) (re:Re) (k fr i:Int) (next:Goal) (c:Caps) (s:SS) (b:Bool) (s':SS) (h:RGood caps top re) (ho:re.op=4) (hk:0≤k∧k≤s.steps) (hi:0≤i∧i≤t.length)
  (hn:GG caps top t.length s.steps next) (hc:c.length≤1000) (hs:SPre fuel s) (he:repR fuel R re k next i c s=some (b,s')) :
  call Tryz.prog pol1 143 [.rf A.length 1 0 0,.pt (goalC 1 re k fr next),I i,capA c] (srH A t fuel s s.ends.length K)=some (.bool b,srH A t fuel s' s'.ends.length K):=by
 have h161:=fun K=>f161 A K t fuel s s.ends.length ⟨hs.st.1,by have:=hs.st;omega⟩
 have ret:=fun b s' e' L=>zKd (f:=143) rfl rfl b A K L t fuel s s' s.ends.length e'
 obtain⟨kid,hkid,hgk⟩:=zJs h ho
 have hmd:=h.md
 obtain⟨op,set,kids,mn,mx,md,n,neg⟩:=re
 simp only[Re.kids,Re.op,Re.md]at hkid ho hmd
 subst hkid
 subst ho
 have hrep:=(zAv h.good.whole).2.2.1 rfl
 rw[zNv]at he
 have hp8:=zCf next
 have hl8:=zAM kid
 have ht8:=zAT kid
 have hok8:=zAs kid
 have hG:goalC 1 (.mk 4 set [kid] mn mx md n neg) k fr next=[I 1,I 4,.sl false (set.map spanAV),.sl false [reAV kid],I mn,I mx,I md,I n,.bool neg,I k,I fr,goalA next]:=by
  rw[goalC,zCc];rfl
 have hgp:=zBr 1 (.mk 4 set [kid] mn mx md n neg) k fr next
 rw[hG]at hgp ⊢
 have fr':frzArgs pol1 143 0 [.rf A.length 1 0 0,.pt [I 1,I 4,.sl false (set.map spanAV),.sl false [reAV kid],I mn,I mx,I md,I n,.bool neg,I k,I fr,goalA next],I i,capA c] (srH A t fuel s s.ends.length K)=some ([.rf A.length 1 0 0,.pt [I 1,I 4,.sl false (set.map spanAV),.sl false [reAV kid],I mn,I mx,I md,I n,.bool neg,I k,I fr,goalA next],I i,capA c],srH A t fuel s s.ends.length K):=zAO _ _ _ (by
  simp only[mixOk,show pol1.byref 143 0=true from rfl,AV.plain,hgp,zAG,Bool.true_or,Bool.or_true,Bool.and_self,Bool.and_true];rfl)
 refine zAY (pol:=pol1) Tryz.func143 rfl rfl rfl rfl fr' ?_
 by_cases h1:(stepSz fuel s).empty=true
 ·rw[if_pos h1]at he
  simp only[Option.some.injEq,Prod.mk.injEq]at he
  obtain⟨rfl,rfl⟩:=he
  have h161:=fun K=>(h161 K).trans (by rw[h1])
  simp +contextual (disch:=omega) only[Tryz.f143,zEh,go_sem,simprocAttr,AV.cells,zEc,↓zAD,↓zAC,↓zAB,↓zAA,h161,hmd,zBD,zA8,zBH]
  exact ret true (stepSz fuel s) _ _
 ·rw[if_neg h1]at he
  have h1':(stepSz fuel s).empty=false:=by simpa using h1
  obtain⟨p1,p2⟩:=zCm hs h1'
  have h161:=fun K=>(h161 K).trans (by rw[h1'])
  have hst:(stepSz fuel s).steps=s.steps+1:=rfl
  have hn1:=hn.mono (show s.steps≤(stepSz fuel s).steps by omega)
  have hon:=zGE (next:=next) (i:=i) (L:=t.length) (steps:=(stepSz fuel s).steps) h hgk rfl (k:=k) ⟨hk.1,by omega⟩ hi hn1
  have hka:∀ L L':List MB,(K++L)++L' = K++(L++L'):=fun L L'=>List.append_assoc K L L'
  have hfz:∀(R0:MB) (ca:List AV),AV.plainL ca=true→fz (.rf (A.length+(K.length+2+1+1+1)) 1 0 0) (srH A t fuel (stepSz fuel s) s.ends.length (K++[R0,.row 12 [.agg ca] 0,.row 12 [.agg (I 0::(reC kid++[I 0,I 0]++[.rf (A.length+(K.length+1+1+1+1)) 1 0 0]))] 0])) =
    some (.pt (I 0::(reC kid++[I 0,I 0]++[.pt ca])),srH A t fuel (stepSz fuel s) s.ends.length (K++[R0,.row 12 [.agg ca] 1,.row 12 [.agg (I 0::(reC kid++[I 0,I 0]++[.rf (A.length+(K.length+1+1+1+1)) 1 0 0]))] 1])):=fun R0 ca hca=>by
   have hpre:AV.plainL (I 0::(reC kid++[I 0,I 0]))=true:=by simp[AV.plainL,AV.plain,zBG,zAb]
   refine zNc (H1:=srH A t fuel (stepSz fuel s) s.ends.length (K++[R0,.row 12 [.agg ca] 0,.row 12 [.agg (I 0::(reC kid++[I 0,I 0]++[.rf (A.length+(K.length+1+1+1+1)) 1 0 0]))] 1])) (pre:=I 0::(reC kid++[I 0,I 0])) (a:=A.length+(K.length+1+1+1+1)) ?_ ?_ ?_ ?_ hpre hca
   ·unfold getRow;rw[zHb];rfl
   ·unfold mark getRow;rw[zHb];simp only[zLj];rfl
   ·unfold getRow;rw[zAj]
   ·unfold mark getRow;rw[zAj];simp only[zAl];rfl
  have plain_c2:AV.plainL [I 2,I 4,.sl false (set.map spanAV),.sl false [reAV kid],I mn,I mx,I md,I n,.bool neg,I k,I i,goalA next]=true:=by
   have hq:=zBr 2 (.mk 4 set [kid] mn mx md n neg) k i next
   rw[goalC,zCc]at hq
   exact hq
  have hGo:goalA (.mk 0 kid 0 0 (.mk 2 (.mk 4 set [kid] mn mx md n neg) k i next))=.pt (I 0::(reC kid++[I 0,I 0]++[.pt [I 2,I 4,.sl false (set.map spanAV),.sl false [reAV kid],I mn,I mx,I md,I n,.bool neg,I k,I i,goalA next]])):=by
   simp only[goalA,zCc,List.append_assoc,List.cons_append,List.nil_append,List.map_cons,List.map_nil]
  have hO:∀(K':List MB) (s2:SS) (b:Bool) (s':SS),(stepSz fuel s).steps≤s2.steps→SPre fuel s2→R (.mk 0 kid 0 0 (.mk 2 (.mk 4 set [kid] mn mx md n neg) k i next)) i c s2=some (b,s') →
    call Tryz.prog pol1 118 [.rf A.length 1 0 0,.pt (I 0::(reC kid++[I 0,I 0]++[.pt [I 2,I 4,.sl false (set.map spanAV),.sl false [reAV kid],I mn,I mx,I md,I n,.bool neg,I k,I i,goalA next]])),I i,capA c] (srH A t fuel s2 s2.ends.length K') =
     some (.bool b,srH A t fuel s' s'.ends.length K'):=fun K' s2 b s' h1 h2 e=>by
   have:=hR A K' _ i c s2 b s' (hon.mono h1) hi.1 hi.2 hc h2 e
   rwa [hGo]at this
  have hN:∀(K':List MB) (s2:SS) (b:Bool) (s':SS),(stepSz fuel s).steps≤s2.steps→SPre fuel s2→R next i c s2=some (b,s') →
    call Tryz.prog pol1 118 [.rf A.length 1 0 0,goalA next,I i,capA c] (srH A t fuel s2 s2.ends.length K')=some (.bool b,srH A t fuel s' s'.ends.length K'):=fun K' s2 b s' h1 h2 e=>
   hR A K' _ i c s2 b s' (hn1.mono h1) hi.1 hi.2 hc h2 e
  have pO:=fun(b:Bool) (s':SS) e=>hP _ i c _ b s' hon hi.1 hi.2 hc p1 e
  have pN:=fun(b:Bool) (s':SS) e=>hP _ i c _ b s' hn1 hi.1 hi.2 hc p1 e
  have hmx:mx = -1∨(mx≠-1∧k < mx)∨(mx≠-1∧¬ k < mx):=by omega
  by_cases hkm:k < mn
  ·rw[if_pos hkm]at he
   have c1:=fun K'=>hO K' _ b s' (Int.le_refl _) p1 he
   rw[show (stepSz fuel s).ends.length=s.ends.length from rfl]at c1
   rcases hmx with hmx|hmx|hmx
   ·simp +contextual (disch:=omega) only[Tryz.f143,zEh,go_sem,simprocAttr,zEc,↓zAD,↓zAC,↓zAB,↓zAA,h161,hmd,zBD,zA8,zBH,Bool.not_false,hl8,ht8,hok8,zBK,zBJ,zAq,zB9,zCA,zCB,zAo,zAp,zAV,zBl,zBm,List.all_append,zAj,zAl,zAu,hka,hfz,plain_c2,c1]
    repeat' (first|apply And.intro|(unfold dOk;kernel_rfl)|exact zAV next|(show (_ && _)=true;kernel_rfl)|(show (_ || _)=true;kernel_rfl)|intro _)
    all_goals exact ret _ _ _ _
   ·simp +contextual (disch:=omega) only[Tryz.f143,zEh,go_sem,simprocAttr,zEc,↓zAD,↓zAC,↓zAB,↓zAA,h161,hmd,zBD,zA8,zBH,Bool.not_false,hl8,ht8,hok8,zBK,zBJ,zAq,zB9,zCA,zCB,zAo,zAp,zAV,zBl,zBm,List.all_append,zAj,zAl,zAu,hka,hfz,plain_c2,c1]
    repeat' (first|apply And.intro|(unfold dOk;kernel_rfl)|exact zAV next|(show (_ && _)=true;kernel_rfl)|(show (_ || _)=true;kernel_rfl)|intro _)
    all_goals exact ret _ _ _ _
   ·simp +contextual (disch:=omega) only[Tryz.f143,zEh,go_sem,simprocAttr,zEc,↓zAD,↓zAC,↓zAB,↓zAA,h161,hmd,zBD,zA8,zBH,Bool.not_false,hl8,ht8,hok8,zBK,zBJ,zAq,zB9,zCA,zCB,zAo,zAp,zAV,zBl,zBm,List.all_append,zAj,zAl,zAu,hka,hfz,plain_c2,c1]
    repeat' (first|apply And.intro|(unfold dOk;kernel_rfl)|exact zAV next|(show (_ && _)=true;kernel_rfl)|(show (_ || _)=true;kernel_rfl)|intro _)
    all_goals exact ret _ _ _ _
  ·rw[if_neg hkm]at he
   by_cases hlz:md=1
   ·subst hlz
    rw[if_pos rfl]at he
    unfold orR at he
    split at he
    ·cases he
    ·rename_i s2 e2
     simp only[Option.some.injEq,Prod.mk.injEq]at he
     obtain⟨rfl,rfl⟩:=he
     have c1:=fun K'=>hN K' _ true _ (Int.le_refl _) p1 e2
     rw[show (stepSz fuel s).ends.length=s.ends.length from rfl]at c1
     rcases hmx with hmx|hmx|hmx
     ·simp +contextual (disch:=omega) only[Tryz.f143,zEh,go_sem,simprocAttr,zEc,↓zAD,↓zAC,↓zAB,↓zAA,h161,hmd,zBD,zA8,zBH,Bool.not_false,hl8,ht8,hok8,zBK,zBJ,zAq,zB9,zCA,zCB,zAo,zAp,zAV,zBl,zBm,List.all_append,zAj,zAl,zAu,hka,hfz,plain_c2,c1]
      repeat' (first|apply And.intro|(unfold dOk;kernel_rfl)|exact zAV next|(show (_ && _)=true;kernel_rfl)|(show (_ || _)=true;kernel_rfl)|intro _)
      all_goals exact ret _ _ _ _
     ·simp +contextual (disch:=omega) only[Tryz.f143,zEh,go_sem,simprocAttr,zEc,↓zAD,↓zAC,↓zAB,↓zAA,h161,hmd,zBD,zA8,zBH,Bool.not_false,hl8,ht8,hok8,zBK,zBJ,zAq,zB9,zCA,zCB,zAo,zAp,zAV,zBl,zBm,List.all_append,zAj,zAl,zAu,hka,hfz,plain_c2,c1]
      repeat' (first|apply And.intro|(unfold dOk;kernel_rfl)|exact zAV next|(show (_ && _)=true;kernel_rfl)|(show (_ || _)=true;kernel_rfl)|intro _)
      all_goals exact ret _ _ _ _
     ·simp +contextual (disch:=omega) only[Tryz.f143,zEh,go_sem,simprocAttr,zEc,↓zAD,↓zAC,↓zAB,↓zAA,h161,hmd,zBD,zA8,zBH,Bool.not_false,hl8,ht8,hok8,zBK,zBJ,zAq,zB9,zCA,zCB,zAo,zAp,zAV,zBl,zBm,List.all_append,zAj,zAl,zAu,hka,hfz,plain_c2,c1]
      repeat' (first|apply And.intro|(unfold dOk;kernel_rfl)|exact zAV next|(show (_ && _)=true;kernel_rfl)|(show (_ || _)=true;kernel_rfl)|intro _)
      all_goals exact ret _ _ _ _
    ·rename_i s2 e2
     simp only at he
     have c1:=fun K'=>hN K' _ false s2 (Int.le_refl _) p1 e2
     rw[show (stepSz fuel s).ends.length=s.ends.length from rfl]at c1
     have q2:=pN _ _ e2
     have p3:=q2.pre p1 p2
     rcases hmx with hmx|hmx|hmx
     ·rw[if_pos (by simp[hmx])]at he
      have c2:=fun K'=>hO K' _ b s' q2.st p3 he
      simp +contextual (disch:=omega) only[Tryz.f143,zEh,go_sem,simprocAttr,zEc,↓zAD,↓zAC,↓zAB,↓zAA,h161,hmd,zBD,zA8,zBH,Bool.not_false,hl8,ht8,hok8,zBK,zBJ,zAq,zB9,zCA,zCB,zAo,zAp,zAV,zBl,zBm,List.all_append,zAj,zAl,zAu,hka,hfz,plain_c2,c1,c2]
      repeat' (first|apply And.intro|(unfold dOk;kernel_rfl)|exact zAV next|(show (_ && _)=true;kernel_rfl)|(show (_ || _)=true;kernel_rfl)|intro _)
      all_goals exact ret _ _ _ _
     ·rw[if_pos (by simp[hmx])]at he
      have c2:=fun K'=>hO K' _ b s' q2.st p3 he
      simp +contextual (disch:=omega) only[Tryz.f143,zEh,go_sem,simprocAttr,zEc,↓zAD,↓zAC,↓zAB,↓zAA,h161,hmd,zBD,zA8,zBH,Bool.not_false,hl8,ht8,hok8,zBK,zBJ,zAq,zB9,zCA,zCB,zAo,zAp,zAV,zBl,zBm,List.all_append,zAj,zAl,zAu,hka,hfz,plain_c2,c1,c2]
      repeat' (first|apply And.intro|(unfold dOk;kernel_rfl)|exact zAV next|(show (_ && _)=true;kernel_rfl)|(show (_ || _)=true;kernel_rfl)|intro _)
      all_goals exact ret _ _ _ _
     ·rw[if_neg (by simp[hmx])]at he
      simp only[Option.some.injEq,Prod.mk.injEq]at he
      obtain⟨rfl,rfl⟩:=he
      simp +contextual (disch:=omega) only[Tryz.f143,zEh,go_sem,simprocAttr,zEc,↓zAD,↓zAC,↓zAB,↓zAA,h161,hmd,zBD,zA8,zBH,Bool.not_false,hl8,ht8,hok8,zBK,zBJ,zAq,zB9,zCA,zCB,zAo,zAp,zAV,zBl,zBm,List.all_append,zAj,zAl,zAu,hka,hfz,plain_c2,c1]
      repeat' (first|apply And.intro|(unfold dOk;kernel_rfl)|exact zAV next|(show (_ && _)=true;kernel_rfl)|(show (_ || _)=true;kernel_rfl)|intro _)
      all_goals exact ret _ _ _ _
   ·rw[if_neg hlz]at he
    unfold orR at he
    rcases hmx with hmx|hmx|hmx
    ·rw[if_pos (by simp[hmx])]at he
     split at he
     ·cases he
     ·rename_i s2 e2
      simp only[Option.some.injEq,Prod.mk.injEq]at he
      obtain⟨rfl,rfl⟩:=he
      have c1:=fun K'=>hO K' _ true _ (Int.le_refl _) p1 e2
      rw[show (stepSz fuel s).ends.length=s.ends.length from rfl]at c1
      simp +contextual (disch:=omega) only[Tryz.f143,zEh,go_sem,simprocAttr,zEc,↓zAD,↓zAC,↓zAB,↓zAA,h161,hmd,zBD,zA8,zBH,Bool.not_false,hl8,ht8,hok8,zBK,zBJ,zAq,zB9,zCA,zCB,zAo,zAp,zAV,zBl,zBm,List.all_append,zAj,zAl,zAu,hka,hfz,plain_c2,c1]
      repeat' (first|apply And.intro|(unfold dOk;kernel_rfl)|exact zAV next|(show (_ && _)=true;kernel_rfl)|(show (_ || _)=true;kernel_rfl)|intro _)
      all_goals exact ret _ _ _ _
     ·rename_i s2 e2
      have c1:=fun K'=>hO K' _ false s2 (Int.le_refl _) p1 e2
      rw[show (stepSz fuel s).ends.length=s.ends.length from rfl]at c1
      have q2:=pO _ _ e2
      have p3:=q2.pre p1 p2
      have c2:=fun K'=>hN K' _ b s' q2.st p3 he
      simp +contextual (disch:=omega) only[Tryz.f143,zEh,go_sem,simprocAttr,zEc,↓zAD,↓zAC,↓zAB,↓zAA,h161,hmd,zBD,zA8,zBH,Bool.not_false,hl8,ht8,hok8,zBK,zBJ,zAq,zB9,zCA,zCB,zAo,zAp,zAV,zBl,zBm,List.all_append,zAj,zAl,zAu,hka,hfz,plain_c2,c1,c2]
      repeat' (first|apply And.intro|(unfold dOk;kernel_rfl)|exact zAV next|(show (_ && _)=true;kernel_rfl)|(show (_ || _)=true;kernel_rfl)|intro _)
      all_goals exact ret _ _ _ _
    ·rw[if_pos (by simp[hmx])]at he
     split at he
     ·cases he
     ·rename_i s2 e2
      simp only[Option.some.injEq,Prod.mk.injEq]at he
      obtain⟨rfl,rfl⟩:=he
      have c1:=fun K'=>hO K' _ true _ (Int.le_refl _) p1 e2
      rw[show (stepSz fuel s).ends.length=s.ends.length from rfl]at c1
      simp +contextual (disch:=omega) only[Tryz.f143,zEh,go_sem,simprocAttr,zEc,↓zAD,↓zAC,↓zAB,↓zAA,h161,hmd,zBD,zA8,zBH,Bool.not_false,hl8,ht8,hok8,zBK,zBJ,zAq,zB9,zCA,zCB,zAo,zAp,zAV,zBl,zBm,List.all_append,zAj,zAl,zAu,hka,hfz,plain_c2,c1]
      repeat' (first|apply And.intro|(unfold dOk;kernel_rfl)|exact zAV next|(show (_ && _)=true;kernel_rfl)|(show (_ || _)=true;kernel_rfl)|intro _)
      all_goals exact ret _ _ _ _
     ·rename_i s2 e2
      have c1:=fun K'=>hO K' _ false s2 (Int.le_refl _) p1 e2
      rw[show (stepSz fuel s).ends.length=s.ends.length from rfl]at c1
      have q2:=pO _ _ e2
      have p3:=q2.pre p1 p2
      have c2:=fun K'=>hN K' _ b s' q2.st p3 he
      simp +contextual (disch:=omega) only[Tryz.f143,zEh,go_sem,simprocAttr,zEc,↓zAD,↓zAC,↓zAB,↓zAA,h161,hmd,zBD,zA8,zBH,Bool.not_false,hl8,ht8,hok8,zBK,zBJ,zAq,zB9,zCA,zCB,zAo,zAp,zAV,zBl,zBm,List.all_append,zAj,zAl,zAu,hka,hfz,plain_c2,c1,c2]
      repeat' (first|apply And.intro|(unfold dOk;kernel_rfl)|exact zAV next|(show (_ && _)=true;kernel_rfl)|(show (_ || _)=true;kernel_rfl)|intro _)
      all_goals exact ret _ _ _ _
    ·rw[if_neg (by simp[hmx])]at he
     simp only at he
     have c1:=fun K'=>hN K' _ b s' (Int.le_refl _) p1 he
     rw[show (stepSz fuel s).ends.length=s.ends.length from rfl]at c1
     simp +contextual (disch:=omega) only[Tryz.f143,zEh,go_sem,simprocAttr,zEc,↓zAD,↓zAC,↓zAB,↓zAA,h161,hmd,zBD,zA8,zBH,Bool.not_false,hl8,ht8,hok8,zBK,zBJ,zAq,zB9,zCA,zCB,zAo,zAp,zAV,zBl,zBm,List.all_append,zAj,zAl,zAu,hka,hfz,plain_c2,c1]
     repeat' (first|apply And.intro|(unfold dOk;kernel_rfl)|exact zAV next|(show (_ && _)=true;kernel_rfl)|(show (_ || _)=true;kernel_rfl)|intro _)
     all_goals exact ret _ _ _ _
end
end Go.Ev
