/- Functions of the program, each with what it computes; no further conditions. -/
import Derived.Test.YtjgmfjneajcbmaaGreatC06
import Derived.Test.YtjgmfjneajcbmaaGreatC17
import Derived.Test.YtjgmfjneajcbmaaGreatC16
set_option linter.unusedVariables false
set_option linter.unusedSimpArgs false
namespace Go.Ev
attribute [local go_sem] evBin AV.cells frzB List.length_append tySzE List.head?_drop Nat.mul_one sameAt_zero sameAt_two sameAt_three sameAt_four sameAt_five room_ok
section
attribute [local go_sem] evAppend List.map_append
open Go.Proofs Go.RowKit Go.IntWalk
set_option maxRecDepth 100000
set_option maxHeartbeats 8000000
theorem compL_iff (ins:List Int):∀ l:List Re,compL ins l=true↔∀ k∈l,compG ins k=true
 | []=>by simp[compL]
 | k::ks=>by simp[compL,compL_iff ins ks]
theorem compL_false {ins:List Int} {l:List Re} {k:Re} (h:k∈l) (hk:compG ins k=false):compL ins l=false:=by
 rw[Bool.eq_false_iff]
 intro hw
 rw[compL_iff]at hw
 rw[hw k h]at hk;cases hk
theorem compL_true {ins:List Int} {l:List Re} (h:∀(i:Nat) (k:Re),i < l.length→l[i]?=some k→compG ins k=true):compL ins l=true:=by
 rw[compL_iff]
 intro k hk
 obtain⟨i,hi,e⟩:=List.getElem_of_mem hk
 exact h i k hi (by rw[← e];exact List.getElem?_eq_getElem hi)
theorem f115 (l:List Int) (x:Int) (hl:l.length≤10000000) (H:List MB):call Tryz.prog pol1 60 [.sl false (l.map I),I x] H=some (.bool (decide (x∈l)),H):=by
 refine call_run Tryz.func60 rfl rfl rfl rfl rfl rfl (fun _=>rfl) (by simp[AV.plain,AV.plainL,plain_ints]) rfl ?_ H
 simp +contextual (disch:=omega) only[Tryz.f60,dd60,go_sem,simprocAttr,mu60,↓wrap_up,↓wrap_down,↓wrap_pred,↓wrap_sub_nat]
 refine W_count (M:=(mskOf (pol1.mask 60) (pol1.gc 60) (pol1.acts 60) 0 2)) rfl l.length (fun i=>(⟨18,[(5,I i),(1,I x),(0,.sl false (l.map I))],[]⟩:St)) (fun i=>∀ k p,k < i→l[k]?=some p→p≠x) ?_ ?_ (fun k p h=>by omega) _ (by first|rfl|(simp[keepT,AV.underL,AV.under,MB.under,underL_plain,under_plain,underL_append,plain_ints,plain_span,plain_ins,plain_prg,-List.map_take,-List.map_replicate,-List.map_set];done))
 ·intro i hi hg
  obtain⟨p,hp⟩:∃ p,l[i]?=some p:=⟨_,List.getElem?_eq_getElem hi⟩
  by_cases hpx:p=x
  ·subst hpx
   rw[decide_eq_true (List.mem_of_getElem? hp)]
   simp +contextual (disch:=omega) only[Tryz.f60,dd60,go_sem,simprocAttr,mu60,↓wrap_up,↓wrap_down,↓wrap_pred,↓wrap_sub_nat,hp]
   exact fzEq rfl rfl
  ·simp +contextual (disch:=omega) only[Tryz.f60,dd60,go_sem,simprocAttr,mu60,↓wrap_up,↓wrap_down,↓wrap_pred,↓wrap_sub_nat,hp]
   refine⟨fun k q hk hq=>?_,(by first|rfl|(simp[keepT,AV.underL,AV.under,MB.under,underL_plain,under_plain,underL_append,plain_ints,plain_span,plain_ins,plain_prg,-List.map_take,-List.map_replicate,-List.map_set];done))⟩
   rcases Nat.lt_or_ge k i with h|h
   ·exact hg k q h hq
   ·obtain rfl:k=i:=by omega
    rw[hp]at hq;obtain rfl:=Option.some.inj hq
    exact hpx
 ·intro hg
  have:¬ x∈l:=fun hm=>by
   obtain⟨i,hi,e⟩:=List.getElem_of_mem hm
   exact hg i x hi (by rw[← e];exact List.getElem?_eq_getElem hi) rfl
  rw[decide_eq_false this]
  simp +contextual (disch:=omega) only[Tryz.f60,dd60,go_sem,simprocAttr,mu60,↓wrap_up,↓wrap_down,↓wrap_pred,↓wrap_sub_nat]
  exact fzEq rfl rfl
theorem f134 (l:List Int) (x:Int) (hl:l.length≤10000000):∃ r:Int,(0≤r↔x∈l)∧∀ H,call Tryz.prog pol1 109 [.sl false (l.map I),I x] H=some (I r,H):=by
 have h:∃ r,(∃ i:Int,(0≤i↔x∈l)∧r=I i)∧∀ H,call Tryz.prog pol1 109 [.sl false (l.map I),I x] H=some (r,H):=by
  refine call_runA Tryz.func109 rfl rfl rfl rfl rfl rfl (fun _=>rfl) (by simp[AV.plain,AV.plainL,plain_ints]) ?_ ?_
  ·rintro _ ⟨i,_,rfl⟩;rfl
  simp +contextual (disch:=omega) only[Tryz.f109,dd109,go_sem,simprocAttr,mu109,↓wrap_up,↓wrap_down,↓wrap_pred,↓wrap_sub_nat]
  refine W_count (M:=(mskOf (pol1.mask 109) (pol1.gc 109) (pol1.acts 109) 0 2)) rfl l.length (fun i=>(⟨19,[(8,I i),(7,I l.length),(1,I x),(0,.sl false (l.map I))],[]⟩:St)) (fun i=>∀ k p,k < i→l[k]?=some p→p≠x) ?_ ?_ (fun k p h=>by omega) _ (by first|rfl|(simp[keepT,AV.underL,AV.under,MB.under,underL_plain,under_plain,underL_append,plain_ints,plain_span,plain_ins,plain_prg,-List.map_take,-List.map_replicate,-List.map_set];done))
  ·intro i hi hg
   obtain⟨p,hp⟩:∃ p,l[i]?=some p:=⟨_,List.getElem?_eq_getElem hi⟩
   by_cases hpx:p=x
   ·subst hpx
    simp +contextual (disch:=omega) only[Tryz.f109,dd109,go_sem,simprocAttr,mu109,↓wrap_up,↓wrap_down,↓wrap_pred,↓wrap_sub_nat,hp]
    exact⟨_,⟨i,⟨fun _=>List.mem_of_getElem? hp,fun _=>by omega⟩,rfl⟩,_,rfl⟩
   ·simp +contextual (disch:=omega) only[Tryz.f109,dd109,go_sem,simprocAttr,mu109,↓wrap_up,↓wrap_down,↓wrap_pred,↓wrap_sub_nat,hp]
    refine⟨fun k q hk hq=>?_,(by first|rfl|(simp[keepT,AV.underL,AV.under,MB.under,underL_plain,under_plain,underL_append,plain_ints,plain_span,plain_ins,plain_prg,-List.map_take,-List.map_replicate,-List.map_set];done))⟩
    rcases Nat.lt_or_ge k i with h|h
    ·exact hg k q h hq
    ·obtain rfl:k=i:=by omega
     rw[hp]at hq;obtain rfl:=Option.some.inj hq
     exact hpx
  ·intro hg
   have:¬ x∈l:=fun hm=>by
    obtain⟨i,hi,e⟩:=List.getElem_of_mem hm
    exact hg i x hi (by rw[← e];exact List.getElem?_eq_getElem hi) rfl
   simp +contextual (disch:=omega) only[Tryz.f109,dd109,go_sem,simprocAttr,mu109,↓wrap_up,↓wrap_down,↓wrap_pred,↓wrap_sub_nat]
   exact⟨_,⟨-1,⟨fun h=>by omega,fun h=>absurd h this⟩,rfl⟩,_,rfl⟩
 obtain⟨_,⟨i,h1,rfl⟩,h2⟩:=h
 exact⟨i,h1,h2⟩
theorem f106 (l:List Int) (x:Int) (hl:l.length≤10000000) (H:List MB):call Tryz.prog pol1 84 [.sl false (l.map I),I x] H=some (.bool (decide (x∈l)),H):=by
 refine call_run Tryz.func84 rfl rfl rfl rfl rfl rfl (fun _=>rfl) (by simp[AV.plain,AV.plainL,plain_ints]) rfl ?_ H
 obtain⟨r,h1,h2⟩:=f134 l x hl
 simp +contextual (disch:=omega) only[Tryz.f84,dd84,go_sem,simprocAttr,mu84,↓wrap_up,↓wrap_down,↓wrap_pred,↓wrap_sub_nat,h2]
 refine fzEq rfl (congrArg AV.bool ?_)
 rw[decide_eq_decide]
 exact h1
def zi (m:Nat):Nat→Nat
 | 0=>0
 | _+1=>m
theorem zi_max (m i:Nat):max (zi m i) m=m:=by cases i<;>simp[zi]
theorem f53 (caps top:Int):∀(N:Nat) (r:Re) (ins:List Int),r.wt≤N→r.wt≤1000000→ins.length+r.wt≤2000000→wholeG caps top r=true→∀ H,call Tryz.prog pol1 28 [reAV r,.sl false (ins.map I)] H=some (.bool (compG ins r),H)
 | 0,r,_,h,_,_,_=>by have:=r.wt_pos;omega
 | N+1,.mk op set kids mn mx md n neg,ins,h,hN,hI,hw=>by
   intro H
   have hkl:=Re.wtL_len kids
   have hwt:1+set.length+Re.wtL kids=(Re.mk op set kids mn mx md n neg).wt:=by simp[Re.wt]
   obtain⟨hwk,hkd,hrp,_,ho1,ho2⟩:=whole_facts hw
   have ih:=fun k (hk:k∈kids) (ins':List Int) (hi:ins'.length≤ins.length+1)=>f53 caps top N k ins' (by have:=Re.wtL_mem hk;omega) (by have:=Re.wtL_mem hk;omega) (by have:=Re.wtL_mem hk;omega) (hwk k hk)
   have h20:=fun k (hk:k∈kids)=>f20 k.wt k (Nat.le_refl _) (by have:=Re.wtL_mem hk;omega)
   have h115:=f115 ins n (by omega)
   rw[show reAV (.mk op set kids mn mx md n neg)=.agg (nodeL op set kids mn mx md n neg) from congrArg AV.agg reC_mk]
   refine call_run Tryz.func28 rfl rfl rfl rfl rfl rfl (fun _=>rfl) (by simp[AV.plain,AV.plainL,plain_span,plain_kids,plain_ints]) rfl ?_ H
   rw[compG]
   by_cases h4:op=4∧(md=2∨nullHd kids=true)
   ·rw[if_pos h4]
    obtain⟨rfl,h4⟩:=h4
    by_cases hmd:md=2
    ·simp +contextual (disch:=omega) only[Tryz.f28,dd28,go_sem,simprocAttr,mu28,↓wrap_up,↓wrap_down,↓wrap_pred,↓wrap_sub_nat]
     exact fzEq rfl rfl
    ·have hnl:nullHd kids=true:=by rcases h4 with h|h;exact absurd h hmd;exact h
     cases kids with
     | nil=>simp[nullHd]at hnl
     | cons k ks=>
       have h20k:=h20 k (List.mem_cons_self ..)
       rw[show nullG k=true from hnl]at h20k
       have hl8:=reC_len k
       have ht8:=reC_take k
       simp only[List.length_cons]at hkl
       simp +contextual (disch:=omega) only[Tryz.f28,dd28,go_sem,simprocAttr,mu28,↓wrap_up,↓wrap_down,↓wrap_pred,↓wrap_sub_nat,h20k,hl8,ht8]
       exact fzEq rfl rfl
   rw[if_neg h4]
   by_cases h5:op=5
   ·subst h5
    rw[if_pos rfl]
    by_cases hm:n∈ins
    ·rw[if_pos hm]
     rw[decide_eq_true hm]at h115
     simp +contextual (disch:=omega) only[Tryz.f28,dd28,go_sem,simprocAttr,mu28,↓wrap_up,↓wrap_down,↓wrap_pred,↓wrap_sub_nat,h115]
     exact fzEq rfl rfl
    ·rw[if_neg hm]
     rw[decide_eq_false hm]at h115
     have hcall:∀(b0:MB) (z:Nat) (k:Re),k∈kids→call Tryz.prog pol1 28 [reAV k,.ms 1 1 (ins.length+1) 0 (ins.length+1)] [b0,.row 1 ((ins++[n]).map I) z]=some (.bool (compG (ins++[n]) k),[b0,.row 1 ((ins++[n]).map I) (max z (ins.length+1))]):=fun b0 z k hk=>by
      have h1:frzArgs pol1 28 0 [reAV k,.ms 1 1 (ins.length+1) 0 (ins.length+1)] [b0,.row 1 ((ins++[n]).map I) z]=some ([reAV k,.sl false ((ins++[n]).map I)],[b0,.row 1 ((ins++[n]).map I) (max z (ins.length+1))]):=by
       have h2:fz (.ms 1 1 (ins.length+1) 0 (ins.length+1)) [b0,.row 1 ((ins++[n]).map I) z]=some (.sl false ((ins++[n]).map I),[b0,.row 1 ((ins++[n]).map I) (max z (ins.length+1))]):=
        fz_row (k:=1) (z:=z) rfl (by simp) (plain_ints _)
       have hby:∀ i,pol1.byref 28 i=false:=fun i=>rfl
       simp only[frzArgs,hby,Bool.false_eq_true,if_false,fz_plain _ (show AV.plain (reAV k)=true from plain_reC k),h2]
      rw[call_frz rfl h1 (by simp[AV.plainL,AV.plain,plain_reC,plain_ints,-List.map_append])]
      exact ih k hk (ins++[n]) (by simp) _
     have hmm:∀ z,z=0∨z=ins.length+1→max z (ins.length+1)=ins.length+1:=fun z hz=>by omega
     have hinl:ins.length≤2000000:=by omega
     cases ins with
     | nil=>
       simp only[List.map_nil,List.map_cons,List.nil_append,List.length_nil,Nat.zero_add]at h115 hcall
       simp +contextual (disch:=omega) only[Tryz.f28,dd28,go_sem,simprocAttr,mu28,↓wrap_up,↓wrap_down,↓wrap_pred,↓wrap_sub_nat,h115]
       repeat' (first|intro _|apply And.intro|(unfold dOk;kernel_rfl)|exact St.beq_refl _|(show altO _ _ _ _=true;kernel_rfl)|(show (_ || _)=true;kernel_rfl)|(show (_ && _)=true;kernel_rfl))
       refine W_count (M:=(mskOf (pol1.mask 28) (pol1.gc 28) (pol1.acts 28) 0 12)) rfl kids.length (fun i=>(⟨61,[(7,I i),(2,.rf 0 1 0 0),(1,.ms 1 1 (1) 0 (1))],[.row 8 [.agg (nodeL 5 set kids mn mx md n neg)] 0,.row 1 ([I n]) (zi (1) i)]⟩:St)) (fun i=>∀ j k,j < i→kids[j]?=some k→compG ([n]) k=true) ?_ ?_ (fun j k h=>by omega) _ (by first|rfl|(refine prep_to (n:=2) (m:=⟨some [7,2,1],some 2,[]⟩) rfl rfl ?_ ?_ ?_<;>first|rfl|(simp[keepT,AV.underL,AV.under,MB.under,underL_plain,under_plain,underL_append,plain_ints,plain_span,plain_ins,plain_prg,-List.map_take,-List.map_replicate,-List.map_set,plain_kids,zi];done)|(simp[keepT,AV.underL,AV.under,MB.under,underL_plain,under_plain,underL_append,plain_ints,plain_span,plain_ins,plain_prg,-List.map_take,-List.map_replicate,-List.map_set,plain_kids,zi];omega)))
       ·intro i hi hg
        obtain⟨k,hk⟩:∃ k,kids[i]?=some k:=⟨_,List.getElem?_eq_getElem hi⟩
        have ihk:=fun b0 z=>hcall b0 z k (List.mem_of_getElem? hk)
        have hl8:=reC_len k
        have ht8:=reC_take k
        have hz:=zi_max (1) i
        cases hn:compG ([n]) k with
        | false=>
          rw[hn]at ihk
          rw[show compL [n] kids=false from compL_false (List.mem_of_getElem? hk) hn]
          simp +contextual (disch:=omega) only[Tryz.f28,dd28,go_sem,simprocAttr,mu28,↓wrap_up,↓wrap_down,↓wrap_pred,↓wrap_sub_nat,hk,ihk,hl8,ht8]
          exact fzEq rfl rfl
        | true=>
          rw[hn]at ihk
          simp +contextual (disch:=omega) only[Tryz.f28,dd28,go_sem,simprocAttr,mu28,↓wrap_up,↓wrap_down,↓wrap_pred,↓wrap_sub_nat,hk,ihk,hl8,ht8,hz]
          refine⟨fun j q hj hq=>?_,(by first|rfl|(refine prep_to (n:=2) (m:=⟨some [7,2,1],some 2,[]⟩) rfl rfl ?_ ?_ ?_<;>first|rfl|(simp[keepT,AV.underL,AV.under,MB.under,underL_plain,under_plain,underL_append,plain_ints,plain_span,plain_ins,plain_prg,-List.map_take,-List.map_replicate,-List.map_set,plain_kids,plain_ints];done)|(simp[keepT,AV.underL,AV.under,MB.under,underL_plain,under_plain,underL_append,plain_ints,plain_span,plain_ins,plain_prg,-List.map_take,-List.map_replicate,-List.map_set,plain_kids,plain_ints];omega)))⟩
          rcases Nat.lt_or_ge j i with h|h
          ·exact hg j q h hq
          ·obtain rfl:j=i:=by omega
           rw[hk]at hq;obtain rfl:=Option.some.inj hq
           exact hn
       ·intro hg
        rw[show compL [n] kids=true from compL_true fun j k hj hk=>hg j k hj hk]
        simp +contextual (disch:=omega) only[Tryz.f28,dd28,go_sem,simprocAttr,mu28,↓wrap_up,↓wrap_down,↓wrap_pred,↓wrap_sub_nat]
        exact fzEq rfl rfl
     | cons x xs=>
       simp only[List.map_nil,List.map_cons,List.map_append,List.cons_append,List.length_cons]at h115 hcall hinl
       have hto:List.take (xs.length+1) (I x::List.map I xs)=I x::List.map I xs:=by rw[List.take_succ_cons];rw[take_map_len rfl]
       have hsn:x::(xs++[n])=(x::xs)++[n]:=rfl
       have hal:=all_int1 (x::xs)
       simp +contextual (disch:=omega) only[Tryz.f28,dd28,go_sem,simprocAttr,mu28,↓wrap_up,↓wrap_down,↓wrap_pred,↓wrap_sub_nat,h115,hto]
       repeat' (first|intro _|apply And.intro|(unfold dOk;kernel_rfl)|exact St.beq_refl _|(show altO _ _ _ _=true;kernel_rfl)|(show (_ || _)=true;kernel_rfl)|(show (_ && _)=true;kernel_rfl))
       ·exact all_int1 xs
       refine W_count (M:=(mskOf (pol1.mask 28) (pol1.gc 28) (pol1.acts 28) 0 12)) rfl kids.length (fun i=>(⟨61,[(7,I i),(2,.rf 0 1 0 0),(1,.ms 1 1 (xs.length+1+1) 0 (xs.length+1+1))],[.row 8 [.agg (nodeL 5 set kids mn mx md n neg)] 0,.row 1 (I x::(List.map I xs++[I n])) (zi (xs.length+1+1) i)]⟩:St)) (fun i=>∀ j k,j < i→kids[j]?=some k→compG (x::(xs++[n])) k=true) ?_ ?_ (fun j k h=>by omega) _ (by first|rfl|(refine prep_to (n:=2) (m:=⟨some [7,2,1],some 2,[]⟩) rfl rfl ?_ ?_ ?_<;>first|rfl|(simp[keepT,AV.underL,AV.under,MB.under,underL_plain,under_plain,underL_append,plain_ints,plain_span,plain_ins,plain_prg,-List.map_take,-List.map_replicate,-List.map_set,plain_kids,zi];done)|(simp[keepT,AV.underL,AV.under,MB.under,underL_plain,under_plain,underL_append,plain_ints,plain_span,plain_ins,plain_prg,-List.map_take,-List.map_replicate,-List.map_set,plain_kids,zi];omega)))
       ·intro i hi hg
        obtain⟨k,hk⟩:∃ k,kids[i]?=some k:=⟨_,List.getElem?_eq_getElem hi⟩
        have ihk:=fun b0 z=>hcall b0 z k (List.mem_of_getElem? hk)
        have hl8:=reC_len k
        have ht8:=reC_take k
        have hz:=zi_max (xs.length+1+1) i
        cases hn:compG (x::(xs++[n])) k with
        | false=>
          rw[hn]at ihk
          rw[show compL (x::(xs++[n])) kids=false from compL_false (List.mem_of_getElem? hk) hn]
          simp +contextual (disch:=omega) only[Tryz.f28,dd28,go_sem,simprocAttr,mu28,↓wrap_up,↓wrap_down,↓wrap_pred,↓wrap_sub_nat,hk,ihk,hl8,ht8]
          exact fzEq rfl rfl
        | true=>
          rw[hn]at ihk
          simp +contextual (disch:=omega) only[Tryz.f28,dd28,go_sem,simprocAttr,mu28,↓wrap_up,↓wrap_down,↓wrap_pred,↓wrap_sub_nat,hk,ihk,hl8,ht8,hz]
          refine⟨fun j q hj hq=>?_,(by first|rfl|(refine prep_to (n:=2) (m:=⟨some [7,2,1],some 2,[]⟩) rfl rfl ?_ ?_ ?_<;>first|rfl|(simp[keepT,AV.underL,AV.under,MB.under,underL_plain,under_plain,underL_append,plain_ints,plain_span,plain_ins,plain_prg,-List.map_take,-List.map_replicate,-List.map_set,plain_kids,plain_ints];done)|(simp[keepT,AV.underL,AV.under,MB.under,underL_plain,under_plain,underL_append,plain_ints,plain_span,plain_ins,plain_prg,-List.map_take,-List.map_replicate,-List.map_set,plain_kids,plain_ints];omega)))⟩
          rcases Nat.lt_or_ge j i with h|h
          ·exact hg j q h hq
          ·obtain rfl:j=i:=by omega
           rw[hk]at hq;obtain rfl:=Option.some.inj hq
           exact hn
       ·intro hg
        rw[show compL (x::(xs++[n])) kids=true from compL_true fun j k hj hk=>hg j k hj hk]
        simp +contextual (disch:=omega) only[Tryz.f28,dd28,go_sem,simprocAttr,mu28,↓wrap_up,↓wrap_down,↓wrap_pred,↓wrap_sub_nat]
        exact fzEq rfl rfl
   rw[if_neg h5]
   by_cases h6:5 < op∧op≠11
   ·rw[if_pos h6]
    have hnl:op=4→¬ nullHd kids=true:=fun h=>by omega
    simp +contextual (disch:=omega) only[Tryz.f28,dd28,go_sem,simprocAttr,mu28,↓wrap_up,↓wrap_down,↓wrap_pred,↓wrap_sub_nat]
    exact fzEq rfl rfl
   rw[if_neg h6]
   have hfrz:∀ k (H:List MB),k∈kids→call Tryz.prog pol1 28 [reAV k,.sl false (ins.map I)] H=some (.bool (compG ins k),H):=fun k H hk=>ih k hk ins (by omega) H
   have hmain:∀ k',kids.head?=some k'→op=4→∀ H,call Tryz.prog pol1 59 [reAV k'] H=some (.bool false,H):=fun k' hk' hop4=>by
    cases kids with
    | nil=>cases hk'
    | cons k ks=>
      have e:k=k':=by simpa using hk'
      subst e
      have h1:=h20 k (List.mem_cons_self ..)
      have:nullG k=false:=by
       cases hn:nullG k with
       | false=>rfl
       | true=>exact absurd ⟨hop4,.inr hn⟩ h4
      rw[this]at h1;exact h1
   have hloop:∀ r,r=compL ins kids→op≠5→True:=fun _ _ _=>trivial
   have hone:op=4→kids.length=1:=fun h=>by subst h;simpa [kidsG] using hkd
   by_cases ho4:op=4
   ·subst ho4
    have hmd:¬ md=2:=fun h=>h4 ⟨rfl,.inl h⟩
    have hk1:=hone rfl
    match kids,hk1 with
    | [k],_=>
      have h20k:=hmain k rfl rfl
      have hl8:=reC_len k
      have ht8:=reC_take k
      have hf:=fun H=>hfrz k H (List.mem_cons_self ..)
      generalize hks:([k]:List Re)=kids at *
      have hkk:kids.map reAV=[reAV k]:=by rw[← hks];rfl
      have hget:(kids.map reAV)[0]?=some (reAV k):=by rw[hkk];rfl
      have hget':kids[0]?=some k:=by rw[← hks];rfl
      have hlen1:kids.length=1:=by rw[← hks];rfl
      clear hmain hloop hone
      simp +contextual (disch:=omega) only[Tryz.f28,dd28,go_sem,simprocAttr,mu28,↓wrap_up,↓wrap_down,↓wrap_pred,↓wrap_sub_nat,h20k,hl8,ht8,hget']
      refine W_count (M:=(mskOf (pol1.mask 28) (pol1.gc 28) (pol1.acts 28) 0 12)) rfl (kids).length (fun i=>(⟨61,[(7,I i),(2,.rf 0 1 0 0),(1,.sl false (ins.map I))],[.row 8 [.agg (nodeL _ set (kids) mn mx md n neg)] 0]⟩:St)) (fun i=>∀ j k,j < i→(kids)[j]?=some k→compG ins k=true) ?_ ?_ (fun j k h=>by omega) _ (by first|rfl|(refine prep_to (n:=2) (m:=⟨some [7,2,1],some 2,[]⟩) rfl rfl ?_ ?_ ?_<;>first|rfl|(simp[keepT,AV.underL,AV.under,MB.under,underL_plain,under_plain,underL_append,plain_ints,plain_span,plain_ins,plain_prg,-List.map_take,-List.map_replicate,-List.map_set,plain_kids,plain_reC];done)|(simp[keepT,AV.underL,AV.under,MB.under,underL_plain,under_plain,underL_append,plain_ints,plain_span,plain_ins,plain_prg,-List.map_take,-List.map_replicate,-List.map_set,plain_kids,plain_reC];omega)))
      ·intro i hi hg
       obtain⟨k,hk⟩:∃ k,(kids)[i]?=some k:=⟨_,List.getElem?_eq_getElem hi⟩
       have ihk:=fun H=>hfrz k H (List.mem_of_getElem? hk)
       have hl8:=reC_len k
       have ht8:=reC_take k
       cases hn:compG ins k with
       | false=>
         rw[hn]at ihk
         rw[show compL ins (kids)=false from compL_false (List.mem_of_getElem? hk) hn]
         simp +contextual (disch:=omega) only[Tryz.f28,dd28,go_sem,simprocAttr,mu28,↓wrap_up,↓wrap_down,↓wrap_pred,↓wrap_sub_nat,hk,ihk,hl8,ht8]
         exact fzEq rfl rfl
       | true=>
         rw[hn]at ihk
         simp +contextual (disch:=omega) only[Tryz.f28,dd28,go_sem,simprocAttr,mu28,↓wrap_up,↓wrap_down,↓wrap_pred,↓wrap_sub_nat,hk,ihk,hl8,ht8]
         refine⟨fun j q hj hq=>?_,(by first|rfl|(refine prep_to (n:=2) (m:=⟨some [7,2,1],some 2,[]⟩) rfl rfl ?_ ?_ ?_<;>first|rfl|(simp[keepT,AV.underL,AV.under,MB.under,underL_plain,under_plain,underL_append,plain_ints,plain_span,plain_ins,plain_prg,-List.map_take,-List.map_replicate,-List.map_set,plain_kids,plain_reC];done)|(simp[keepT,AV.underL,AV.under,MB.under,underL_plain,under_plain,underL_append,plain_ints,plain_span,plain_ins,plain_prg,-List.map_take,-List.map_replicate,-List.map_set,plain_kids,plain_reC];omega)))⟩
         rcases Nat.lt_or_ge j i with h|h
         ·exact hg j q h hq
         ·obtain rfl:j=i:=by omega
          rw[hk]at hq;obtain rfl:=Option.some.inj hq
          exact hn
      ·intro hg
       rw[show compL ins (kids)=true from compL_true fun j k hj hk=>hg j k hj hk]
       simp +contextual (disch:=omega) only[Tryz.f28,dd28,go_sem,simprocAttr,mu28,↓wrap_up,↓wrap_down,↓wrap_pred,↓wrap_sub_nat]
       exact fzEq rfl rfl
   ·have hop:op=0∨op=1∨op=2∨op=3∨op=11:=by omega
    clear hmain hloop hone h4
    rcases hop with rfl|rfl|rfl|rfl|rfl
    all_goals (
     simp +contextual (disch:=omega) only[Tryz.f28,dd28,go_sem,simprocAttr,mu28,↓wrap_up,↓wrap_down,↓wrap_pred,↓wrap_sub_nat]
     refine W_count (M:=(mskOf (pol1.mask 28) (pol1.gc 28) (pol1.acts 28) 0 12)) rfl (kids).length (fun i=>(⟨61,[(7,I i),(2,.rf 0 1 0 0),(1,.sl false (ins.map I))],[.row 8 [.agg (nodeL _ set (kids) mn mx md n neg)] 0]⟩:St)) (fun i=>∀ j k,j < i→(kids)[j]?=some k→compG ins k=true) ?_ ?_ (fun j k h=>by omega) _ (by first|rfl|(refine prep_to (n:=2) (m:=⟨some [7,2,1],some 2,[]⟩) rfl rfl ?_ ?_ ?_<;>first|rfl|(simp[keepT,AV.underL,AV.under,MB.under,underL_plain,under_plain,underL_append,plain_ints,plain_span,plain_ins,plain_prg,-List.map_take,-List.map_replicate,-List.map_set,plain_kids,plain_reC];done)|(simp[keepT,AV.underL,AV.under,MB.under,underL_plain,under_plain,underL_append,plain_ints,plain_span,plain_ins,plain_prg,-List.map_take,-List.map_replicate,-List.map_set,plain_kids,plain_reC];omega)))
     ·intro i hi hg
      obtain⟨k,hk⟩:∃ k,(kids)[i]?=some k:=⟨_,List.getElem?_eq_getElem hi⟩
      have ihk:=fun H=>hfrz k H (List.mem_of_getElem? hk)
      have hl8:=reC_len k
      have ht8:=reC_take k
      cases hn:compG ins k with
      | false=>
        rw[hn]at ihk
        rw[show compL ins (kids)=false from compL_false (List.mem_of_getElem? hk) hn]
        simp +contextual (disch:=omega) only[Tryz.f28,dd28,go_sem,simprocAttr,mu28,↓wrap_up,↓wrap_down,↓wrap_pred,↓wrap_sub_nat,hk,ihk,hl8,ht8]
        exact fzEq rfl rfl
      | true=>
        rw[hn]at ihk
        simp +contextual (disch:=omega) only[Tryz.f28,dd28,go_sem,simprocAttr,mu28,↓wrap_up,↓wrap_down,↓wrap_pred,↓wrap_sub_nat,hk,ihk,hl8,ht8]
        refine⟨fun j q hj hq=>?_,(by first|rfl|(refine prep_to (n:=2) (m:=⟨some [7,2,1],some 2,[]⟩) rfl rfl ?_ ?_ ?_<;>first|rfl|(simp[keepT,AV.underL,AV.under,MB.under,underL_plain,under_plain,underL_append,plain_ints,plain_span,plain_ins,plain_prg,-List.map_take,-List.map_replicate,-List.map_set,plain_kids,plain_reC];done)|(simp[keepT,AV.underL,AV.under,MB.under,underL_plain,under_plain,underL_append,plain_ints,plain_span,plain_ins,plain_prg,-List.map_take,-List.map_replicate,-List.map_set,plain_kids,plain_reC];omega)))⟩
        rcases Nat.lt_or_ge j i with h|h
        ·exact hg j q h hq
        ·obtain rfl:j=i:=by omega
         rw[hk]at hq;obtain rfl:=Option.some.inj hq
         exact hn
     ·intro hg
      rw[show compL ins (kids)=true from compL_true fun j k hj hk=>hg j k hj hk]
      simp +contextual (disch:=omega) only[Tryz.f28,dd28,go_sem,simprocAttr,mu28,↓wrap_up,↓wrap_down,↓wrap_pred,↓wrap_sub_nat]
      exact fzEq rfl rfl)
end
section
attribute [local go_sem] evAppend List.map_append
open Go.Proofs Go.RowKit Go.IntWalk
set_option maxRecDepth 100000
set_option maxHeartbeats 8000000
def insSplit (md next other:Int):Ins:=if md=1 then⟨2,other,next,0,[]⟩ else⟨2,next,other,0,[]⟩
mutual
def codeG:Re→Nat→List Ins
 | .mk op set kids mn mx md n neg,f=>
   if op=1 then [⟨1,0,0,0,set⟩] else if op=11 then [⟨5,0,0,n,[]⟩] else if op=2 then codeCat kids f else if op=3 then codeAlt kids f
   else if op=5 then⟨4,0,0,2 * n - 2,[]⟩::(codeHd kids (f+1)++[⟨4,0,0,2 * n - 1,[]⟩])
   else if op=4 then
    let L:=lenL kids
    let copies:=(List.range mn.toNat).flatMap fun i=>codeHd kids (f+i * L)
    let p:=f+mn.toNat * L
    if mx = -1 then copies++(insSplit md ((p+1:Nat):Int) ((p+L+2:Nat):Int)::(codeHd kids (p+1)++[⟨3,(p:Int),0,0,[]⟩]))
    else copies++(List.range (mx.toNat - mn.toNat)).flatMap fun j=>insSplit md ((p+j * (L+1)+1:Nat):Int) ((f+mx.toNat * L+(mx.toNat - mn.toNat):Nat):Int)::codeHd kids (p+j * (L+1)+1)
   else []
def codeCat:List Re→Nat→List Ins
 | [],_=>[]
 | k::ks,f=>codeG k f++codeCat ks (f+lenG k)
def codeAlt:List Re→Nat→List Ins
 | [],_=>[]
 | k::ks,f=>if ks.length=0 then codeG k f else
    ⟨2,((f+1:Nat):Int),((f+lenG k+2:Nat):Int),0,[]⟩::(codeG k (f+1)++(⟨3,((f+lenL (k::ks)+2 * ks.length:Nat):Int),0,0,[]⟩::codeAlt ks (f+lenG k+2)))
def codeHd:List Re→Nat→List Ins
 | [],_=>[]
 | k::_,f=>codeG k f
end
mutual
def codable:Re→Bool
 | .mk op set kids mn mx md n neg=>(decide (op≤5) || op == 11) && codableL kids
def codableL:List Re→Bool
 | []=>true
 | k::ks=>codable k && codableL ks
end
theorem codableL_iff:∀ l:List Re,codableL l=true↔∀ k∈l,codable k=true
 | []=>by simp[codableL]
 | k::ks=>by simp[codableL,codableL_iff ks]
mutual
theorem codable_of:∀(r:Re) (ins:List Int),compG ins r=true→codable r=true
 | .mk op set kids mn mx md n neg,ins,h=>by
   rw[compG]at h
   rw[codable,Bool.and_eq_true,Bool.or_eq_true,decide_eq_true_eq,beq_iff_eq]
   split at h
   ·cases h
   ·split at h
    ·split at h
     ·cases h
     ·exact⟨.inl (by omega),codableL_of kids _ h⟩
    ·split at h
     ·cases h
     ·exact⟨by omega,codableL_of kids _ h⟩
theorem codableL_of:∀(l:List Re) (ins:List Int),compL ins l=true→codableL l=true
 | [],_,_=>rfl
 | k::ks,ins,h=>by
   rw[compL,Bool.and_eq_true]at h
   rw[codableL,codable_of k ins h.1,codableL_of ks ins h.2];rfl
end
structure GoodC (caps top:Int) (r:Re):Prop where
 whole:wholeG caps top r=true
 cod:codable r=true
theorem GoodC.kids {caps top op:Int} {set:List (Int×Int)} {kids:List Re} {mn mx md n:Int} {neg:Bool} (h:GoodC caps top (.mk op set kids mn mx md n neg)):∀ k∈kids,GoodC caps top k:=by
 intro k hk
 have h2:=h.cod
 rw[codable,Bool.and_eq_true,codableL_iff]at h2
 exact⟨(whole_facts h.whole).1 k hk,h2.2 k hk⟩
theorem GoodC.op {caps top op:Int} {set:List (Int×Int)} {kids:List Re} {mn mx md n:Int} {neg:Bool} (h:GoodC caps top (.mk op set kids mn mx md n neg)):op=0∨op=1∨op=2∨op=3∨op=4∨op=5∨op=11:=by
 have h2:=h.cod
 rw[codable,Bool.and_eq_true,Bool.or_eq_true,decide_eq_true_eq,beq_iff_eq]at h2
 have h3:=(whole_facts h.whole).2.2.2.2
 omega
theorem flat_len {α:Type} (g:Nat→List α) (L:Nat):∀ m,(∀ i,i < m→(g i).length=L)→((List.range m).flatMap g).length=m * L
 | 0,_=>by simp
 | m+1,h=>by
   rw[List.range_succ,List.flatMap_append,List.length_append,flat_len g L m (fun i hi=>h i (by omega))]
   simp only[List.flatMap_cons,List.flatMap_nil,List.append_nil,h m (by omega),Nat.succ_mul]
mutual
theorem codeG_len (caps top:Int):∀(r:Re) (f:Nat),GoodC caps top r→(codeG r f).length=lenG r
 | .mk op set kids mn mx md n neg,f,hw=>by
   have hop:=hw.op
   obtain⟨_,hkd,hrp,_,ho1,ho2⟩:=whole_facts hw.whole
   have hwk:=hw.kids
   have hcat:=codeCat_len caps top kids f hwk
   have halt:=codeAlt_len caps top kids f hwk
   have hhd:=fun f=>codeHd_len caps top kids f hwk
   rw[codeG,lenG]
   by_cases h1:op=1
   ·rw[if_pos h1,if_pos (.inl h1)];rfl
   rw[if_neg h1]
   by_cases h11:op=11
   ·rw[if_pos h11,if_pos (.inr h11)];rfl
   rw[if_neg h11,if_neg (show ¬ (op=1∨op=11) by omega)]
   by_cases h2:op=2
   ·rw[if_pos h2,if_neg (show ¬ op=3 by omega),if_neg (show ¬ op=5 by omega),if_neg (show ¬ op=4 by omega)];exact hcat
   rw[if_neg h2]
   by_cases h3:op=3
   ·subst h3
    rw[if_pos rfl,if_pos rfl]
    have:2≤kids.length:=by simpa [kidsG] using hkd
    exact halt (by omega)
   rw[if_neg h3,if_neg h3]
   have hone:op=4∨op=5→kids.length=1:=fun e=>by rcases e with rfl|rfl<;>simpa [kidsG] using hkd
   by_cases h5:op=5
   ·rw[if_pos h5,if_pos h5]
    simp[hhd _ (hone (.inr h5))]
   rw[if_neg h5,if_neg h5]
   by_cases h4:op=4
   ·rw[if_pos h4,if_pos h4]
    have hh:=fun f=>hhd f (hone (.inl h4))
    have hr:=hrp h4
    simp only[repG,Bool.and_eq_true,Bool.or_eq_true,decide_eq_true_eq,beq_iff_eq]at hr
    by_cases hm:mx = -1
    ·simp only[if_pos hm,List.length_append,List.length_cons,List.length_nil]
     rw[flat_len _ (lenL kids) _ (fun i _=>hh _),hh,Nat.succ_mul]
     omega
    ·simp only[if_neg hm,List.length_append]
     rw[flat_len _ (lenL kids) _ (fun i _=>hh _),flat_len _ (lenL kids+1) _ (fun i _=>by simp[hh])]
     obtain⟨e,he⟩:∃ e,mx.toNat=mn.toNat+e:=⟨mx.toNat - mn.toNat,by omega⟩
     rw[he,Nat.add_sub_cancel_left,Nat.add_mul,Nat.mul_add]
     omega
   rw[if_neg h4,if_neg h4]
   have hk0:kids=[]:=by
    have:op=0:=by omega
    subst this
    exact List.length_eq_zero_iff.1 (by simpa [kidsG] using hkd)
   rw[hk0];rfl
theorem codeCat_len (caps top:Int):∀(l:List Re) (f:Nat),(∀ k∈l,GoodC caps top k)→(codeCat l f).length=lenL l
 | [],f,_=>rfl
 | k::ks,f,h=>by
   rw[codeCat,lenL,List.length_append,codeG_len caps top k f (h k (List.mem_cons_self ..)),codeCat_len caps top ks _ (fun k hk=>h k (List.mem_cons_of_mem _ hk))]
theorem codeAlt_len (caps top:Int):∀(l:List Re) (f:Nat),(∀ k∈l,GoodC caps top k)→1≤l.length→(codeAlt l f).length=lenL l+2 * (l.length - 1)
 | [],f,_,h=>by simp at h
 | k::ks,f,h,_=>by
   have hk:=fun f=>codeG_len caps top k f (h k (List.mem_cons_self ..))
   rw[codeAlt]
   split
   ·rename_i h0
    have:ks=[]:=List.length_eq_zero_iff.1 h0
    subst this
    simp[hk,lenL]
   ·rename_i h0
    have:=codeAlt_len caps top ks (f+lenG k+2) (fun k hk=>h k (List.mem_cons_of_mem _ hk)) (by omega)
    simp only[List.length_cons,List.length_append,hk,this,lenL]
    omega
theorem codeHd_len (caps top:Int):∀(l:List Re) (f:Nat),(∀ k∈l,GoodC caps top k)→l.length=1→(codeHd l f).length=lenL l
 | [],f,_,h=>by simp at h
 | k::ks,f,h,hl=>by
   have:ks=[]:=List.length_eq_zero_iff.1 (by simpa using hl)
   subst this
   rw[codeHd,codeG_len caps top k f (h k (List.mem_cons_self ..))]
   simp[lenL]
end
end
section
attribute [local go_sem] List.map_append
open Go.Proofs Go.RowKit Go.IntWalk
set_option maxRecDepth 100000
set_option maxHeartbeats 8000000
theorem keep_ins {j:List AV→List MB→Option (List AV×List MB)} (l:List Ins):KeepL j (l.map insAV) (l.map insAV):=KeepL.plain (plain_ins l)
theorem own_ins {f id n:Nat} {els:List AV} {c:List Ins} {H:List MB} (hk:pol1.keep f=false) (ho:pol1.own f=true) (hr:getRow H id=some (5,els,0)) (hn:c.length=n) (hK:∀ j,KeepL j els (c.map insAV)) :
  retPol pol1 f [] (.ms id 5 n 0 n) H=some (.ms 0 5 n 0 n,[.row 5 (c.map insAV) 0]):=by
 have hl:=(hK (fun _ _=>none)).len
 rw[List.length_map]at hl
 exact retPol_own (els:=els) hk ho hr (by omega) ((hK _).fz H) hr (plain_ins c) (by simp[hn])
theorem own_end {f id n:Nat} {els xs:List AV} {c:List Ins} {H:List MB} (hk:pol1.keep f=false) (ho:pol1.own f=true) (hr:getRow H id=some (5,els,0)) (hn:c.length=n) (hx:xs=c.map insAV) (hK:∀ j,KeepL j els (c.map insAV)) :
 retPol pol1 f [] (.ms id 5 n 0 n) H=some (.ms 0 5 n 0 n,[.row 5 xs 0]):=hx ▸ own_ins hk ho hr hn hK
def copiesG (k:Re) (f i:Nat):List Ins:=(List.range i).flatMap fun i=>codeG k (f+i * lenG k)
theorem copies_succ (k:Re) (f i:Nat):copiesG k f (i+1)=copiesG k f i++codeG k (f+i * lenG k):=by
 simp[copiesG,List.range_succ,List.flatMap_append]
theorem copies_len {caps top:Int} {k:Re} (h:GoodC caps top k) (f i:Nat):(copiesG k f i).length=i * lenG k:=flat_len _ _ _ (fun i _=>codeG_len caps top k _ h)
def optsG (md:Int) (k:Re) (p e i:Nat):List Ins:=(List.range i).flatMap fun j=>insSplit md ((p+j * (lenG k+1)+1:Nat):Int) (e:Nat)::codeG k (p+j * (lenG k+1)+1)
def restG (md:Int) (k:Re) (f m e i:Nat):List Ins:=copiesG k f m++optsG md k (f+m * lenG k) e i
end
section
attribute [local go_sem] List.map_append
open Go.Proofs Go.RowKit Go.IntWalk
set_option maxRecDepth 100000
set_option maxHeartbeats 8000000
theorem call_frz' {P:Program} {pol:Pol} {f:Nat} {args l:List AV} {H H1:List MB} (hp:pol.pure f=true) (h:frzArgs pol f 0 args H=some (l,H1)) (ha:AV.plainL l=true) :
  call P pol f args H=call P pol f l H1:=by
 have hf:∀(l:List AV) (i:Nat),AV.plainL l=true→frzArgs pol f i l H1=some (l,H1):=by
  intro l
  induction l with
  | nil=>intro i _;rfl
  | cons x l ih=>
    intro i h
    simp only[AV.plainL,Bool.and_eq_true]at h
    simp only[frzArgs,fz_plain H1 h.1,ih (i+1) h.2]
    split<;>simp_all
 rw[call_eq,call_eq]
 unfold evStep
 simp only[hp,if_true,h,hf l 0 ha]
theorem codeCat_append:∀(a b:List Re) (f:Nat),codeCat (a++b) f=codeCat a f++codeCat b (f+lenL a)
 | [],b,f=>by simp[codeCat,lenL]
 | k::ks,b,f=>by simp[codeCat,lenL,codeCat_append ks b,Nat.add_assoc]
theorem codeCat_take {l:List Re} {i:Nat} {k:Re} (h:l[i]?=some k) (f:Nat):codeCat (l.take (i+1)) f=codeCat (l.take i) f++codeG k (f+lenL (l.take i)):=by
 rw[List.take_add_one,h,codeCat_append];simp[codeCat]
theorem lenL_take_le:∀(l:List Re) (i:Nat),lenL (l.take i)≤lenL l:=fun l i=>by
 have:=lenL_append (l.take i) (l.drop i)
 rw[List.take_append_drop]at this
 omega
end
section
attribute [local go_sem] evAppend List.map_append
open Go.Proofs Go.RowKit Go.IntWalk
set_option maxRecDepth 100000
set_option maxHeartbeats 8000000
theorem f103 (b0 b3:MB) (pc tc:List AV) (hp:AV.plainL pc=true) (htc:AV.plainL tc=true) (caps top:Int) (ht:top≤1114111) (hpc:pc[8]?=some (I caps)) (htc2:tc=[I top]):∀(N:Nat) (r:Re),r.wt≤N→r.wt≤1000000 →
  ∀(d s:Nat) (g:Bool),s≤256→d≤1000000 →
  ∃(ok g':Bool) (s':Nat),call Tryz.prog pol1 81 [.pt (reC r),I d,.rf 1 1 0 0,.rf 2 1 0 0,.pt pc,.pt tc,.rf 4 1 0 0]
    [b0,.row 1 [I s] 0,.row 1 [.bool g] 0,b3,.row 1 [.clo 81 [.rf 1 1 0 0,.rf 2 1 0 0,.pt pc,.pt tc,.rf 4 1 0 0]] 0] =
   some (.bool ok,[b0,.row 1 [I s'] 0,.row 1 [.bool g'] 0,b3,.row 1 [.clo 81 [.rf 1 1 0 0,.rf 2 1 0 0,.pt pc,.pt tc,.rf 4 1 0 0]] 0]) ∧
   ok=decide (s+r.size≤256∧d+r.depth≤25)∧(ok=true→s' = s+r.size∧g' = (g && wholeG caps top r))
 | 0,r,h,_,_,_,_,_,_=>by have:=r.wt_pos;omega
 | N+1,.mk op set kids mn mx md n neg,h,hN,d,s,g,hs,hd=>by
   have hkl:=Re.wtL_len kids
   have hwt:1+set.length+Re.wtL kids=(Re.mk op set kids mn mx md n neg).wt:=by simp[Re.wt]
   have ih:=fun k (hk:k∈kids)=>f103 b0 b3 pc tc hp htc caps top ht hpc htc2 N k (by have:=Re.wtL_mem hk;omega) (by have:=Re.wtL_mem hk;omega)
   have f104':=f104 caps top ht op set kids mn mx md n neg (by omega) (by omega)
   rw[show (.pt (reC (.mk op set kids mn mx md n neg)):AV)=.pt (nodeL op set kids mn mx md n neg) from congrArg AV.pt reC_mk]
   have hsz:(Re.mk op set kids mn mx md n neg).size=1+Re.sizeL kids:=by simp[Re.size]
   have hdz:(Re.mk op set kids mn mx md n neg).depth=1+Re.depthL kids:=by simp[Re.depth]
   have hwh:wholeG caps top (.mk op set kids mn mx md n neg)=(formedG caps top (.mk op set kids mn mx md n neg) && wholeL caps top kids):=by rw[wholeG]
   have fr:∀(s:Int) (g:Bool),frzArgs pol1 81 0 [.pt (nodeL op set kids mn mx md n neg),I d,.rf 1 1 0 0,.rf 2 1 0 0,.pt pc,.pt tc,.rf 4 1 0 0]
     [b0,.row 1 [I s] 0,.row 1 [.bool g] 0,b3,.row 1 [.clo 81 [.rf 1 1 0 0,.rf 2 1 0 0,.pt pc,.pt tc,.rf 4 1 0 0]] 0] =
     some ([.pt (nodeL op set kids mn mx md n neg),I d,.rf 1 1 0 0,.rf 2 1 0 0,.pt pc,.pt tc,.rf 4 1 0 0],[b0,.row 1 [I s] 0,.row 1 [.bool g] 0,b3,.row 1 [.clo 81 [.rf 1 1 0 0,.rf 2 1 0 0,.pt pc,.pt tc,.rf 4 1 0 0]] 0]):=fun s g=>
    frzArgs_mix _ _ _ (by simp[mixOk,show pol1.byref 81 2=true from rfl,show pol1.byref 81 3=true from rfl,show pol1.byref 81 4=true from rfl,show pol1.byref 81 5=true from rfl,show pol1.byref 81 6=true from rfl,AV.plain,AV.plainL,plain_span,plain_kids])
   have rt:∀(x:Bool) (s s':Int) (g g':Bool),retPol pol1 81 [b0,.row 1 [I s] 0,.row 1 [.bool g] 0,b3,.row 1 [.clo 81 [.rf 1 1 0 0,.rf 2 1 0 0,.pt pc,.pt tc,.rf 4 1 0 0]] 0] (.bool x) [b0,.row 1 [I s'] 0,.row 1 [.bool g'] 0,b3,.row 1 [.clo 81 [.rf 1 1 0 0,.rf 2 1 0 0,.pt pc,.pt tc,.rf 4 1 0 0]] 0] =
     some (.bool x,[b0,.row 1 [I s'] 0,.row 1 [.bool g'] 0,b3,.row 1 [.clo 81 [.rf 1 1 0 0,.rf 2 1 0 0,.pt pc,.pt tc,.rf 4 1 0 0]] 0]):=fun x s s' g g'=>
    retPol_keep rfl rfl rfl (by simp[keptOk,MB.beq_refl,MB.under,AV.underL,AV.under]) rfl
   have hs1:((s:Int)+1)=((s+1:Nat):Int):=rfl
   subst htc2
   by_cases hc:256 < s+1∨24 < d
   ·refine⟨false,g,s+1,?_,?_,fun h=>by cases h⟩
    ·refine call_run2 (pol:=pol1) Tryz.func81 rfl rfl rfl rfl (fr s g) ?_
     have hc':256 < s+1∨(¬ 256 < s+1∧24 < d):=by omega
     rcases hc' with h1|⟨h1,h2⟩
     all_goals (
      simp +contextual (disch:=omega) only[Tryz.f81,dd81,go_sem,simprocAttr,mu81,↓wrap_up,↓wrap_down,↓wrap_pred,↓wrap_sub_nat,hs1,rt]
      repeat' (first|intro _|apply And.intro|(unfold dOk;kernel_rfl)|exact St.beq_refl _|(show altO _ _ _ _=true;kernel_rfl)|(show (_ || _)=true;kernel_rfl)|(show (_ && _)=true;kernel_rfl)))
    ·rw[hsz,hdz]
     symm;rw[decide_eq_false_iff_not]
     omega
   ·have key:∃ r:AV×List MB,(∃(ok g':Bool) (s':Nat),r=(.bool ok,[b0,.row 1 [I s'] 0,.row 1 [.bool g'] 0,b3,.row 1 [.clo 81 [.rf 1 1 0 0,.rf 2 1 0 0,.pt pc,.pt [I top],.rf 4 1 0 0]] 0]) ∧
      ok=decide (s+(Re.mk op set kids mn mx md n neg).size≤256∧d+(Re.mk op set kids mn mx md n neg).depth≤25)∧(ok=true→s' = s+(Re.mk op set kids mn mx md n neg).size∧g' = (g && wholeG caps top (.mk op set kids mn mx md n neg)))) ∧
      call Tryz.prog pol1 81 [.pt (nodeL op set kids mn mx md n neg),I d,.rf 1 1 0 0,.rf 2 1 0 0,.pt pc,.pt [I top],.rf 4 1 0 0]
       [b0,.row 1 [I s] 0,.row 1 [.bool g] 0,b3,.row 1 [.clo 81 [.rf 1 1 0 0,.rf 2 1 0 0,.pt pc,.pt [I top],.rf 4 1 0 0]] 0]=some r:=by
     rw[hsz,hdz,hwh]
     refine call_run2E (pol:=pol1) Tryz.func81 rfl rfl rfl rfl (fr s g) ?_
     generalize formedG caps top (.mk op set kids mn mx md n neg)=fg at *
     clear hwh hsz hdz
     have hd0:d≤24:=by omega
     have hs0:s+1≤256:=by omega
     cases g
     ·simp +contextual (disch:=omega) only[Tryz.f81,dd81,go_sem,simprocAttr,mu81,↓wrap_up,↓wrap_down,↓wrap_pred,↓wrap_sub_nat,hs1]
      refine W_count (M:=(mskOf (pol1.mask 81) (pol1.gc 81) (pol1.acts 81) 0 6)) rfl kids.length (fun i=>(⟨47,[(32,I i),(31,I kids.length),(6,.rf 4 1 0 0),(1,I d),(0,.pt (nodeL op set kids mn mx md n neg))],[b0,.row 1 [I ((s+1+Re.sizeL (kids.take i):Nat):Int)] 0,.row 1 [.bool (false && wholeL caps top (kids.take i))] 0,b3,.row 1 [.clo 81 [.rf 1 1 0 0,.rf 2 1 0 0,.pt pc,.pt [I top],.rf 4 1 0 0]] 0]⟩:St))
       (fun i=>s+1+Re.sizeL (kids.take i)≤256∧d+1+Re.depthL (kids.take i)≤25) ?_ ?_ ⟨by simp[Re.sizeL];omega,by simp[Re.depthL];omega⟩ _ ?_
      ·rintro i hi ⟨hb1,hb2⟩
       obtain⟨k,hk⟩:∃ k,kids[i]?=some k:=⟨_,List.getElem?_eq_getElem hi⟩
       obtain⟨ok,g2,s2,hcall,hok,himp⟩:=ih k (List.mem_of_getElem? hk) (d+1) (s+1+Re.sizeL (kids.take i)) (false && wholeL caps top (kids.take i)) (by omega) (by omega)
       have e1:=Re.sizeL_take hk
       have e2:=Re.depthL_take hk
       have e3:=wholeL_take (caps:=caps) (top:=top) hk
       have e4:=Re.sizeL_le (l:=kids) (i:=i+1)
       have e5:=Re.depthL_le (l:=kids) (i:=i+1)
       have hl8:=reC_len k
       have ht8:=reC_take k
       have hd1:((d:Int)+1)=((d+1:Nat):Int):=rfl
       cases ok with
       | false=>
         have hcf:=of_decide_eq_false hok.symm
         simp +contextual (disch:=omega) only[Tryz.f81,dd81,go_sem,simprocAttr,mu81,↓wrap_up,↓wrap_down,↓wrap_pred,↓wrap_sub_nat,hk,hl8,ht8,hd1,hcall]
         repeat' (first|intro _|apply And.intro|(unfold dOk;kernel_rfl)|exact St.beq_refl _|(show altO _ _ _ _=true;kernel_rfl)|(show (_ || _)=true;kernel_rfl)|(show (_ && _)=true;kernel_rfl))
         refine⟨_,⟨false,g2,s2,rfl,?_,fun h=>by cases h⟩,rt false _ _ _ _⟩
         symm;rw[decide_eq_false_iff_not];omega
       | true=>
         have hct:=of_decide_eq_true hok.symm
         obtain⟨rfl,rfl⟩:=himp rfl
         rw[e1,e2,e3,← Bool.and_assoc]
         simp +contextual (disch:=omega) only[Tryz.f81,dd81,go_sem,simprocAttr,mu81,↓wrap_up,↓wrap_down,↓wrap_pred,↓wrap_sub_nat,hk,hl8,ht8,hd1,hcall]
         repeat' (first|intro _|apply And.intro|(unfold dOk;kernel_rfl)|exact St.beq_refl _|(show altO _ _ _ _=true;kernel_rfl)|(show (_ || _)=true;kernel_rfl)|(show (_ && _)=true;kernel_rfl))
         rw[Nat.add_assoc (s+1)]
         rfl
      ·rintro⟨hb1,hb2⟩
       rw[List.take_length]at hb1 hb2 ⊢
       simp +contextual (disch:=omega) only[Tryz.f81,dd81,go_sem,simprocAttr,mu81,↓wrap_up,↓wrap_down,↓wrap_pred,↓wrap_sub_nat]
       refine⟨_,⟨true,(false && wholeL caps top kids),s+1+Re.sizeL kids,rfl,?_,fun _=>⟨by omega,by simp⟩⟩,rt true _ _ _ _⟩
       rfl
      ·rfl
     ·simp +contextual (disch:=omega) only[Tryz.f81,dd81,go_sem,simprocAttr,mu81,↓wrap_up,↓wrap_down,↓wrap_pred,↓wrap_sub_nat,hs1,f104',hpc]
      refine W_count (M:=(mskOf (pol1.mask 81) (pol1.gc 81) (pol1.acts 81) 0 6)) rfl kids.length (fun i=>(⟨47,[(32,I i),(31,I kids.length),(6,.rf 4 1 0 0),(1,I d),(0,.pt (nodeL op set kids mn mx md n neg))],[b0,.row 1 [I ((s+1+Re.sizeL (kids.take i):Nat):Int)] 0,.row 1 [.bool (fg && wholeL caps top (kids.take i))] 0,b3,.row 1 [.clo 81 [.rf 1 1 0 0,.rf 2 1 0 0,.pt pc,.pt [I top],.rf 4 1 0 0]] 0]⟩:St))
       (fun i=>s+1+Re.sizeL (kids.take i)≤256∧d+1+Re.depthL (kids.take i)≤25) ?_ ?_ ⟨by simp[Re.sizeL];omega,by simp[Re.depthL];omega⟩ _ ?_
      ·rintro i hi ⟨hb1,hb2⟩
       obtain⟨k,hk⟩:∃ k,kids[i]?=some k:=⟨_,List.getElem?_eq_getElem hi⟩
       obtain⟨ok,g2,s2,hcall,hok,himp⟩:=ih k (List.mem_of_getElem? hk) (d+1) (s+1+Re.sizeL (kids.take i)) (fg && wholeL caps top (kids.take i)) (by omega) (by omega)
       have e1:=Re.sizeL_take hk
       have e2:=Re.depthL_take hk
       have e3:=wholeL_take (caps:=caps) (top:=top) hk
       have e4:=Re.sizeL_le (l:=kids) (i:=i+1)
       have e5:=Re.depthL_le (l:=kids) (i:=i+1)
       have hl8:=reC_len k
       have ht8:=reC_take k
       have hd1:((d:Int)+1)=((d+1:Nat):Int):=rfl
       cases ok with
       | false=>
         have hcf:=of_decide_eq_false hok.symm
         simp +contextual (disch:=omega) only[Tryz.f81,dd81,go_sem,simprocAttr,mu81,↓wrap_up,↓wrap_down,↓wrap_pred,↓wrap_sub_nat,hk,hl8,ht8,hd1,hcall]
         repeat' (first|intro _|apply And.intro|(unfold dOk;kernel_rfl)|exact St.beq_refl _|(show altO _ _ _ _=true;kernel_rfl)|(show (_ || _)=true;kernel_rfl)|(show (_ && _)=true;kernel_rfl))
         refine⟨_,⟨false,g2,s2,rfl,?_,fun h=>by cases h⟩,rt false _ _ _ _⟩
         symm;rw[decide_eq_false_iff_not];omega
       | true=>
         have hct:=of_decide_eq_true hok.symm
         obtain⟨rfl,rfl⟩:=himp rfl
         rw[e1,e2,e3,← Bool.and_assoc]
         simp +contextual (disch:=omega) only[Tryz.f81,dd81,go_sem,simprocAttr,mu81,↓wrap_up,↓wrap_down,↓wrap_pred,↓wrap_sub_nat,hk,hl8,ht8,hd1,hcall]
         repeat' (first|intro _|apply And.intro|(unfold dOk;kernel_rfl)|exact St.beq_refl _|(show altO _ _ _ _=true;kernel_rfl)|(show (_ || _)=true;kernel_rfl)|(show (_ && _)=true;kernel_rfl))
         rw[Nat.add_assoc (s+1)]
         rfl
      ·rintro⟨hb1,hb2⟩
       rw[List.take_length]at hb1 hb2 ⊢
       simp +contextual (disch:=omega) only[Tryz.f81,dd81,go_sem,simprocAttr,mu81,↓wrap_up,↓wrap_down,↓wrap_pred,↓wrap_sub_nat]
       refine⟨_,⟨true,(fg && wholeL caps top kids),s+1+Re.sizeL kids,rfl,?_,fun _=>⟨by omega,by simp⟩⟩,rt true _ _ _ _⟩
       rfl
      ·rw[show (fg && wholeL caps top (List.take 0 kids))=fg by simp[wholeL]]
       rfl
    obtain⟨r,⟨ok,g',s',rfl,h1,h2⟩,h3⟩:=key
    exact⟨ok,g',s',h3,h1,h2⟩
structure Pat where
 re:Re
 caps:Int
 runes:Bool
abbrev patC (p:Pat):List AV:=reC p.re++[I p.caps,.bool p.runes]
abbrev patAV (p:Pat):AV:=.agg (patC p)
theorem plain_patC (p:Pat):AV.plainL (patC p)=true:=by
 rw[plainL_iff]
 intro x hx
 rcases List.mem_append.1 hx with h|h
 ·exact(plainL_iff _).1 (plain_reC p.re) x h
 ·simp at h;rcases h with rfl|rfl<;>rfl
def topI (r:Bool):Int:=if r then 1114111 else 255
theorem topI_le (r:Bool):topI r≤1114111:=by cases r<;>simp[topI]
def validP (p:Pat):Int:=if 256 < p.re.size∨24 < p.re.depth then 4 else if p.caps < 0∨9 < p.caps∨wholeG p.caps (topI p.runes) p.re=false then 1 else 0
theorem f48 (p:Pat) (hw:p.re.wt≤1000000) (H:List MB):call Tryz.prog pol1 49 [patAV p] H=some (I (validP p),H):=by
 obtain⟨re,caps,runes⟩:=p
 simp only at hw
 refine call_run Tryz.func49 rfl rfl rfl rfl rfl rfl (fun _=>rfl) (by simp[AV.plainL,AV.plain];exact plain_patC _) rfl ?_ H
 have hl8:=reC_len re
 have hpl:=plain_patC ⟨re,caps,runes⟩
 have hget8:(reC re++[I caps,.bool runes])[8]?=some (I caps):=by rw[List.getElem?_append_right (by omega),hl8];rfl
 have hget9:(reC re++[I caps,.bool runes])[9]?=some (.bool runes):=by rw[List.getElem?_append_right (by omega),hl8];rfl
 have hz:fz (.rf 0 1 0 0) [.row 10 [.agg (reC re++[I caps,.bool runes])] 0]=some (.pt (reC re++[I caps,.bool runes]),[.row 10 [.agg (reC re++[I caps,.bool runes])] 1]):=
  fz_rf (x:=.agg (reC re++[I caps,.bool runes])) (k:=10) (z:=0) rfl rfl rfl hpl
 have hlen:(reC re).length+(0+1+1)=10:=by omega
 have h102:=f102 runes
 have hall:=reC_ok re
 have hz2:∀(b0 b1 b2:MB) (t:Int),fz (.rf 3 1 0 0) [b0,b1,b2,.row 1 [I t] 0]=some (.pt [I t],[b0,b1,b2,.row 1 [I t] 1]):=fun b0 b1 b2 t=>fz_rf (x:=I t) (k:=1) (z:=0) rfl rfl rfl rfl
 have htk8:∀ l,List.take 8 (reC re++l)=reC re:=fun l=>by
  rw[List.take_append_of_le_length (by omega)];exact List.take_of_length_le (by omega)
 rw[show (if runes=true then(1114111:Int) else 255)=topI runes from rfl]at h102
 have ht:=topI_le runes
 have h103:=fun(b0 b3:MB) (g:Bool)=>f103 b0 b3 (reC re++[I caps,.bool runes]) [I (topI runes)] hpl rfl caps (topI runes) ht hget8 rfl re.wt re (Nat.le_refl _) hw 1 0 g (by omega) (by omega)
 unfold validP
 simp only
 have hcp:(0≤caps∧caps≤9)∨(0≤caps∧¬ caps≤9)∨¬ 0≤caps:=by omega
 generalize topI runes=top at *
 rcases hcp with ⟨hc1,hc2⟩|⟨hc1,hc2⟩|hc1
 ·obtain⟨ok,g',s',hcall,hok,himp⟩:=h103 (.row 10 [.agg (reC re++[I caps,.bool runes])] 1) (.row 1 [I top] 1) true
  rw[show ((1:Nat):Int)=1 from rfl,show ((0:Nat):Int)=0 from rfl]at hcall
  cases ok with
  | false=>
    have hcf:=of_decide_eq_false hok.symm
    rw[if_pos (by omega)]
    simp +contextual (disch:=omega) only[Tryz.f49,dd49,go_sem,simprocAttr,mu49,↓wrap_up,↓wrap_down,↓wrap_pred,↓wrap_sub_nat,hl8,hget8,hget9,hz,hz2,h102,hall,htk8,hcall,List.all_append,lookD,look]
    exact fzEq rfl rfl
  | true=>
    have hct:=of_decide_eq_true hok.symm
    obtain⟨_,hg'⟩:=himp rfl
    rw[if_neg (by omega)]
    cases hwg:wholeG caps top re with
    | true=>
      rw[if_neg (by simp;omega)]
      rw[hwg]at hg'
      simp only[Bool.and_true]at hg'
      subst hg'
      simp +contextual (disch:=omega) only[Tryz.f49,dd49,go_sem,simprocAttr,mu49,↓wrap_up,↓wrap_down,↓wrap_pred,↓wrap_sub_nat,hl8,hget8,hget9,hz,hz2,h102,hall,htk8,hcall,List.all_append,lookD,look]
      exact fzEq rfl rfl
    | false=>
      rw[if_pos (by simp)]
      rw[hwg]at hg'
      simp only[Bool.and_false]at hg'
      subst hg'
      simp +contextual (disch:=omega) only[Tryz.f49,dd49,go_sem,simprocAttr,mu49,↓wrap_up,↓wrap_down,↓wrap_pred,↓wrap_sub_nat,hl8,hget8,hget9,hz,hz2,h102,hall,htk8,hcall,List.all_append,lookD,look]
      exact fzEq rfl rfl
 ·obtain⟨ok,g',s',hcall,hok,himp⟩:=h103 (.row 10 [.agg (reC re++[I caps,.bool runes])] 1) (.row 1 [I top] 1) false
  rw[show ((1:Nat):Int)=1 from rfl,show ((0:Nat):Int)=0 from rfl]at hcall
  cases ok with
  | false=>
    have hcf:=of_decide_eq_false hok.symm
    rw[if_pos (by omega)]
    simp +contextual (disch:=omega) only[Tryz.f49,dd49,go_sem,simprocAttr,mu49,↓wrap_up,↓wrap_down,↓wrap_pred,↓wrap_sub_nat,hl8,hget8,hget9,hz,hz2,h102,hall,htk8,hcall,List.all_append,lookD,look]
    exact fzEq rfl rfl
  | true=>
    have hct:=of_decide_eq_true hok.symm
    obtain⟨_,hg'⟩:=himp rfl
    rw[if_neg (by omega)]
    rw[if_pos (by omega)]
    simp only[Bool.false_and]at hg'
    subst hg'
    simp +contextual (disch:=omega) only[Tryz.f49,dd49,go_sem,simprocAttr,mu49,↓wrap_up,↓wrap_down,↓wrap_pred,↓wrap_sub_nat,hl8,hget8,hget9,hz,hz2,h102,hall,htk8,hcall,List.all_append,lookD,look]
    exact fzEq rfl rfl
 ·obtain⟨ok,g',s',hcall,hok,himp⟩:=h103 (.row 10 [.agg (reC re++[I caps,.bool runes])] 1) (.row 1 [I top] 1) false
  rw[show ((1:Nat):Int)=1 from rfl,show ((0:Nat):Int)=0 from rfl]at hcall
  cases ok with
  | false=>
    have hcf:=of_decide_eq_false hok.symm
    rw[if_pos (by omega)]
    simp +contextual (disch:=omega) only[Tryz.f49,dd49,go_sem,simprocAttr,mu49,↓wrap_up,↓wrap_down,↓wrap_pred,↓wrap_sub_nat,hl8,hget8,hget9,hz,hz2,h102,hall,htk8,hcall,List.all_append,lookD,look]
    exact fzEq rfl rfl
  | true=>
    have hct:=of_decide_eq_true hok.symm
    obtain⟨_,hg'⟩:=himp rfl
    rw[if_neg (by omega)]
    rw[if_pos (by omega)]
    simp only[Bool.false_and]at hg'
    subst hg'
    simp +contextual (disch:=omega) only[Tryz.f49,dd49,go_sem,simprocAttr,mu49,↓wrap_up,↓wrap_down,↓wrap_pred,↓wrap_sub_nat,hl8,hget8,hget9,hz,hz2,h102,hall,htk8,hcall,List.all_append,lookD,look]
    exact fzEq rfl rfl
end
section
attribute [local go_sem] evAppend List.map_append
open Go.Proofs Go.RowKit Go.IntWalk
set_option maxRecDepth 100000
set_option maxHeartbeats 8000000
theorem f150 (op:Int) (H:List MB):call Tryz.prog pol1 134 [I op] H =
  some (.tup [I (if op=2∨op=3 then 2 else if op=4∨op=5∨op=7∨op=8∨op=9 then 1 else if op=10 then 2 else 0),I (if op=2∨op=3 then -1 else if op=4∨op=5∨op=7∨op=8∨op=9 then 1 else if op=10 then 2 else 0)],H):=by
 refine call_run Tryz.func134 rfl rfl rfl rfl rfl rfl (fun _=>rfl) rfl rfl ?_ H
 by_cases h1:op=2∨op=3
 ·rw[if_pos h1,if_pos h1]
  rcases h1 with rfl|rfl
  all_goals (
   simp +contextual (disch:=omega) only[Tryz.f134,dd134,go_sem,simprocAttr,mu134,↓wrap_up,↓wrap_down,↓wrap_pred,↓wrap_sub_nat]
   exact fzEq rfl rfl)
 ·rw[if_neg h1,if_neg h1]
  by_cases h2:op=4∨op=5∨op=7∨op=8∨op=9
  ·rw[if_pos h2]
   rcases h2 with rfl|rfl|rfl|rfl|rfl
   all_goals (
    simp +contextual (disch:=omega) only[Tryz.f134,dd134,go_sem,simprocAttr,mu134,↓wrap_up,↓wrap_down,↓wrap_pred,↓wrap_sub_nat]
    exact fzEq rfl rfl)
  ·rw[if_neg h2]
   by_cases h3:op=10
   ·rw[if_pos h3]
    subst h3
    simp +contextual (disch:=omega) only[Tryz.f134,dd134,go_sem,simprocAttr,mu134,↓wrap_up,↓wrap_down,↓wrap_pred,↓wrap_sub_nat]
    exact fzEq rfl rfl
   ·rw[if_neg h3]
    simp +contextual (disch:=omega) only[Tryz.f134,dd134,go_sem,simprocAttr,mu134,↓wrap_up,↓wrap_down,↓wrap_pred,↓wrap_sub_nat]
    exact fzEq rfl rfl
theorem f151 (l:List (Int×Int)) (top:Int) (ht:top≤1114111) (hl:l.length≤1000000) (H:List MB):call Tryz.prog pol1 135 [.sl false (l.map spanAV),I top] H=some (.bool (spansG l top),H):=by
 refine call_run Tryz.func135 rfl rfl rfl rfl rfl rfl (fun _=>rfl) (by simp[AV.plain,AV.plainL,plain_span]) rfl ?_ H
 by_cases h64:64 < l.length
 ·rw[spansG_long h64]
  simp +contextual (disch:=omega) only[Tryz.f135,dd135,go_sem,simprocAttr,mu135,↓wrap_up,↓wrap_down,↓wrap_pred,↓wrap_sub_nat]
  exact fzEq rfl rfl
 ·simp +contextual (disch:=omega) only[Tryz.f135,dd135,go_sem,simprocAttr,mu135,↓wrap_up,↓wrap_down,↓wrap_pred,↓wrap_sub_nat]
  refine W_count (M:=(mskOf (pol1.mask 135) (pol1.gc 135) (pol1.acts 135) 0 4)) rfl l.length (fun i=>(⟨62,[(5,I i),(1,I top),(0,.sl false (l.map spanAV))],[]⟩:St)) (fun i=>∀ k,k < i→badS l top k=false) ?_ ?_ (fun k h=>by omega) _ (by first|rfl|(refine prep_to (n:=0) (m:=⟨some [5,1,0],some 0,[]⟩) rfl rfl ?_ ?_ ?_<;>first|rfl|(simp[keepT,AV.underL,AV.under,MB.under,underL_plain,under_plain,underL_append,plain_ints,plain_span,plain_ins,plain_prg,-List.map_take,-List.map_replicate,-List.map_set];done)|(simp[keepT,AV.underL,AV.under,MB.under,underL_plain,under_plain,underL_append,plain_ints,plain_span,plain_ins,plain_prg,-List.map_take,-List.map_replicate,-List.map_set];omega)))
  ·intro i hlt hg
   obtain⟨p,hp⟩:∃ p,l[i]?=some p:=⟨_,List.getElem?_eq_getElem hlt⟩
   have ext:badS l top i=false→∀ k,k < i+1→badS l top k=false:=fun h k hk=>by
    rcases Nat.lt_or_ge k i with h1|h1
    ·exact hg k h1
    ·obtain rfl:k=i:=by omega
     exact h
   by_cases hgd:p.1 < 0∨p.2 < p.1∨top < p.2
   ·rw[spansG_bad hlt (badS_lt hp hgd)]
    have hgd':p.1 < 0∨(¬ p.1 < 0∧p.2 < p.1)∨(¬ p.1 < 0∧¬ p.2 < p.1∧top < p.2):=by omega
    rcases hgd' with h|⟨h,h'⟩|⟨h,h',h''⟩
    all_goals (
     simp +contextual (disch:=omega) only[Tryz.f135,dd135,go_sem,simprocAttr,mu135,↓wrap_up,↓wrap_down,↓wrap_pred,↓wrap_sub_nat,hp,spanAV]
     repeat' (first|intro _|apply And.intro|(unfold dOk;kernel_rfl)|exact St.beq_refl _|(show altO _ _ _ _=true;kernel_rfl)|(show (_ || _)=true;kernel_rfl)|(show (_ && _)=true;kernel_rfl))
     all_goals exact fzEq rfl rfl)
   ·rcases i with _|i
    ·simp +contextual (disch:=omega) only[Tryz.f135,dd135,go_sem,simprocAttr,mu135,↓wrap_up,↓wrap_down,↓wrap_pred,↓wrap_sub_nat,hp,spanAV]
     repeat' (first|intro _|apply And.intro|(unfold dOk;kernel_rfl)|exact St.beq_refl _|(show altO _ _ _ _=true;kernel_rfl)|(show (_ || _)=true;kernel_rfl)|(show (_ && _)=true;kernel_rfl))
     ·exact ext (badS_zero hp hgd) _ ‹_›
     ·exact(by first|rfl|(refine prep_to (n:=0) (m:=⟨some [5,1,0],some 0,[]⟩) rfl rfl ?_ ?_ ?_<;>first|rfl|(simp[keepT,AV.underL,AV.under,MB.under,underL_plain,under_plain,underL_append,plain_ints,plain_span,plain_ins,plain_prg,-List.map_take,-List.map_replicate,-List.map_set];done)|(simp[keepT,AV.underL,AV.under,MB.under,underL_plain,under_plain,underL_append,plain_ints,plain_span,plain_ins,plain_prg,-List.map_take,-List.map_replicate,-List.map_set];omega)))
    ·obtain⟨q,hq⟩:∃ q,l[i]?=some q:=⟨_,List.getElem?_eq_getElem (by omega)⟩
     have hqb:=badS_hi hq (hg i (by omega))
     have hb:=badS_succ hp hq hgd
     by_cases h2:p.1 < q.2+2
     ·rw[spansG_bad hlt (by rw[hb];simp[h2])]
      simp +contextual (disch:=omega) only[Tryz.f135,dd135,go_sem,simprocAttr,mu135,↓wrap_up,↓wrap_down,↓wrap_pred,↓wrap_sub_nat,hp,hq,spanAV]
      repeat' (first|intro _|apply And.intro|(unfold dOk;kernel_rfl)|exact St.beq_refl _|(show altO _ _ _ _=true;kernel_rfl)|(show (_ || _)=true;kernel_rfl)|(show (_ && _)=true;kernel_rfl))
      all_goals exact fzEq rfl rfl
     ·simp +contextual (disch:=omega) only[Tryz.f135,dd135,go_sem,simprocAttr,mu135,↓wrap_up,↓wrap_down,↓wrap_pred,↓wrap_sub_nat,hp,hq,spanAV]
      repeat' (first|intro _|apply And.intro|(unfold dOk;kernel_rfl)|exact St.beq_refl _|(show altO _ _ _ _=true;kernel_rfl)|(show (_ || _)=true;kernel_rfl)|(show (_ && _)=true;kernel_rfl))
      ·exact ext (by rw[hb];simp[h2]) _ ‹_›
      ·exact(by first|rfl|(refine prep_to (n:=0) (m:=⟨some [5,1,0],some 0,[]⟩) rfl rfl ?_ ?_ ?_<;>first|rfl|(simp[keepT,AV.underL,AV.under,MB.under,underL_plain,under_plain,underL_append,plain_ints,plain_span,plain_ins,plain_prg,-List.map_take,-List.map_replicate,-List.map_set];done)|(simp[keepT,AV.underL,AV.under,MB.under,underL_plain,under_plain,underL_append,plain_ints,plain_span,plain_ins,plain_prg,-List.map_take,-List.map_replicate,-List.map_set];omega)))
  ·intro hg
   rw[spansG_good (by omega) hg]
   simp +contextual (disch:=omega) only[Tryz.f135,dd135,go_sem,simprocAttr,mu135,↓wrap_up,↓wrap_down,↓wrap_pred,↓wrap_sub_nat]
   exact fzEq rfl rfl
theorem f135 (caps top:Int) (ht:top≤1114111) (op:Int) (set:List (Int×Int)) (kids:List Re) (mn mx md n:Int) (neg:Bool) (hs:set.length≤1000000) (hk:kids.length≤1000000) (H:List MB) :
  call Tryz.prog pol1 99 [.agg (nodeL op set kids mn mx md n neg),I caps,I top] H=some (.bool (formedG caps top (.mk op set kids mn mx md n neg)),H):=by
 refine call_run Tryz.func99 rfl rfl rfl rfl rfl rfl (fun _=>rfl) (by simp[AV.plain,AV.plainL,plain_span,plain_kids]) rfl ?_ H
 have h151:=f151 set top ht hs
 have h150:=f150 op
 by_cases h0:op < 0∨11 < op
 ·have e:formedG caps top (.mk op set kids mn mx md n neg)=false:=by
   have:¬ (0≤op∧op≤11):=by omega
   simp only[formedG,Bool.and_eq_false_iff,decide_eq_false_iff_not]
   omega
  rw[e]
  have h0':op < 0∨(¬ op < 0∧11 < op):=by omega
  rcases h0' with h|⟨h,h'⟩
  all_goals (
   simp +contextual (disch:=omega) only[Tryz.f99,dd99,go_sem,simprocAttr,mu99,↓wrap_up,↓wrap_down,↓wrap_pred,↓wrap_sub_nat,h150]
   repeat' (first|intro _|apply And.intro|(unfold dOk;kernel_rfl)|exact St.beq_refl _|(show altO _ _ _ _=true;kernel_rfl)|(show (_ || _)=true;kernel_rfl)|(show (_ && _)=true;kernel_rfl))
   all_goals exact fzEq rfl rfl)
 have hop:op=1∨op=4∨op=0∨op=2∨op=3∨op=5∨op=6∨op=7∨op=8∨op=9∨op=10∨op=11:=by omega
 clear h0
 rcases hop with rfl|rfl|rfl|rfl|rfl|rfl|rfl|rfl|rfl|rfl|rfl|rfl
 ·cases hsp:spansG set top
  all_goals (
   rw[hsp]at h151
   simp at h150
   cases neg <;>
   simp +contextual (disch:=omega) only[Tryz.f99,dd99,go_sem,simprocAttr,mu99,↓wrap_up,↓wrap_down,↓wrap_pred,↓wrap_sub_nat,h150,h151]
   repeat' (first|intro _|apply And.intro|(unfold dOk;kernel_rfl)|exact St.beq_refl _|(show altO _ _ _ _=true;kernel_rfl)|(show (_ || _)=true;kernel_rfl)|(show (_ && _)=true;kernel_rfl))
   all_goals (clear h151 h150;refine fzEq rfl (congrArg AV.bool ?_);first|(simp_all [formedG,kidsG,repG,-List.length_eq_zero_iff];done)|(simp_all [formedG,kidsG,repG,-List.length_eq_zero_iff];omega)))
 all_goals (
  simp at h150
  cases neg <;>
  simp +contextual (disch:=omega) only[Tryz.f99,dd99,go_sem,simprocAttr,mu99,↓wrap_up,↓wrap_down,↓wrap_pred,↓wrap_sub_nat,h150]
  repeat' (first|intro _|apply And.intro|(unfold dOk;kernel_rfl)|exact St.beq_refl _|(show altO _ _ _ _=true;kernel_rfl)|(show (_ || _)=true;kernel_rfl)|(show (_ && _)=true;kernel_rfl))
  all_goals (clear h151 h150;refine fzEq rfl (congrArg AV.bool ?_);first|(simp_all [formedG,kidsG,repG,-List.length_eq_zero_iff];done)|(simp_all [formedG,kidsG,repG,-List.length_eq_zero_iff];omega)))
end
section
attribute [local go_sem] evAppend List.map_append
open Go.Proofs Go.RowKit Go.IntWalk
set_option maxRecDepth 100000
set_option maxHeartbeats 8000000
theorem f114 (caps top:Int) (ht:top≤1114111):∀(N:Nat) (r:Re),r.wt≤N→r.wt≤1000000→∀ H,call Tryz.prog pol1 63 [reAV r,I caps,I top] H=some (.bool (wholeG caps top r),H)
 | 0,r,h,_,_=>by have:=r.wt_pos;omega
 | N+1,.mk op set kids mn mx md n neg,h,hN,H=>by
   have hkl:=Re.wtL_len kids
   have hwt:1+set.length+Re.wtL kids=(Re.mk op set kids mn mx md n neg).wt:=by simp[Re.wt]
   have ih:=fun k (hk:k∈kids)=>f114 caps top ht N k (by have:=Re.wtL_mem hk;omega) (by have:=Re.wtL_mem hk;omega)
   have h135:=f135 caps top ht op set kids mn mx md n neg (by omega) (by omega)
   rw[show reAV (.mk op set kids mn mx md n neg)=.agg (nodeL op set kids mn mx md n neg) from congrArg AV.agg reC_mk]
   refine call_run Tryz.func63 rfl rfl rfl rfl rfl rfl (fun _=>rfl) (by simp[AV.plain,AV.plainL,plain_span,plain_kids]) rfl ?_ H
   rw[wholeG]
   cases hfg:formedG caps top (.mk op set kids mn mx md n neg) with
   | false=>
     rw[hfg]at h135
     simp +contextual (disch:=omega) only[Tryz.f63,dd63,go_sem,simprocAttr,mu63,↓wrap_up,↓wrap_down,↓wrap_pred,↓wrap_sub_nat,h135]
     exact fzEq rfl rfl
   | true=>
     rw[hfg]at h135
     simp +contextual (disch:=omega) only[Tryz.f63,dd63,go_sem,simprocAttr,mu63,↓wrap_up,↓wrap_down,↓wrap_pred,↓wrap_sub_nat,h135]
     refine W_count (M:=(mskOf (pol1.mask 63) (pol1.gc 63) (pol1.acts 63) 0 4)) rfl kids.length (fun i=>(⟨29,[(7,I i),(3,.rf 0 1 0 0),(2,I top),(1,I caps)],[.row 8 [.agg (nodeL op set kids mn mx md n neg)] 0]⟩:St)) (fun i=>wholeL caps top (kids.take i)=true) ?_ ?_ (by simp[wholeL]) _ (by first|rfl|(refine prep_to (n:=1) (m:=⟨some [7,3,2,1],some 1,[]⟩) rfl rfl ?_ ?_ ?_<;>first|rfl|(simp[keepT,AV.underL,AV.under,MB.under,underL_plain,under_plain,underL_append,plain_ints,plain_span,plain_ins,plain_prg,-List.map_take,-List.map_replicate,-List.map_set,plain_kids];done)|(simp[keepT,AV.underL,AV.under,MB.under,underL_plain,under_plain,underL_append,plain_ints,plain_span,plain_ins,plain_prg,-List.map_take,-List.map_replicate,-List.map_set,plain_kids];omega)))
     ·intro i hi hg
      obtain⟨k,hk⟩:∃ k,kids[i]?=some k:=⟨_,List.getElem?_eq_getElem hi⟩
      have ihk:=ih k (List.mem_of_getElem? hk)
      have hl8:=reC_len k
      have ht8:=reC_take k
      have e3:=wholeL_take (caps:=caps) (top:=top) hk
      cases hn:wholeG caps top k with
      | false=>
        rw[hn]at ihk
        have hf:wholeL caps top kids=false:=by
         rw[Bool.eq_false_iff]
         intro hw
         rw[wholeL_iff]at hw
         have:=hw k (List.mem_of_getElem? hk)
         rw[hn]at this;cases this
        rw[hf]
        simp +contextual (disch:=omega) only[Tryz.f63,dd63,go_sem,simprocAttr,mu63,↓wrap_up,↓wrap_down,↓wrap_pred,↓wrap_sub_nat,hk,ihk,hl8,ht8]
        exact fzEq rfl rfl
      | true=>
        rw[hn]at ihk
        rw[e3,hg,hn]
        simp +contextual (disch:=omega) only[Tryz.f63,dd63,go_sem,simprocAttr,mu63,↓wrap_up,↓wrap_down,↓wrap_pred,↓wrap_sub_nat,hk,ihk,hl8,ht8]
        exact(by first|rfl|(refine prep_to (n:=1) (m:=⟨some [7,3,2,1],some 1,[]⟩) rfl rfl ?_ ?_ ?_<;>first|rfl|(simp[keepT,AV.underL,AV.under,MB.under,underL_plain,under_plain,underL_append,plain_ints,plain_span,plain_ins,plain_prg,-List.map_take,-List.map_replicate,-List.map_set,plain_kids];done)|(simp[keepT,AV.underL,AV.under,MB.under,underL_plain,under_plain,underL_append,plain_ints,plain_span,plain_ins,plain_prg,-List.map_take,-List.map_replicate,-List.map_set,plain_kids];omega)))
     ·intro hg
      rw[List.take_length]at hg
      rw[hg]
      simp +contextual (disch:=omega) only[Tryz.f63,dd63,go_sem,simprocAttr,mu63,↓wrap_up,↓wrap_down,↓wrap_pred,↓wrap_sub_nat]
      exact fzEq rfl rfl
theorem f52 (p:Pat) (hw:p.re.wt≤1000000) (H:List MB):call Tryz.prog pol1 29 [patAV p] H=some (I (validP p),H):=by
 obtain⟨re,caps,runes⟩:=p
 simp only at hw
 refine call_run Tryz.func29 rfl rfl rfl rfl rfl rfl (fun _=>rfl) (by simp[AV.plainL,AV.plain];exact plain_patC _) rfl ?_ H
 have hl8:=reC_len re
 have hget8:(reC re++[I caps,.bool runes])[8]?=some (I caps):=by rw[List.getElem?_append_right (by omega),hl8];rfl
 have hget9:(reC re++[I caps,.bool runes])[9]?=some (.bool runes):=by rw[List.getElem?_append_right (by omega),hl8];rfl
 have htk8:∀ l,List.take 8 (reC re++l)=reC re:=fun l=>by
  rw[List.take_append_of_le_length (by omega)];exact List.take_of_length_le (by omega)
 have hall:=reC_ok re
 have h112:=f112 re.wt re (Nat.le_refl _) hw
 have h113:=f113 re.wt re (Nat.le_refl _) hw
 have h114:=f114 caps (topI runes) (topI_le runes) re.wt re (Nat.le_refl _) hw
 have hsw:=re.size_wt
 cases runes
 ·rw[show topI false=255 from rfl]at h114
  by_cases h1:256 < re.size
  ·rw[show validP ⟨re,caps,false⟩=4 from if_pos (.inl h1)]
   simp +contextual (disch:=omega) only[Tryz.f29,dd29,go_sem,simprocAttr,mu29,↓wrap_up,↓wrap_down,↓wrap_pred,↓wrap_sub_nat,hl8,hget8,hget9,h112,h113,hall,htk8,List.all_append]
   repeat' (first|intro _|apply And.intro|(unfold dOk;kernel_rfl)|exact St.beq_refl _|(show altO _ _ _ _=true;kernel_rfl)|(show (_ || _)=true;kernel_rfl)|(show (_ && _)=true;kernel_rfl))
   all_goals exact fzEq rfl rfl
  by_cases h2:24 < re.depth
  ·rw[show validP ⟨re,caps,false⟩=4 from if_pos (.inr h2)]
   simp +contextual (disch:=omega) only[Tryz.f29,dd29,go_sem,simprocAttr,mu29,↓wrap_up,↓wrap_down,↓wrap_pred,↓wrap_sub_nat,hl8,hget8,hget9,h112,h113,hall,htk8,List.all_append]
   repeat' (first|intro _|apply And.intro|(unfold dOk;kernel_rfl)|exact St.beq_refl _|(show altO _ _ _ _=true;kernel_rfl)|(show (_ || _)=true;kernel_rfl)|(show (_ && _)=true;kernel_rfl))
   all_goals exact fzEq rfl rfl
  have hno:¬ (256 < re.size∨24 < re.depth):=by omega
  have hcp:(caps < 0)∨(¬ caps < 0∧9 < caps)∨(¬ caps < 0∧¬ 9 < caps):=by omega
  rcases hcp with h3|⟨h3,h4⟩|⟨h3,h4⟩
  ·rw[show validP ⟨re,caps,false⟩=1 from(if_neg hno).trans (if_pos (.inl h3))]
   simp +contextual (disch:=omega) only[Tryz.f29,dd29,go_sem,simprocAttr,mu29,↓wrap_up,↓wrap_down,↓wrap_pred,↓wrap_sub_nat,hl8,hget8,hget9,h112,h113,hall,htk8,List.all_append]
   repeat' (first|intro _|apply And.intro|(unfold dOk;kernel_rfl)|exact St.beq_refl _|(show altO _ _ _ _=true;kernel_rfl)|(show (_ || _)=true;kernel_rfl)|(show (_ && _)=true;kernel_rfl))
   all_goals exact fzEq rfl rfl
  ·rw[show validP ⟨re,caps,false⟩=1 from(if_neg hno).trans (if_pos (.inr (.inl h4)))]
   simp +contextual (disch:=omega) only[Tryz.f29,dd29,go_sem,simprocAttr,mu29,↓wrap_up,↓wrap_down,↓wrap_pred,↓wrap_sub_nat,hl8,hget8,hget9,h112,h113,hall,htk8,List.all_append]
   repeat' (first|intro _|apply And.intro|(unfold dOk;kernel_rfl)|exact St.beq_refl _|(show altO _ _ _ _=true;kernel_rfl)|(show (_ || _)=true;kernel_rfl)|(show (_ && _)=true;kernel_rfl))
   all_goals exact fzEq rfl rfl
  ·cases hwg:wholeG caps 255 re with
   | true=>
     rw[hwg]at h114
     rw[show validP ⟨re,caps,false⟩=0 from(if_neg hno).trans (if_neg (by simp only[topI,Bool.false_eq_true,if_false,if_true,hwg];simp;omega))]
     simp +contextual (disch:=omega) only[Tryz.f29,dd29,go_sem,simprocAttr,mu29,↓wrap_up,↓wrap_down,↓wrap_pred,↓wrap_sub_nat,hl8,hget8,hget9,h112,h113,h114,hall,htk8,List.all_append]
     repeat' (first|intro _|apply And.intro|(unfold dOk;kernel_rfl)|exact St.beq_refl _|(show altO _ _ _ _=true;kernel_rfl)|(show (_ || _)=true;kernel_rfl)|(show (_ && _)=true;kernel_rfl))
     all_goals exact fzEq rfl rfl
   | false=>
     rw[hwg]at h114
     rw[show validP ⟨re,caps,false⟩=1 from(if_neg hno).trans (if_pos (.inr (.inr hwg)))]
     simp +contextual (disch:=omega) only[Tryz.f29,dd29,go_sem,simprocAttr,mu29,↓wrap_up,↓wrap_down,↓wrap_pred,↓wrap_sub_nat,hl8,hget8,hget9,h112,h113,h114,hall,htk8,List.all_append]
     repeat' (first|intro _|apply And.intro|(unfold dOk;kernel_rfl)|exact St.beq_refl _|(show altO _ _ _ _=true;kernel_rfl)|(show (_ || _)=true;kernel_rfl)|(show (_ && _)=true;kernel_rfl))
     all_goals exact fzEq rfl rfl
 ·rw[show topI true=1114111 from rfl]at h114
  by_cases h1:256 < re.size
  ·rw[show validP ⟨re,caps,true⟩=4 from if_pos (.inl h1)]
   simp +contextual (disch:=omega) only[Tryz.f29,dd29,go_sem,simprocAttr,mu29,↓wrap_up,↓wrap_down,↓wrap_pred,↓wrap_sub_nat,hl8,hget8,hget9,h112,h113,hall,htk8,List.all_append]
   repeat' (first|intro _|apply And.intro|(unfold dOk;kernel_rfl)|exact St.beq_refl _|(show altO _ _ _ _=true;kernel_rfl)|(show (_ || _)=true;kernel_rfl)|(show (_ && _)=true;kernel_rfl))
   all_goals exact fzEq rfl rfl
  by_cases h2:24 < re.depth
  ·rw[show validP ⟨re,caps,true⟩=4 from if_pos (.inr h2)]
   simp +contextual (disch:=omega) only[Tryz.f29,dd29,go_sem,simprocAttr,mu29,↓wrap_up,↓wrap_down,↓wrap_pred,↓wrap_sub_nat,hl8,hget8,hget9,h112,h113,hall,htk8,List.all_append]
   repeat' (first|intro _|apply And.intro|(unfold dOk;kernel_rfl)|exact St.beq_refl _|(show altO _ _ _ _=true;kernel_rfl)|(show (_ || _)=true;kernel_rfl)|(show (_ && _)=true;kernel_rfl))
   all_goals exact fzEq rfl rfl
  have hno:¬ (256 < re.size∨24 < re.depth):=by omega
  have hcp:(caps < 0)∨(¬ caps < 0∧9 < caps)∨(¬ caps < 0∧¬ 9 < caps):=by omega
  rcases hcp with h3|⟨h3,h4⟩|⟨h3,h4⟩
  ·rw[show validP ⟨re,caps,true⟩=1 from(if_neg hno).trans (if_pos (.inl h3))]
   simp +contextual (disch:=omega) only[Tryz.f29,dd29,go_sem,simprocAttr,mu29,↓wrap_up,↓wrap_down,↓wrap_pred,↓wrap_sub_nat,hl8,hget8,hget9,h112,h113,hall,htk8,List.all_append]
   repeat' (first|intro _|apply And.intro|(unfold dOk;kernel_rfl)|exact St.beq_refl _|(show altO _ _ _ _=true;kernel_rfl)|(show (_ || _)=true;kernel_rfl)|(show (_ && _)=true;kernel_rfl))
   all_goals exact fzEq rfl rfl
  ·rw[show validP ⟨re,caps,true⟩=1 from(if_neg hno).trans (if_pos (.inr (.inl h4)))]
   simp +contextual (disch:=omega) only[Tryz.f29,dd29,go_sem,simprocAttr,mu29,↓wrap_up,↓wrap_down,↓wrap_pred,↓wrap_sub_nat,hl8,hget8,hget9,h112,h113,hall,htk8,List.all_append]
   repeat' (first|intro _|apply And.intro|(unfold dOk;kernel_rfl)|exact St.beq_refl _|(show altO _ _ _ _=true;kernel_rfl)|(show (_ || _)=true;kernel_rfl)|(show (_ && _)=true;kernel_rfl))
   all_goals exact fzEq rfl rfl
  ·cases hwg:wholeG caps 1114111 re with
   | true=>
     rw[hwg]at h114
     rw[show validP ⟨re,caps,true⟩=0 from(if_neg hno).trans (if_neg (by simp only[topI,Bool.false_eq_true,if_false,if_true,hwg];simp;omega))]
     simp +contextual (disch:=omega) only[Tryz.f29,dd29,go_sem,simprocAttr,mu29,↓wrap_up,↓wrap_down,↓wrap_pred,↓wrap_sub_nat,hl8,hget8,hget9,h112,h113,h114,hall,htk8,List.all_append]
     repeat' (first|intro _|apply And.intro|(unfold dOk;kernel_rfl)|exact St.beq_refl _|(show altO _ _ _ _=true;kernel_rfl)|(show (_ || _)=true;kernel_rfl)|(show (_ && _)=true;kernel_rfl))
     all_goals exact fzEq rfl rfl
   | false=>
     rw[hwg]at h114
     rw[show validP ⟨re,caps,true⟩=1 from(if_neg hno).trans (if_pos (.inr (.inr hwg)))]
     simp +contextual (disch:=omega) only[Tryz.f29,dd29,go_sem,simprocAttr,mu29,↓wrap_up,↓wrap_down,↓wrap_pred,↓wrap_sub_nat,hl8,hget8,hget9,h112,h113,h114,hall,htk8,List.all_append]
     repeat' (first|intro _|apply And.intro|(unfold dOk;kernel_rfl)|exact St.beq_refl _|(show altO _ _ _ _=true;kernel_rfl)|(show (_ || _)=true;kernel_rfl)|(show (_ && _)=true;kernel_rfl))
     all_goals exact fzEq rfl rfl
end
section
attribute [local go_sem] List.map_append
open Go.Proofs Go.RowKit Go.IntWalk
set_option maxRecDepth 100000
set_option maxHeartbeats 8000000
def compP (p:Pat):Prg×Int:=
 if validP p=0 then
  if compG [] p.re=true then
   if lenG p.re+1≤8192 then(⟨codeG p.re 0++[⟨0,0,0,0,[]⟩],p.caps,p.runes⟩,0) else(⟨[],0,false⟩,4)
  else(⟨[],0,false⟩,10)
 else(⟨[],0,false⟩,validP p)
theorem valid_facts {p:Pat} (h:validP p=0):p.re.size≤256∧p.re.depth≤24∧0≤p.caps∧p.caps≤9∧wholeG p.caps (topI p.runes) p.re=true:=by
 unfold validP at h
 split at h
 ·cases h
 ·split at h
  ·cases h
  ·rename_i h1 h2
   cases hw:wholeG p.caps (topI p.runes) p.re with
   | true=>exact⟨by omega,by omega,by omega,by omega,rfl⟩
   | false=>exact absurd (.inr (.inr hw)) h2
theorem f53n (caps top:Int) (r:Re) (hN:r.wt≤1000000) (hw:wholeG caps top r=true) (H:List MB):call Tryz.prog pol1 28 [reAV r,.sl true []] H=some (.bool (compG [] r),H):=by
 rw[← f53 caps top r.wt r [] (Nat.le_refl _) hN (by simp;omega) hw H]
 refine call_frz' rfl ?_ (by simp[AV.plain,AV.plainL,plain_reC])
 have hby:∀ i,pol1.byref 28 i=false:=fun i=>rfl
 have hz:fz (reAV r) H=some (reAV r,H):=fz_plain _ (by simp[AV.plain,plain_reC])
 have h2:fz (.sl true []) H=some (.sl false [],H):=rfl
 simp only[frzArgs,hby,Bool.false_eq_true,if_false,hz,h2,List.map_nil]
theorem fin_prg {H:List MB} {id n:Nat} {els:List AV} {c:List Ins} (caps:Int) (runes:Bool) (hl:els.length=n) (hk:∀ j H,fzL j els H=some (c.map insAV,H)) (hr:getRow H id=some (5,els,0)) :
  ∃ H',fz (.tup [.agg [.ms id 5 n 0 n,I caps,.bool runes],I 0]) H=some (.tup [prgAV ⟨c,caps,runes⟩,I 0],H'):=by
 have h2:fzA (fzJ 6) (.ms id 5 n 0 n) H=some (.sl false (c.map insAV),mark H id n):=by
  have:=fzA_ms (n:=5) (off:=0) (len:=n) (ys:=c.map insAV) (H':=mark H id (0+n)) hr hl (by omega) (by rw[List.drop_zero,List.take_of_length_le (by omega)];exact hk _ _)
  rwa [Nat.zero_add]at this
 refine⟨mark H id n,?_⟩
 simp only[fz,fzA_tup,fzA_agg,fzL,h2,fzA_int]
 rfl
end
section
open Go.Proofs Go.RowKit Go.IntWalk
set_option maxRecDepth 100000
set_option maxHeartbeats 8000000
theorem app_oneP {H:List MB} {i n z:Nat} {els:List AV} {y:AV} {t:Bool} (hi:getRow H i=some (5,els,z)) (hn:els.length=n) (hy:(decide (y.cells.length=5) && y.cells.all AV.ok)=true) (hz:z≤n) (hr:n+1≤4000000000) :
  evAppend Tryz.prog H 46 46 (.ms i 5 n 0 n) (.sl t [y])=some (.ms i 5 (n+1) 0 (n+1),H.set i (.row 5 (els++[y]) z)):=by
 have hs:srcElems Tryz.prog H 91 (.sl t [y])=some [y]:=rfl
 rw[evAppend_end (e:=91) (by kernel_rfl) (by kernel_rfl) (k:=5) (by kernel_rfl) (by_:=56) (by kernel_rfl) (ze:=.agg [I 0,I 0,I 0,I 0,.sl true []]) (by kernel_rfl) rfl (by omega) hs (by simp only[List.all_cons,List.all_nil,hy,Bool.and_true]) hi hn hz (room_ok hr (by omega))]
 rfl
theorem keptOk_app:∀(n:Nat) (l m:List MB),keptOk n l (l++m)=true
 | _,[],_=>rfl
 | n,x::xs,m=>by simp[keptOk,MB.beq_refl,keptOk_app n xs m]
theorem get_last {α:Type} (K:List α) (b:α):(K++[b])[K.length]?=some b:=by simp
theorem set_last {α:Type} (K:List α) (b c:α):(K++[b]).set K.length c=K++[c]:=by simp
abbrev codeH (C:List Ins) (n:Nat) (R:List MB):List MB:=.row 1 [.ms 1 5 n 0 n] 0::.row 5 (C.map insAV) 0::R
theorem kept_code {C C':List Ins} {n n' m:Nat} {R S:List MB} (hm:2≤m):keptOk m (codeH C n R) (codeH C' n' (R++S))=true:=by
 simp[keptOk,keptOk_app,MB.under,AV.underL,AV.under,underL_plain _ _ (plain_ins C')]
 omega
theorem f107 (a b c d:Int) (t:Bool) (s:List (Int×Int)) (C:List Ins) (n:Nat) (R:List MB) (hn:C.length=n) (hb:n≤1000000) :
  call Tryz.prog pol1 85 [.agg [I a,I b,I c,I d,.sl t (s.map spanAV)],.rf 0 1 0 0] (codeH C n R)=some (I n,codeH (C++[⟨a,b,c,d,s⟩]) (n+1) R):=by
 have fr:frzArgs pol1 85 0 [.agg [I a,I b,I c,I d,.sl t (s.map spanAV)],.rf 0 1 0 0] (codeH C n R)=some ([.agg [I a,I b,I c,I d,.sl false (s.map spanAV)],.rf 0 1 0 0],codeH C n R):=by
  have h0:pol1.byref 85 0=false:=rfl
  have h1:pol1.byref 85 1=true:=rfl
  have h2:∀ H,fzL (fzJ 6) (s.map spanAV) H=some (s.map spanAV,H):=fun H=>fzL_plain _ _ H (plain_span s)
  simp only[frzArgs,h0,h1,Bool.false_eq_true,if_false,if_true,fz,fzA,fzL,h2]
 refine call_run2 (pol:=pol1) Tryz.func85 rfl rfl rfl rfl fr ?_
 have hap:=fun X=>app_oneP (H:=codeH C n (R++[X])) (i:=1) (n:=n) (t:=true) (y:=insAV ⟨a,b,c,d,s⟩) rfl (by rw[List.length_map];exact hn) rfl (Nat.zero_le _) (by omega)
 have hmp:C.map insAV++[insAV ⟨a,b,c,d,s⟩]=(C++[(⟨a,b,c,d,s⟩:Ins)]).map insAV:=by simp
 simp +contextual (disch:=omega) only[Tryz.f85,dd85,go_sem,simprocAttr,mu85,↓wrap_up,↓wrap_down,↓wrap_pred,↓wrap_sub_nat,hap,get_last,set_last,hmp]
 refine retPol_keep rfl rfl rfl (kept_code (by simp)) (by simp)
end
end Go.Ev
