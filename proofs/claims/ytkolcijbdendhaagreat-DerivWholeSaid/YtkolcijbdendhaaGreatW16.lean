/- What functions of the program compute; no further conditions. -/
import Derived.Test.YtkolcijbdendhaaGreatW15
set_option linter.unusedVariables false
set_option linter.unusedSimpArgs false
open List (all_append getElem?_eq_getElem length_eq_zero_iff map_replicate map_set map_take mem_cons mem_of_getElem? take_length)
open Nat (le_refl lt_or_ge)
open Go.Proofs Go.RowKit Go.IntWalk
set_option maxHeartbeats 8000000
set_option maxRecDepth 100000
namespace Go.Ev
attribute [local go_sem] evAppend evBin AV.cells Ax BB bndO bnd evEq eqCells not_false_eq_true not_true_eq_false toList_some Array.size_empty List.length_append List.map_append tySzE List.head?_drop Nat.mul_one Ak At Ag Al Am Ad
section
abbrev nodeL (op:Int) (set:List (Int×Int)) (kids:List Re) (mn mx md n:Int) (neg:Bool):List AV:=[I op,.sl false (set.map spanAV),.sl false (kids.map reAV),I mn,I mx,I md,I n,.bool neg]
theorem f132 (op:Int) (set:List (Int×Int)) (kids:List Re) (mn mx md n:Int) (neg:Bool) (H:List MB):call Pg pol1 102 [.pt (nodeL op set kids mn mx md n neg)] H=some (.bool (repG mn mx md),H):=by
 refine AR Tryz.func102 rfl rfl rfl rfl rfl rfl (fun _=>rfl) (by simp[AV.plain,AV.plainL,AF,AH]) rfl ?_ H;by_cases h:mn<0∨32<mn∨md<0∨2<md
 ·have e:repG mn mx md=false:=by
   simp only[repG,Bool.and_eq_false_iff,decide_eq_false_iff_not];omega
  rw[e];have h':mn<0∨(¬ mn<0/\32<mn)∨(¬ mn<0/\¬ 32<mn/\md<0)∨(¬ mn<0/\¬ 32<mn/\¬ md<0/\2<md):=by omega
  rcases h' with h|⟨h,h1⟩|⟨h,h1,h2⟩|⟨h,h1,h2,h3⟩
  all_goals (
   simp +contextual (disch:=omega) only[Tryz.f102,RK,go_sem,simprocAttr,RD,↓AD,↓AC,↓AB,↓AA];repeat' (first|intro _|apply And.intro|(unfold dOk;kernel_rfl)|exact St.beq_refl _|exact AQ|(show altO _ _ _ _=true;kernel_rfl)|(show (_||_)=true;kernel_rfl)|(show (_&&_)=true;kernel_rfl))
   all_goals exact fzEq rfl rfl)
 ·have e:repG mn mx md=(mx == -1||(decide (1<=mx)&&decide (mx<=32)&&decide (mn<=mx))):=by
   have h1:0<=mn:=by omega
   have h2:mn<=32:=by omega
   have h3:0<=md:=by omega
   have h4:md<=2:=by omega
   simp[repG,h1,h2,h3,h4]
  rw[e];simp +contextual (disch:=omega) only[Tryz.f102,RK,go_sem,simprocAttr,RD,↓AD,↓AC,↓AB,↓AA];repeat' (first|intro _|apply And.intro|(unfold dOk;kernel_rfl)|exact St.beq_refl _|exact AQ|(show altO _ _ _ _=true;kernel_rfl)|(show (_||_)=true;kernel_rfl)|(show (_&&_)=true;kernel_rfl))
  all_goals (first|exact fzEq rfl rfl|refine fzEq rfl (congrArg AV.bool ?_))
  all_goals (rw[Bool.eq_iff_iff];simp<;>omega)
theorem f104 (caps top:Int) (ht:top<=1114111) (op:Int) (set:List (Int×Int)) (kids:List Re) (mn mx md n:Int) (neg:Bool) (hs:set.length<=1000000) (hk:kids.length<=1000000) (H:List MB) :
  call Pg pol1 72 [.pt (nodeL op set kids mn mx md n neg),I caps,I top] H=some (.bool (formedG caps top (.mk op set kids mn mx md n neg)),H):=by
 refine AR Tryz.func72 rfl rfl rfl rfl rfl rfl (fun _=>rfl) (by simp[AV.plain,AV.plainL,AF,AH]) rfl ?_ H;have h131:=f131 set top ht hs;have h132:=f132 op set kids mn mx md n neg;by_cases h0:op<0∨11<op
 ·have e:formedG caps top (.mk op set kids mn mx md n neg)=false:=by
   have:¬ (0<=op/\op<=11):=by omega
   simp only[formedG,Bool.and_eq_false_iff,decide_eq_false_iff_not];omega
  rw[e];simp +contextual (disch:=omega) only[Tryz.f72,dd72,go_sem,simprocAttr,mu72,↓AD,↓AC,↓AB,↓AA,h131,h132];repeat' (first|intro _|apply And.intro|(unfold dOk;kernel_rfl)|exact St.beq_refl _|exact AQ|(show altO _ _ _ _=true;kernel_rfl)|(show (_||_)=true;kernel_rfl)|(show (_&&_)=true;kernel_rfl))
  all_goals exact fzEq rfl rfl
 have hop:op=1∨op=4∨op=0∨op=2∨op=3∨op=5∨op=6∨op=7∨op=8∨op=9∨op=10∨op=11:=by omega
 clear h0;rcases hop with rfl|rfl|rfl|rfl|rfl|rfl|rfl|rfl|rfl|rfl|rfl|rfl
 ·cases hsp:spansG set top
  all_goals (
   rw[hsp]at h131;simp +contextual (disch:=omega) only[Tryz.f72,dd72,go_sem,simprocAttr,mu72,↓AD,↓AC,↓AB,↓AA,h131,h132];repeat' (first|intro _|apply And.intro|(unfold dOk;kernel_rfl)|exact St.beq_refl _|exact AQ|(show altO _ _ _ _=true;kernel_rfl)|(show (_||_)=true;kernel_rfl)|(show (_&&_)=true;kernel_rfl))
   all_goals (clear h131 h132;refine fzEq rfl (congrArg AV.bool ?_);first|(simp_all [formedG,kidsG];done)|(simp_all [formedG,kidsG];omega)))
 ·cases hrp:repG mn mx md
  all_goals (
   rw[hrp]at h132;simp +contextual (disch:=omega) only[Tryz.f72,dd72,go_sem,simprocAttr,mu72,↓AD,↓AC,↓AB,↓AA,h131,h132];repeat' (first|intro _|apply And.intro|(unfold dOk;kernel_rfl)|exact St.beq_refl _|exact AQ|(show altO _ _ _ _=true;kernel_rfl)|(show (_||_)=true;kernel_rfl)|(show (_&&_)=true;kernel_rfl))
   all_goals (clear h131 h132;refine fzEq rfl (congrArg AV.bool ?_);first|(simp_all [formedG,kidsG];done)|(simp_all [formedG,kidsG];omega)))
 all_goals (
  simp +contextual (disch:=omega) only[Tryz.f72,dd72,go_sem,simprocAttr,mu72,↓AD,↓AC,↓AB,↓AA,h131,h132];repeat' (first|intro _|apply And.intro|(unfold dOk;kernel_rfl)|exact St.beq_refl _|exact AQ|(show altO _ _ _ _=true;kernel_rfl)|(show (_||_)=true;kernel_rfl)|(show (_&&_)=true;kernel_rfl))
  all_goals (clear h131 h132;refine fzEq rfl (congrArg AV.bool ?_);first|(simp_all [formedG,kidsG,repG];done)|(simp_all [formedG,kidsG,repG];omega)))
end
section
theorem As {kids:List Re}{i:Nat}{k:Re} (h:kids[i]?=some k):(kids.map reAV)[i]?=some (reAV k):=by rw[List.getElem?_map,h];rfl
theorem f112:∀(N:Nat) (r:Re),r.wt<=N->r.wt<=1000000000->∀ H,call Pg pol1 57 [reAV r] H=some (I r.size,H)
 | 0,r,h,_,_=>by have:=r.wt_pos;omega
 | N+1,.mk op set kids mn mx md n neg,h,hN,H=>by
   have hkl:=Re.wtL_len kids;have hwt:1+set.length+Re.wtL kids=(Re.mk op set kids mn mx md n neg).wt:=by simp[Re.wt]
   have ih:=fun k (hk:k∈kids)=>f112 N k (by have:=Re.wtL_mem hk;omega) (by have:=Re.wtL_mem hk;omega);have hsz:=Re.sizeL_wt kids;rw[show reAV (.mk op set kids mn mx md n neg)=.agg (nodeL op set kids mn mx md n neg) from congrArg AV.agg Aa];refine AR Tryz.func57 rfl rfl rfl rfl rfl rfl (fun _=>rfl) (by simp[AV.plain,AV.plainL,AF,AH]) rfl ?_ H;simp +contextual (disch:=omega) only[Tryz.f57,dd57,go_sem,simprocAttr,mu57,↓AD,↓AC,↓AB,↓AA];refine AY (M:=(mskOf (pol1.mask 57) (pol1.gc 57) (pol1.acts 57) 0 3)) rfl kids.length (fun i=>(⟨21,[(4,I i),(3,I ((1+Re.sizeL (kids.take i):Nat):Int)),(1,.rf 0 1 0 0)],[.row 8 [.agg (nodeL op set kids mn mx md n neg)] 0]⟩:St)) (fun _=>True) ?_ ?_ trivial _ (by first|rfl|(refine BI (n:=1) (m:=⟨some [4,3,1],some 1,[]⟩) rfl rfl ?_ ?_ ?_<;>first|rfl|(simp[keepT,AV.underL,AV.under,MB.under,AE,AK,AU,AG,AF,AL,AM,-map_take,-map_replicate,-map_set,Re.sizeL,AH];done)|(simp[keepT,AV.underL,AV.under,MB.under,AE,AK,AU,AG,AF,AL,AM,-map_take,-map_replicate,-map_set,Re.sizeL,AH];omega)))
   ·intro i hi _;obtain⟨k,hk⟩:∃ k,kids[i]?=some k:=⟨_,getElem?_eq_getElem hi⟩;have hkm:=mem_of_getElem? hk;have ihk:=ih k hkm;have hle:=Re.sizeL_take hk;have hle2:=Re.sizeL_le (l:=kids) (i:=i+1);have hadd:((1+Re.sizeL (kids.take i):Nat):Int)+(k.size:Int)=((1+Re.sizeL (kids.take (i+1)):Nat):Int):=by omega
    have hl8:=AI k;have ht8:=AJ k;simp +contextual (disch:=omega) only[Tryz.f57,dd57,go_sem,simprocAttr,mu57,↓AD,↓AC,↓AB,↓AA,hk,ihk,hadd,hl8,ht8];exact(by first|rfl|(refine BI (n:=1) (m:=⟨some [4,3,1],some 1,[]⟩) rfl rfl ?_ ?_ ?_<;>first|rfl|(simp[keepT,AV.underL,AV.under,MB.under,AE,AK,AU,AG,AF,AL,AM,-map_take,-map_replicate,-map_set,AH];done)|(simp[keepT,AV.underL,AV.under,MB.under,AE,AK,AU,AG,AF,AL,AM,-map_take,-map_replicate,-map_set,AH];omega)))
   ·intro _;rw[take_length];simp +contextual (disch:=omega) only[Tryz.f57,dd57,go_sem,simprocAttr,mu57,↓AD,↓AC,↓AB,↓AA];exact fzEq rfl (by simp[Re.size])
theorem f113:∀(N:Nat) (r:Re),r.wt<=N->r.wt<=1000000000->∀ H,call Pg pol1 58 [reAV r] H=some (I r.depth,H)
 | 0,r,h,_,_=>by have:=r.wt_pos;omega
 | N+1,.mk op set kids mn mx md n neg,h,hN,H=>by
   have hkl:=Re.wtL_len kids;have hwt:1+set.length+Re.wtL kids=(Re.mk op set kids mn mx md n neg).wt:=by simp[Re.wt]
   have ih:=fun k (hk:k∈kids)=>f113 N k (by have:=Re.wtL_mem hk;omega) (by have:=Re.wtL_mem hk;omega);have hsz:=Re.sizeL_wt kids;have hdz:=Re.depthL_size kids;rw[show reAV (.mk op set kids mn mx md n neg)=.agg (nodeL op set kids mn mx md n neg) from congrArg AV.agg Aa];refine AR Tryz.func58 rfl rfl rfl rfl rfl rfl (fun _=>rfl) (by simp[AV.plain,AV.plainL,AF,AH]) rfl ?_ H;simp +contextual (disch:=omega) only[Tryz.f58,dd58,go_sem,simprocAttr,mu58,↓AD,↓AC,↓AB,↓AA];refine AY (M:=(mskOf (pol1.mask 58) (pol1.gc 58) (pol1.acts 58) 0 3)) rfl kids.length (fun i=>(⟨22,[(4,I i),(3,I ((Re.depthL (kids.take i):Nat):Int)),(1,.rf 0 1 0 0)],[.row 8 [.agg (nodeL op set kids mn mx md n neg)] 0]⟩:St)) (fun _=>True) ?_ ?_ trivial _ (by first|rfl|(refine BI (n:=1) (m:=⟨some [4,3,1],some 1,[]⟩) rfl rfl ?_ ?_ ?_<;>first|rfl|(simp[keepT,AV.underL,AV.under,MB.under,AE,AK,AU,AG,AF,AL,AM,-map_take,-map_replicate,-map_set,Re.depthL,AH];done)|(simp[keepT,AV.underL,AV.under,MB.under,AE,AK,AU,AG,AF,AL,AM,-map_take,-map_replicate,-map_set,Re.depthL,AH];omega)))
   ·intro i hi _;obtain⟨k,hk⟩:∃ k,kids[i]?=some k:=⟨_,getElem?_eq_getElem hi⟩;have hkm:=mem_of_getElem? hk;have ihk:=ih k hkm;have hle:=Re.depthL_take hk;have hadd:(if(k.depth:Int) > (Re.depthL (kids.take i):Nat) then(k.depth:Int) else(Re.depthL (kids.take i):Nat))=((Re.depthL (kids.take (i+1)):Nat):Int):=by rw[hle];split<;>omega
    have hl8:=AI k;have ht8:=AJ k;simp +contextual (disch:=omega) only[Tryz.f58,dd58,go_sem,simprocAttr,mu58,↓AD,↓AC,↓AB,↓AA,hk,ihk,evMax,hadd,hl8,ht8];exact(by first|rfl|(refine BI (n:=1) (m:=⟨some [4,3,1],some 1,[]⟩) rfl rfl ?_ ?_ ?_<;>first|rfl|(simp[keepT,AV.underL,AV.under,MB.under,AE,AK,AU,AG,AF,AL,AM,-map_take,-map_replicate,-map_set,AH];done)|(simp[keepT,AV.underL,AV.under,MB.under,AE,AK,AU,AG,AF,AL,AM,-map_take,-map_replicate,-map_set,AH];omega)))
   ·intro _;rw[take_length];simp +contextual (disch:=omega) only[Tryz.f58,dd58,go_sem,simprocAttr,mu58,↓AD,↓AC,↓AB,↓AA];exact fzEq rfl (by simp[Re.depth];omega)
end
section
theorem Cr:∀ {l:List Re}{k:Re},k∈l->nullG k=false->nullAll l=false
 | x::l,k,h,hk=>by
   rcases mem_cons.1 h with e|e
   ·rw[<- e];simp[nullAll,hk]
   ·simp[nullAll,Cr e hk]
theorem DK:∀ {l:List Re},(∀(i:Nat) (k:Re),i<l.length->l[i]?=some k->nullG k=true)->nullAll l=true
 | [],_=>by simp[nullAll]
 | x::l,h=>by
   simp only[nullAll,Bool.and_eq_true];exact⟨h 0 x (by simp) rfl,DK fun i k hi hk=>h (i+1) k (by simp;omega) (by simpa using hk)⟩
theorem CT:∀ {l:List Re}{k:Re},k∈l->nullG k=true->nullAny l=true
 | x::l,k,h,hk=>by
   rcases mem_cons.1 h with e|e
   ·rw[<- e];simp[nullAny,hk]
   ·simp[nullAny,CT e hk]
theorem Cq:∀ {l:List Re},(∀(i:Nat) (k:Re),i<l.length->l[i]?=some k->nullG k=false)->nullAny l=false
 | [],_=>by simp[nullAny]
 | x::l,h=>by
   simp only[nullAny,Bool.or_eq_false_iff];exact⟨h 0 x (by simp) rfl,Cq fun i k hi hk=>h (i+1) k (by simp;omega) (by simpa using hk)⟩
theorem f20:∀(N:Nat) (r:Re),r.wt<=N->r.wt<=1000000->∀ H,call Pg pol1 37 [reAV r] H=some (.bool (nullG r),H)
 | 0,r,h,_,_=>by have:=r.wt_pos;omega
 | N+1,.mk op set kids mn mx md n neg,h,hN,H=>by
   have hkl:=Re.wtL_len kids;have hwt:1+set.length+Re.wtL kids=(Re.mk op set kids mn mx md n neg).wt:=by simp[Re.wt]
   have ih:=fun k (hk:k∈kids)=>f20 N k (by have:=Re.wtL_mem hk;omega) (by have:=Re.wtL_mem hk;omega);rw[show reAV (.mk op set kids mn mx md n neg)=.agg (nodeL op set kids mn mx md n neg) from congrArg AV.agg Aa];refine AR Tryz.func37 rfl rfl rfl rfl rfl rfl (fun _=>rfl) (by simp[AV.plain,AV.plainL,AF,AH]) rfl ?_ H;rw[nullG];by_cases h1:op=1
   ·subst h1;rw[if_pos rfl];simp +contextual (disch:=omega) only[Tryz.f37,dd37,go_sem,simprocAttr,mu37,↓AD,↓AC,↓AB,↓AA];exact fzEq rfl rfl
   rw[if_neg h1];by_cases h2:op=2
   ·subst h2;rw[if_pos rfl];simp +contextual (disch:=omega) only[Tryz.f37,dd37,go_sem,simprocAttr,mu37,↓AD,↓AC,↓AB,↓AA];refine AY (M:=(mskOf (pol1.mask 37) (pol1.gc 37) (pol1.acts 37) 0 6)) rfl kids.length (fun i=>(⟨73,[(3,I i),(1,.rf 0 1 0 0)],[.row 8 [.agg (nodeL 2 set kids mn mx md n neg)] 0]⟩:St)) (fun i=>∀ j k,j<i->kids[j]?=some k->nullG k=true) ?_ ?_ (fun j k h=>by omega) _ (by first|rfl|(refine BI (n:=1) (m:=⟨some [3,1],some 1,[]⟩) rfl rfl ?_ ?_ ?_<;>first|rfl|(simp[keepT,AV.underL,AV.under,MB.under,AE,AK,AU,AG,AF,AL,AM,-map_take,-map_replicate,-map_set,AH];done)|(simp[keepT,AV.underL,AV.under,MB.under,AE,AK,AU,AG,AF,AL,AM,-map_take,-map_replicate,-map_set,AH];omega)))
    ·intro i hi hg;obtain⟨k,hk⟩:∃ k,kids[i]?=some k:=⟨_,getElem?_eq_getElem hi⟩;have ihk:=ih k (mem_of_getElem? hk);have hl8:=AI k;have ht8:=AJ k;cases hn:nullG k with
     | false=>
       rw[hn]at ihk;rw[Cr (mem_of_getElem? hk) hn];simp +contextual (disch:=omega) only[Tryz.f37,dd37,go_sem,simprocAttr,mu37,↓AD,↓AC,↓AB,↓AA,hk,ihk,hl8,ht8];exact fzEq rfl rfl
     | true=>
       rw[hn]at ihk;simp +contextual (disch:=omega) only[Tryz.f37,dd37,go_sem,simprocAttr,mu37,↓AD,↓AC,↓AB,↓AA,hk,ihk,hl8,ht8];refine⟨fun j q hj hq=>?_,(by first|rfl|(refine BI (n:=1) (m:=⟨some [3,1],some 1,[]⟩) rfl rfl ?_ ?_ ?_<;>first|rfl|(simp[keepT,AV.underL,AV.under,MB.under,AE,AK,AU,AG,AF,AL,AM,-map_take,-map_replicate,-map_set,AH];done)|(simp[keepT,AV.underL,AV.under,MB.under,AE,AK,AU,AG,AF,AL,AM,-map_take,-map_replicate,-map_set,AH];omega)))⟩;rcases lt_or_ge j i with h|h
       ·exact hg j q h hq
       ·obtain rfl:j=i:=by omega
        rw[hk]at hq;obtain rfl:=Option.some.inj hq;exact hn
    ·intro hg;rw[DK fun j k hj hk=>hg j k hj hk];simp +contextual (disch:=omega) only[Tryz.f37,dd37,go_sem,simprocAttr,mu37,↓AD,↓AC,↓AB,↓AA];exact fzEq rfl rfl
   rw[if_neg h2];by_cases h3:op=3∨op=10
   ·rw[if_pos h3];rcases h3 with rfl|rfl
    all_goals (
     simp +contextual (disch:=omega) only[Tryz.f37,dd37,go_sem,simprocAttr,mu37,↓AD,↓AC,↓AB,↓AA];refine AY (M:=(mskOf (pol1.mask 37) (pol1.gc 37) (pol1.acts 37) 0 14)) rfl kids.length (fun i=>(⟨73,[(4,I i),(1,.rf 0 1 0 0)],[.row 8 [.agg (nodeL _ set kids mn mx md n neg)] 0]⟩:St)) (fun i=>∀ j k,j<i->kids[j]?=some k->nullG k=false) ?_ ?_ (fun j k h=>by omega) _ (by first|rfl|(refine BI (n:=1) (m:=⟨some [4,1],some 1,[]⟩) rfl rfl ?_ ?_ ?_<;>first|rfl|(simp[keepT,AV.underL,AV.under,MB.under,AE,AK,AU,AG,AF,AL,AM,-map_take,-map_replicate,-map_set,AH];done)|(simp[keepT,AV.underL,AV.under,MB.under,AE,AK,AU,AG,AF,AL,AM,-map_take,-map_replicate,-map_set,AH];omega)))
     ·intro i hi hg;obtain⟨k,hk⟩:∃ k,kids[i]?=some k:=⟨_,getElem?_eq_getElem hi⟩;have ihk:=ih k (mem_of_getElem? hk);have hl8:=AI k;have ht8:=AJ k;cases hn:nullG k with
      | true=>
        rw[hn]at ihk;rw[CT (mem_of_getElem? hk) hn];simp +contextual (disch:=omega) only[Tryz.f37,dd37,go_sem,simprocAttr,mu37,↓AD,↓AC,↓AB,↓AA,hk,ihk,hl8,ht8];exact fzEq rfl rfl
      | false=>
        rw[hn]at ihk;simp +contextual (disch:=omega) only[Tryz.f37,dd37,go_sem,simprocAttr,mu37,↓AD,↓AC,↓AB,↓AA,hk,ihk,hl8,ht8];refine⟨fun j q hj hq=>?_,(by first|rfl|(refine BI (n:=1) (m:=⟨some [4,1],some 1,[]⟩) rfl rfl ?_ ?_ ?_<;>first|rfl|(simp[keepT,AV.underL,AV.under,MB.under,AE,AK,AU,AG,AF,AL,AM,-map_take,-map_replicate,-map_set,AH];done)|(simp[keepT,AV.underL,AV.under,MB.under,AE,AK,AU,AG,AF,AL,AM,-map_take,-map_replicate,-map_set,AH];omega)))⟩;rcases lt_or_ge j i with h|h
        ·exact hg j q h hq
        ·obtain rfl:j=i:=by omega
         rw[hk]at hq;obtain rfl:=Option.some.inj hq;exact hn
     ·intro hg;rw[Cq fun j k hj hk=>hg j k hj hk];simp +contextual (disch:=omega) only[Tryz.f37,dd37,go_sem,simprocAttr,mu37,↓AD,↓AC,↓AB,↓AA];exact fzEq rfl rfl)
   rw[if_neg h3];by_cases h4:op=4
   ·subst h4;rw[if_pos rfl];by_cases hm:mn<=0
    ·simp +contextual (disch:=omega) only[Tryz.f37,dd37,go_sem,simprocAttr,mu37,↓AD,↓AC,↓AB,↓AA];exact fzEq rfl (by simp[hm])
    ·cases kids with
     | nil=>
       simp +contextual (disch:=omega) only[Tryz.f37,dd37,go_sem,simprocAttr,mu37,↓AD,↓AC,↓AB,↓AA];exact fzEq rfl (by simp[hm,nullHd])
     | cons k ks=>
       have ihk:=ih k (List.mem_cons_self ..);have hl8:=AI k;have ht8:=AJ k;simp only[List.length_cons]at hkl;simp +contextual (disch:=omega) only[Tryz.f37,dd37,go_sem,simprocAttr,mu37,↓AD,↓AC,↓AB,↓AA,ihk,hl8,ht8];exact fzEq rfl (by simp[hm,nullHd])
   rw[if_neg h4];by_cases h5:op=5∨op=9
   ·rw[if_pos h5];rcases h5 with rfl|rfl
    all_goals (
     cases kids with
     | nil=>
       simp +contextual (disch:=omega) only[Tryz.f37,dd37,go_sem,simprocAttr,mu37,↓AD,↓AC,↓AB,↓AA];exact fzEq rfl (by simp[nullHd])
     | cons k ks=>
       have ihk:=ih k (List.mem_cons_self ..);have hl8:=AI k;have ht8:=AJ k;simp only[List.length_cons]at hkl;simp +contextual (disch:=omega) only[Tryz.f37,dd37,go_sem,simprocAttr,mu37,↓AD,↓AC,↓AB,↓AA,ihk,hl8,ht8];exact fzEq rfl (by simp[nullHd]))
   rw[if_neg h5];simp +contextual (disch:=omega) only[Tryz.f37,dd37,go_sem,simprocAttr,mu37,↓AD,↓AC,↓AB,↓AA];exact fzEq rfl rfl
end
section
theorem DQ {caps top op:Int}{set:List (Int×Int)}{kids:List Re}{mn mx md n:Int}{neg:Bool} (h:wholeG caps top (.mk op set kids mn mx md n neg)=true) :
  (∀ k∈kids,wholeG caps top k=true)/\kidsG op kids.length=true/\(op=4->repG mn mx md=true)/\(op=5∨op=6∨op=10->1<=n/\n<=caps)/\0<=op/\op<=11:=by
 rw[wholeG,Bool.and_eq_true,B7]at h;obtain⟨h1,h2⟩:=h;simp only[formedG,Bool.and_eq_true,decide_eq_true_eq]at h1;obtain⟨⟨⟨⟨⟨⟨a1,a2⟩,a3⟩,a4⟩,a5⟩,a6⟩,a7⟩:=h1;refine⟨h2,a3,fun e=>?_,fun e=>?_,a1,a2⟩
 ·rw[if_pos e]at a5;exact a5
 ·rw[if_pos e]at a6;simpa using a6
theorem f133 (b0:MB) (caps top:Int):∀(N:Nat) (r:Re),r.wt<=N->r.wt<=1000000->wholeG caps top r=true->call Pg pol1 40 [.pt (reC r),.rf 1 1 0 0] [b0,.row 1 [.clo 40 [.rf 1 1 0 0]] 0]=some (.bool (nullG r),[b0,.row 1 [.clo 40 [.rf 1 1 0 0]] 0])
 | 0,r,h,_,_=>by have:=r.wt_pos;omega
 | N+1,.mk op set kids mn mx md n neg,h,hN,hw=>by
   have hkl:=Re.wtL_len kids;have hwt:1+set.length+Re.wtL kids=(Re.mk op set kids mn mx md n neg).wt:=by simp[Re.wt]
   obtain⟨hwk,hkd,hrp,_,ho1,ho2⟩:=DQ hw;have ih:=fun k (hk:k∈kids)=>f133 b0 caps top N k (by have:=Re.wtL_mem hk;omega) (by have:=Re.wtL_mem hk;omega) (hwk k hk);rw[show (.pt (reC (.mk op set kids mn mx md n neg)):AV)=.pt (nodeL op set kids mn mx md n neg) from congrArg AV.pt Aa];have fr:frzArgs pol1 40 0 [.pt (nodeL op set kids mn mx md n neg),.rf 1 1 0 0] [b0,.row 1 [.clo 40 [.rf 1 1 0 0]] 0]=some ([.pt (nodeL op set kids mn mx md n neg),.rf 1 1 0 0],[b0,.row 1 [.clo 40 [.rf 1 1 0 0]] 0]):=
    AS _ _ _ (by simp[mixOk,show pol1.byref 40 1=true from rfl,AV.plain,AV.plainL,AF,AH])
   have rt:∀ x:Bool,retPol pol1 40 [b0,.row 1 [.clo 40 [.rf 1 1 0 0]] 0] (.bool x) [b0,.row 1 [.clo 40 [.rf 1 1 0 0]] 0]=some (.bool x,[b0,.row 1 [.clo 40 [.rf 1 1 0 0]] 0]):=fun x=>
    An rfl rfl rfl (by simp[keptOk,MB.beq_refl]) rfl
   refine AX (pol:=pol1) Tryz.func40 rfl rfl rfl rfl fr ?_;have any:∀ r':Bool,r' = nullAny kids->∀ i,i<kids.length->∀ k,kids[i]?=some k->(∀ j q,j<i->kids[j]?=some q->nullG q=false)->nullG k=true->r' = true:=fun r' hr i _ k hk _ hn=>by rw[hr,CT (mem_of_getElem? hk) hn]
   have hop:op=0∨op=1∨op=2∨op=3∨op=4∨op=5∨op=6∨op=7∨op=8∨op=9∨op=10∨op=11:=by omega
   have hone:op=4∨op=5∨op=9->nullHd kids=nullAny kids:=fun e=>by
    have:kids.length=1:=by rcases e with rfl|rfl|rfl<;>simpa [kidsG] using hkd
    match kids,this with
    | [k],_=>simp[nullHd,nullAny]
   by_cases hloop:op=3∨op=10∨op=5∨op=9∨(op=4/\mn≠0)
   ·have hres:nullG (.mk op set kids mn mx md n neg)=nullAny kids:=by
     rw[nullG];rcases hloop with rfl|rfl|rfl|rfl|⟨rfl,hmn⟩
     ·simp
     ·simp
     ·simp[hone (.inr (.inl rfl))]
     ·simp[hone (.inr (.inr rfl))]
     ·have hr:=hrp rfl;simp only[repG,Bool.and_eq_true,decide_eq_true_eq]at hr;have:¬ mn<=0:=by omega
      simp[hone (.inl rfl),this]
    rw[hres];clear hres hone any;rcases hloop with rfl|rfl|rfl|rfl|⟨rfl,hmn⟩
    all_goals (
     simp +contextual (disch:=omega) only[Tryz.f40,dd40,go_sem,simprocAttr,mu40,↓AD,↓AC,↓AB,↓AA];refine AY (M:=(mskOf (pol1.mask 40) (pol1.gc 40) (pol1.acts 40) 0 25)) rfl kids.length (fun i=>(⟨65,[(53,I i),(52,I kids.length),(1,.rf 1 1 0 0),(0,.pt (nodeL _ set kids mn mx md n neg))],[b0,.row 1 [.clo 40 [.rf 1 1 0 0]] 0]⟩:St)) (fun i=>∀ j k,j<i->kids[j]?=some k->nullG k=false) ?_ ?_ (fun j k h=>by omega) _ rfl
     ·intro i hi hg;obtain⟨k,hk⟩:∃ k,kids[i]?=some k:=⟨_,getElem?_eq_getElem hi⟩;have ihk:=ih k (mem_of_getElem? hk);have hl8:=AI k;have ht8:=AJ k;cases hn:nullG k with
      | true=>
        rw[hn]at ihk;rw[CT (mem_of_getElem? hk) hn];simp +contextual (disch:=omega) only[Tryz.f40,dd40,go_sem,simprocAttr,mu40,↓AD,↓AC,↓AB,↓AA,hk,ihk,hl8,ht8,rt];repeat' (first|intro _|apply And.intro|(unfold dOk;kernel_rfl)|exact St.beq_refl _|exact AQ|(show altO _ _ _ _=true;kernel_rfl)|(show (_||_)=true;kernel_rfl)|(show (_&&_)=true;kernel_rfl))
      | false=>
        rw[hn]at ihk;simp +contextual (disch:=omega) only[Tryz.f40,dd40,go_sem,simprocAttr,mu40,↓AD,↓AC,↓AB,↓AA,hk,ihk,hl8,ht8];repeat' (first|intro _|apply And.intro|(unfold dOk;kernel_rfl)|exact St.beq_refl _|exact AQ|(show altO _ _ _ _=true;kernel_rfl)|(show (_||_)=true;kernel_rfl)|(show (_&&_)=true;kernel_rfl))
        ·rename_i j q hj hq;rcases lt_or_ge j i with h|h
         ·exact hg j q h hq
         ·obtain rfl:j=i:=by omega
          rw[hk]at hq;obtain rfl:=Option.some.inj hq;exact hn
        ·rfl
     ·intro hg;rw[Cq fun j k hj hk=>hg j k hj hk];simp +contextual (disch:=omega) only[Tryz.f40,dd40,go_sem,simprocAttr,mu40,↓AD,↓AC,↓AB,↓AA,rt])
   ·clear any hone;have hop:op=2∨op=1∨(op=4/\mn=0)∨op=0∨op=6∨op=7∨op=8∨op=11:=by omega
    clear hloop;rcases hop with rfl|hop
    ·rw[nullG,if_neg (by omega),if_pos rfl];simp +contextual (disch:=omega) only[Tryz.f40,dd40,go_sem,simprocAttr,mu40,↓AD,↓AC,↓AB,↓AA];refine AY (M:=(mskOf (pol1.mask 40) (pol1.gc 40) (pol1.acts 40) 0 11)) rfl kids.length (fun i=>(⟨65,[(23,I i),(22,I kids.length),(1,.rf 1 1 0 0),(0,.pt (nodeL _ set kids mn mx md n neg))],[b0,.row 1 [.clo 40 [.rf 1 1 0 0]] 0]⟩:St)) (fun i=>∀ j k,j<i->kids[j]?=some k->nullG k=true) ?_ ?_ (fun j k h=>by omega) _ rfl
     ·intro i hi hg;obtain⟨k,hk⟩:∃ k,kids[i]?=some k:=⟨_,getElem?_eq_getElem hi⟩;have ihk:=ih k (mem_of_getElem? hk);have hl8:=AI k;have ht8:=AJ k;cases hn:nullG k with
      | false=>
        rw[hn]at ihk;rw[Cr (mem_of_getElem? hk) hn];simp +contextual (disch:=omega) only[Tryz.f40,dd40,go_sem,simprocAttr,mu40,↓AD,↓AC,↓AB,↓AA,hk,ihk,hl8,ht8,rt];repeat' (first|intro _|apply And.intro|(unfold dOk;kernel_rfl)|exact St.beq_refl _|exact AQ|(show altO _ _ _ _=true;kernel_rfl)|(show (_||_)=true;kernel_rfl)|(show (_&&_)=true;kernel_rfl))
      | true=>
        rw[hn]at ihk;simp +contextual (disch:=omega) only[Tryz.f40,dd40,go_sem,simprocAttr,mu40,↓AD,↓AC,↓AB,↓AA,hk,ihk,hl8,ht8];repeat' (first|intro _|apply And.intro|(unfold dOk;kernel_rfl)|exact St.beq_refl _|exact AQ|(show altO _ _ _ _=true;kernel_rfl)|(show (_||_)=true;kernel_rfl)|(show (_&&_)=true;kernel_rfl))
        ·rename_i j q hj hq;rcases lt_or_ge j i with h|h
         ·exact hg j q h hq
         ·obtain rfl:j=i:=by omega
          rw[hk]at hq;obtain rfl:=Option.some.inj hq;exact hn
        ·rfl
     ·intro hg;rw[DK fun j k hj hk=>hg j k hj hk];simp +contextual (disch:=omega) only[Tryz.f40,dd40,go_sem,simprocAttr,mu40,↓AD,↓AC,↓AB,↓AA,rt]
    ·have hres:nullG (.mk op set kids mn mx md n neg)=(if op=1 then false else true):=by
      rw[nullG];rcases hop with rfl|⟨rfl,rfl⟩|rfl|rfl|rfl|rfl|rfl<;>simp
     rw[hres];rcases hop with rfl|⟨rfl,rfl⟩|rfl|rfl|rfl|rfl|rfl
     all_goals (
      first|rw[if_pos rfl]|rw[if_neg (by omega)]
      simp +contextual (disch:=omega) only[Tryz.f40,dd40,go_sem,simprocAttr,mu40,↓AD,↓AC,↓AB,↓AA,rt])
theorem f105 (r:Re) (hN:r.wt<=1000000) (caps top:Int) (hw:wholeG caps top r=true) (H:List MB):call Pg pol1 21 [reAV r] H=some (.bool (nullG r),H):=by
 refine AR Tryz.func21 rfl rfl rfl rfl rfl rfl (fun _=>rfl) (by simp[AV.plain,AV.plainL,AO]) rfl ?_ H;have hz:fz (.rf 0 1 0 0) [.row 8 [.agg (reC r)] 0]=some (.pt (reC r),[.row 8 [.agg (reC r)] 1]):=Fo (x:=.agg (reC r)) (k:=8) (z:=0) rfl rfl rfl (AO r);have hc:=fun b0=>f133 b0 caps top r.wt r (le_refl _) hN hw;have hl8:=AI r;have hal:=AN r;simp +contextual (disch:=omega) only[Tryz.f21,dd21,go_sem,simprocAttr,mu21,↓AD,↓AC,↓AB,↓AA,hl8,hz,hc,hal,lookD,look];exact fzEq rfl rfl
end
section
theorem f103 (b0 b3:MB) (pc tc:List AV) (hp:AV.plainL pc=true) (htc:AV.plainL tc=true) (caps top:Int) (ht:top<=1114111) (hpc:pc[8]?=some (I caps)) (htc2:tc=[I top]):∀(N:Nat) (r:Re),r.wt<=N->r.wt<=1000000 ->
  ∀(d s:Nat) (g:Bool),s<=256->d<=1000000 ->
  ∃(ok g':Bool) (s':Nat),call Pg pol1 71 [.pt (reC r),I d,.rf 1 1 0 0,.rf 2 1 0 0,.pt pc,.pt tc,.rf 4 1 0 0]
    [b0,.row 1 [I s] 0,.row 1 [.bool g] 0,b3,.row 1 [.clo 71 [.rf 1 1 0 0,.rf 2 1 0 0,.pt pc,.pt tc,.rf 4 1 0 0]] 0] =
   some (.bool ok,[b0,.row 1 [I s'] 0,.row 1 [.bool g'] 0,b3,.row 1 [.clo 71 [.rf 1 1 0 0,.rf 2 1 0 0,.pt pc,.pt tc,.rf 4 1 0 0]] 0]) /\
   ok=decide (s+r.size<=256/\d+r.depth<=25)/\(ok=true->s' = s+r.size/\g' = (g&&wholeG caps top r))
 | 0,r,h,_,_,_,_,_,_=>by have:=r.wt_pos;omega
 | N+1,.mk op set kids mn mx md n neg,h,hN,d,s,g,hs,hd=>by
   have hkl:=Re.wtL_len kids;have hwt:1+set.length+Re.wtL kids=(Re.mk op set kids mn mx md n neg).wt:=by simp[Re.wt]
   have ih:=fun k (hk:k∈kids)=>f103 b0 b3 pc tc hp htc caps top ht hpc htc2 N k (by have:=Re.wtL_mem hk;omega) (by have:=Re.wtL_mem hk;omega);have f104':=f104 caps top ht op set kids mn mx md n neg (by omega) (by omega);rw[show (.pt (reC (.mk op set kids mn mx md n neg)):AV)=.pt (nodeL op set kids mn mx md n neg) from congrArg AV.pt Aa];have hsz:(Re.mk op set kids mn mx md n neg).size=1+Re.sizeL kids:=by simp[Re.size]
   have hdz:(Re.mk op set kids mn mx md n neg).depth=1+Re.depthL kids:=by simp[Re.depth]
   have hwh:wholeG caps top (.mk op set kids mn mx md n neg)=(formedG caps top (.mk op set kids mn mx md n neg)&&wholeL caps top kids):=by rw[wholeG]
   have fr:∀(s:Int) (g:Bool),frzArgs pol1 71 0 [.pt (nodeL op set kids mn mx md n neg),I d,.rf 1 1 0 0,.rf 2 1 0 0,.pt pc,.pt tc,.rf 4 1 0 0]
     [b0,.row 1 [I s] 0,.row 1 [.bool g] 0,b3,.row 1 [.clo 71 [.rf 1 1 0 0,.rf 2 1 0 0,.pt pc,.pt tc,.rf 4 1 0 0]] 0] =
     some ([.pt (nodeL op set kids mn mx md n neg),I d,.rf 1 1 0 0,.rf 2 1 0 0,.pt pc,.pt tc,.rf 4 1 0 0],[b0,.row 1 [I s] 0,.row 1 [.bool g] 0,b3,.row 1 [.clo 71 [.rf 1 1 0 0,.rf 2 1 0 0,.pt pc,.pt tc,.rf 4 1 0 0]] 0]):=fun s g=>
    AS _ _ _ (by simp[mixOk,show pol1.byref 71 2=true from rfl,show pol1.byref 71 3=true from rfl,show pol1.byref 71 4=true from rfl,show pol1.byref 71 5=true from rfl,show pol1.byref 71 6=true from rfl,AV.plain,AV.plainL,AF,AH])
   have rt:∀(x:Bool) (s s':Int) (g g':Bool),retPol pol1 71 [b0,.row 1 [I s] 0,.row 1 [.bool g] 0,b3,.row 1 [.clo 71 [.rf 1 1 0 0,.rf 2 1 0 0,.pt pc,.pt tc,.rf 4 1 0 0]] 0] (.bool x) [b0,.row 1 [I s'] 0,.row 1 [.bool g'] 0,b3,.row 1 [.clo 71 [.rf 1 1 0 0,.rf 2 1 0 0,.pt pc,.pt tc,.rf 4 1 0 0]] 0] =
     some (.bool x,[b0,.row 1 [I s'] 0,.row 1 [.bool g'] 0,b3,.row 1 [.clo 71 [.rf 1 1 0 0,.rf 2 1 0 0,.pt pc,.pt tc,.rf 4 1 0 0]] 0]):=fun x s s' g g'=>
    An rfl rfl rfl (by simp[keptOk,MB.beq_refl,MB.under,AV.underL,AV.under]) rfl
   have hs1:((s:Int)+1)=((s+1:Nat):Int):=rfl;subst htc2;by_cases hc:256<s+1∨24<d
   ·refine⟨false,g,s+1,?_,?_,fun h=>by cases h⟩
    ·refine AX (pol:=pol1) Tryz.func71 rfl rfl rfl rfl (fr s g) ?_;have hc':256<s+1∨(¬ 256<s+1/\24<d):=by omega
     rcases hc' with h1|⟨h1,h2⟩
     all_goals (
      simp +contextual (disch:=omega) only[Tryz.f71,dd71,go_sem,simprocAttr,mu71,↓AD,↓AC,↓AB,↓AA,hs1,rt];repeat' (first|intro _|apply And.intro|(unfold dOk;kernel_rfl)|exact St.beq_refl _|exact AQ|(show altO _ _ _ _=true;kernel_rfl)|(show (_||_)=true;kernel_rfl)|(show (_&&_)=true;kernel_rfl)))
    ·rw[hsz,hdz]
     symm;rw[decide_eq_false_iff_not]
     omega
   ·have key:∃ r:AV×List MB,(∃(ok g':Bool) (s':Nat),r=(.bool ok,[b0,.row 1 [I s'] 0,.row 1 [.bool g'] 0,b3,.row 1 [.clo 71 [.rf 1 1 0 0,.rf 2 1 0 0,.pt pc,.pt [I top],.rf 4 1 0 0]] 0]) /\
      ok=decide (s+(Re.mk op set kids mn mx md n neg).size<=256/\d+(Re.mk op set kids mn mx md n neg).depth<=25)/\(ok=true->s' = s+(Re.mk op set kids mn mx md n neg).size/\g' = (g&&wholeG caps top (.mk op set kids mn mx md n neg)))) /\
      call Pg pol1 71 [.pt (nodeL op set kids mn mx md n neg),I d,.rf 1 1 0 0,.rf 2 1 0 0,.pt pc,.pt [I top],.rf 4 1 0 0]
       [b0,.row 1 [I s] 0,.row 1 [.bool g] 0,b3,.row 1 [.clo 71 [.rf 1 1 0 0,.rf 2 1 0 0,.pt pc,.pt [I top],.rf 4 1 0 0]] 0]=some r:=by
     rw[hsz,hdz,hwh];refine L4 (pol:=pol1) Tryz.func71 rfl rfl rfl rfl (fr s g) ?_;generalize formedG caps top (.mk op set kids mn mx md n neg)=fg at *;clear hwh hsz hdz;have hd0:d<=24:=by omega
     have hs0:s+1<=256:=by omega
     cases g
     ·simp +contextual (disch:=omega) only[Tryz.f71,dd71,go_sem,simprocAttr,mu71,↓AD,↓AC,↓AB,↓AA,hs1]
      refine AY (M:=(mskOf (pol1.mask 71) (pol1.gc 71) (pol1.acts 71) 0 6)) rfl kids.length (fun i=>(⟨47,[(32,I i),(31,I kids.length),(6,.rf 4 1 0 0),(1,I d),(0,.pt (nodeL op set kids mn mx md n neg))],[b0,.row 1 [I ((s+1+Re.sizeL (kids.take i):Nat):Int)] 0,.row 1 [.bool (false&&wholeL caps top (kids.take i))] 0,b3,.row 1 [.clo 71 [.rf 1 1 0 0,.rf 2 1 0 0,.pt pc,.pt [I top],.rf 4 1 0 0]] 0]⟩:St))
       (fun i=>s+1+Re.sizeL (kids.take i)<=256/\d+1+Re.depthL (kids.take i)<=25) ?_ ?_ ⟨by simp[Re.sizeL];omega,by simp[Re.depthL];omega⟩ _ ?_
      ·rintro i hi ⟨hb1,hb2⟩;obtain⟨k,hk⟩:∃ k,kids[i]?=some k:=⟨_,getElem?_eq_getElem hi⟩;obtain⟨ok,g2,s2,hcall,hok,himp⟩:=ih k (mem_of_getElem? hk) (d+1) (s+1+Re.sizeL (kids.take i)) (false&&wholeL caps top (kids.take i)) (by omega) (by omega);have e1:=Re.sizeL_take hk;have e2:=Re.depthL_take hk;have e3:=DR (caps:=caps) (top:=top) hk;have e4:=Re.sizeL_le (l:=kids) (i:=i+1);have e5:=Re.depthL_le (l:=kids) (i:=i+1);have hl8:=AI k;have ht8:=AJ k;have hd1:((d:Int)+1)=((d+1:Nat):Int):=rfl;cases ok with
       | false=>
         have hcf:=of_decide_eq_false hok.symm;simp +contextual (disch:=omega) only[Tryz.f71,dd71,go_sem,simprocAttr,mu71,↓AD,↓AC,↓AB,↓AA,hk,hl8,ht8,hd1,hcall];repeat' (first|intro _|apply And.intro|(unfold dOk;kernel_rfl)|exact St.beq_refl _|exact AQ|(show altO _ _ _ _=true;kernel_rfl)|(show (_||_)=true;kernel_rfl)|(show (_&&_)=true;kernel_rfl))
         refine⟨_,⟨false,g2,s2,rfl,?_,fun h=>by cases h⟩,rt false _ _ _ _⟩
         symm;rw[decide_eq_false_iff_not];omega
       | true=>
         have hct:=of_decide_eq_true hok.symm;obtain⟨rfl,rfl⟩:=himp rfl;rw[e1,e2,e3,<- Bool.and_assoc];simp +contextual (disch:=omega) only[Tryz.f71,dd71,go_sem,simprocAttr,mu71,↓AD,↓AC,↓AB,↓AA,hk,hl8,ht8,hd1,hcall];repeat' (first|intro _|apply And.intro|(unfold dOk;kernel_rfl)|exact St.beq_refl _|exact AQ|(show altO _ _ _ _=true;kernel_rfl)|(show (_||_)=true;kernel_rfl)|(show (_&&_)=true;kernel_rfl))
         rw[Nat.add_assoc (s+1)];rfl
      ·rintro⟨hb1,hb2⟩;rw[take_length]at hb1 hb2 |-;simp +contextual (disch:=omega) only[Tryz.f71,dd71,go_sem,simprocAttr,mu71,↓AD,↓AC,↓AB,↓AA];refine⟨_,⟨true,(false&&wholeL caps top kids),s+1+Re.sizeL kids,rfl,?_,fun _=>⟨by omega,by simp⟩⟩,rt true _ _ _ _⟩;rfl
      ·rfl
     ·simp +contextual (disch:=omega) only[Tryz.f71,dd71,go_sem,simprocAttr,mu71,↓AD,↓AC,↓AB,↓AA,hs1,f104',hpc]
      refine AY (M:=(mskOf (pol1.mask 71) (pol1.gc 71) (pol1.acts 71) 0 6)) rfl kids.length (fun i=>(⟨47,[(32,I i),(31,I kids.length),(6,.rf 4 1 0 0),(1,I d),(0,.pt (nodeL op set kids mn mx md n neg))],[b0,.row 1 [I ((s+1+Re.sizeL (kids.take i):Nat):Int)] 0,.row 1 [.bool (fg&&wholeL caps top (kids.take i))] 0,b3,.row 1 [.clo 71 [.rf 1 1 0 0,.rf 2 1 0 0,.pt pc,.pt [I top],.rf 4 1 0 0]] 0]⟩:St))
       (fun i=>s+1+Re.sizeL (kids.take i)<=256/\d+1+Re.depthL (kids.take i)<=25) ?_ ?_ ⟨by simp[Re.sizeL];omega,by simp[Re.depthL];omega⟩ _ ?_
      ·rintro i hi ⟨hb1,hb2⟩;obtain⟨k,hk⟩:∃ k,kids[i]?=some k:=⟨_,getElem?_eq_getElem hi⟩;obtain⟨ok,g2,s2,hcall,hok,himp⟩:=ih k (mem_of_getElem? hk) (d+1) (s+1+Re.sizeL (kids.take i)) (fg&&wholeL caps top (kids.take i)) (by omega) (by omega);have e1:=Re.sizeL_take hk;have e2:=Re.depthL_take hk;have e3:=DR (caps:=caps) (top:=top) hk;have e4:=Re.sizeL_le (l:=kids) (i:=i+1);have e5:=Re.depthL_le (l:=kids) (i:=i+1);have hl8:=AI k;have ht8:=AJ k;have hd1:((d:Int)+1)=((d+1:Nat):Int):=rfl;cases ok with
       | false=>
         have hcf:=of_decide_eq_false hok.symm;simp +contextual (disch:=omega) only[Tryz.f71,dd71,go_sem,simprocAttr,mu71,↓AD,↓AC,↓AB,↓AA,hk,hl8,ht8,hd1,hcall];repeat' (first|intro _|apply And.intro|(unfold dOk;kernel_rfl)|exact St.beq_refl _|exact AQ|(show altO _ _ _ _=true;kernel_rfl)|(show (_||_)=true;kernel_rfl)|(show (_&&_)=true;kernel_rfl))
         refine⟨_,⟨false,g2,s2,rfl,?_,fun h=>by cases h⟩,rt false _ _ _ _⟩
         symm;rw[decide_eq_false_iff_not];omega
       | true=>
         have hct:=of_decide_eq_true hok.symm;obtain⟨rfl,rfl⟩:=himp rfl;rw[e1,e2,e3,<- Bool.and_assoc];simp +contextual (disch:=omega) only[Tryz.f71,dd71,go_sem,simprocAttr,mu71,↓AD,↓AC,↓AB,↓AA,hk,hl8,ht8,hd1,hcall];repeat' (first|intro _|apply And.intro|(unfold dOk;kernel_rfl)|exact St.beq_refl _|exact AQ|(show altO _ _ _ _=true;kernel_rfl)|(show (_||_)=true;kernel_rfl)|(show (_&&_)=true;kernel_rfl))
         rw[Nat.add_assoc (s+1)];rfl
      ·rintro⟨hb1,hb2⟩;rw[take_length]at hb1 hb2 |-;simp +contextual (disch:=omega) only[Tryz.f71,dd71,go_sem,simprocAttr,mu71,↓AD,↓AC,↓AB,↓AA];refine⟨_,⟨true,(fg&&wholeL caps top kids),s+1+Re.sizeL kids,rfl,?_,fun _=>⟨by omega,by simp⟩⟩,rt true _ _ _ _⟩;rfl
      ·rw[show (fg&&wholeL caps top (List.take 0 kids))=fg by simp[wholeL]];rfl
    obtain⟨r,⟨ok,g',s',rfl,h1,h2⟩,h3⟩:=key;exact⟨ok,g',s',h3,h1,h2⟩
structure Pat where
 re:Re
 caps:Int
 runes:Bool
abbrev patC (p:Pat):List AV:=reC p.re++[I p.caps,.bool p.runes]
abbrev patAV (p:Pat):AV:=.agg (patC p)
theorem Ai (p:Pat):AV.plainL (patC p)=true:=by
 rw[Gb];intro x hx;rcases List.mem_append.1 hx with h|h
 ·exact(Gb _).1 (AO p.re) x h
 ·simp at h;rcases h with rfl|rfl<;>rfl
def topI (r:Bool):Int:=if r then 1114111 else 255
theorem F7 (r:Bool):topI r<=1114111:=by cases r<;>simp[topI]
def validP (p:Pat):Int:=if 256<p.re.size∨24<p.re.depth then 4 else if p.caps<0∨9<p.caps∨wholeG p.caps (topI p.runes) p.re=false then 1 else 0
theorem f48 (p:Pat) (hw:p.re.wt<=1000000) (H:List MB):call Pg pol1 46 [patAV p] H=some (I (validP p),H):=by
 obtain⟨re,caps,runes⟩:=p;simp only at hw;refine AR Tryz.func46 rfl rfl rfl rfl rfl rfl (fun _=>rfl) (by simp[AV.plainL,AV.plain];exact Ai _) rfl ?_ H;have hl8:=AI re;have hpl:=Ai ⟨re,caps,runes⟩;have hget8:(reC re++[I caps,.bool runes])[8]?=some (I caps):=by rw[List.getElem?_append_right (by omega),hl8];rfl
 have hget9:(reC re++[I caps,.bool runes])[9]?=some (.bool runes):=by rw[List.getElem?_append_right (by omega),hl8];rfl
 have hz:fz (.rf 0 1 0 0) [.row 10 [.agg (reC re++[I caps,.bool runes])] 0]=some (.pt (reC re++[I caps,.bool runes]),[.row 10 [.agg (reC re++[I caps,.bool runes])] 1]):=
  Fo (x:=.agg (reC re++[I caps,.bool runes])) (k:=10) (z:=0) rfl rfl rfl hpl
 have hlen:(reC re).length+(0+1+1)=10:=by omega
 have h102:=f102 runes;have hall:=AN re;have hz2:∀(b0 b1 b2:MB) (t:Int),fz (.rf 3 1 0 0) [b0,b1,b2,.row 1 [I t] 0]=some (.pt [I t],[b0,b1,b2,.row 1 [I t] 1]):=fun b0 b1 b2 t=>Fo (x:=I t) (k:=1) (z:=0) rfl rfl rfl rfl;have htk8:∀ l,List.take 8 (reC re++l)=reC re:=fun l=>by
  rw[List.take_append_of_le_length (by omega)];exact List.take_of_length_le (by omega)
 rw[show (if runes=true then(1114111:Int) else 255)=topI runes from rfl]at h102;have ht:=F7 runes;have h103:=fun(b0 b3:MB) (g:Bool)=>f103 b0 b3 (reC re++[I caps,.bool runes]) [I (topI runes)] hpl rfl caps (topI runes) ht hget8 rfl re.wt re (le_refl _) hw 1 0 g (by omega) (by omega);unfold validP;simp only;have hcp:(0<=caps/\caps<=9)∨(0<=caps/\¬ caps<=9)∨¬ 0<=caps:=by omega
 generalize topI runes=top at *;rcases hcp with ⟨hc1,hc2⟩|⟨hc1,hc2⟩|hc1
 ·obtain⟨ok,g',s',hcall,hok,himp⟩:=h103 (.row 10 [.agg (reC re++[I caps,.bool runes])] 1) (.row 1 [I top] 1) true;rw[show ((1:Nat):Int)=1 from rfl,show ((0:Nat):Int)=0 from rfl]at hcall;cases ok with
  | false=>
    have hcf:=of_decide_eq_false hok.symm;rw[if_pos (by omega)];simp +contextual (disch:=omega) only[Tryz.f46,dd46,go_sem,simprocAttr,mu46,↓AD,↓AC,↓AB,↓AA,hl8,hget8,hget9,hz,hz2,h102,hall,htk8,hcall,all_append,lookD,look];exact fzEq rfl rfl
  | true=>
    have hct:=of_decide_eq_true hok.symm;obtain⟨_,hg'⟩:=himp rfl;rw[if_neg (by omega)];cases hwg:wholeG caps top re with
    | true=>
      rw[if_neg (by simp;omega)];rw[hwg]at hg';simp only[Bool.and_true]at hg';subst hg';simp +contextual (disch:=omega) only[Tryz.f46,dd46,go_sem,simprocAttr,mu46,↓AD,↓AC,↓AB,↓AA,hl8,hget8,hget9,hz,hz2,h102,hall,htk8,hcall,all_append,lookD,look];exact fzEq rfl rfl
    | false=>
      rw[if_pos (by simp)];rw[hwg]at hg';simp only[Bool.and_false]at hg';subst hg';simp +contextual (disch:=omega) only[Tryz.f46,dd46,go_sem,simprocAttr,mu46,↓AD,↓AC,↓AB,↓AA,hl8,hget8,hget9,hz,hz2,h102,hall,htk8,hcall,all_append,lookD,look];exact fzEq rfl rfl
 ·obtain⟨ok,g',s',hcall,hok,himp⟩:=h103 (.row 10 [.agg (reC re++[I caps,.bool runes])] 1) (.row 1 [I top] 1) false;rw[show ((1:Nat):Int)=1 from rfl,show ((0:Nat):Int)=0 from rfl]at hcall;cases ok with
  | false=>
    have hcf:=of_decide_eq_false hok.symm;rw[if_pos (by omega)];simp +contextual (disch:=omega) only[Tryz.f46,dd46,go_sem,simprocAttr,mu46,↓AD,↓AC,↓AB,↓AA,hl8,hget8,hget9,hz,hz2,h102,hall,htk8,hcall,all_append,lookD,look];exact fzEq rfl rfl
  | true=>
    have hct:=of_decide_eq_true hok.symm;obtain⟨_,hg'⟩:=himp rfl;rw[if_neg (by omega)];rw[if_pos (by omega)];simp only[Bool.false_and]at hg';subst hg';simp +contextual (disch:=omega) only[Tryz.f46,dd46,go_sem,simprocAttr,mu46,↓AD,↓AC,↓AB,↓AA,hl8,hget8,hget9,hz,hz2,h102,hall,htk8,hcall,all_append,lookD,look];exact fzEq rfl rfl
 ·obtain⟨ok,g',s',hcall,hok,himp⟩:=h103 (.row 10 [.agg (reC re++[I caps,.bool runes])] 1) (.row 1 [I top] 1) false;rw[show ((1:Nat):Int)=1 from rfl,show ((0:Nat):Int)=0 from rfl]at hcall;cases ok with
  | false=>
    have hcf:=of_decide_eq_false hok.symm;rw[if_pos (by omega)];simp +contextual (disch:=omega) only[Tryz.f46,dd46,go_sem,simprocAttr,mu46,↓AD,↓AC,↓AB,↓AA,hl8,hget8,hget9,hz,hz2,h102,hall,htk8,hcall,all_append,lookD,look];exact fzEq rfl rfl
  | true=>
    have hct:=of_decide_eq_true hok.symm;obtain⟨_,hg'⟩:=himp rfl;rw[if_neg (by omega)];rw[if_pos (by omega)];simp only[Bool.false_and]at hg';subst hg';simp +contextual (disch:=omega) only[Tryz.f46,dd46,go_sem,simprocAttr,mu46,↓AD,↓AC,↓AB,↓AA,hl8,hget8,hget9,hz,hz2,h102,hall,htk8,hcall,all_append,lookD,look];exact fzEq rfl rfl
end
section
theorem f150 (op:Int) (H:List MB):call Pg pol1 116 [I op] H =
  some (.tup [I (if op=2∨op=3 then 2 else if op=4∨op=5∨op=7∨op=8∨op=9 then 1 else if op=10 then 2 else 0),I (if op=2∨op=3 then -1 else if op=4∨op=5∨op=7∨op=8∨op=9 then 1 else if op=10 then 2 else 0)],H):=by
 refine AR Tryz.func116 rfl rfl rfl rfl rfl rfl (fun _=>rfl) rfl rfl ?_ H;by_cases h1:op=2∨op=3
 ·rw[if_pos h1,if_pos h1];rcases h1 with rfl|rfl
  all_goals (
   simp +contextual (disch:=omega) only[Tryz.f116,Mb,go_sem,simprocAttr,MN,↓AD,↓AC,↓AB,↓AA];exact fzEq rfl rfl)
 ·rw[if_neg h1,if_neg h1];by_cases h2:op=4∨op=5∨op=7∨op=8∨op=9
  ·rw[if_pos h2];rcases h2 with rfl|rfl|rfl|rfl|rfl
   all_goals (
    simp +contextual (disch:=omega) only[Tryz.f116,Mb,go_sem,simprocAttr,MN,↓AD,↓AC,↓AB,↓AA];exact fzEq rfl rfl)
  ·rw[if_neg h2];by_cases h3:op=10
   ·rw[if_pos h3];subst h3;simp +contextual (disch:=omega) only[Tryz.f116,Mb,go_sem,simprocAttr,MN,↓AD,↓AC,↓AB,↓AA];exact fzEq rfl rfl
   ·rw[if_neg h3];simp +contextual (disch:=omega) only[Tryz.f116,Mb,go_sem,simprocAttr,MN,↓AD,↓AC,↓AB,↓AA];exact fzEq rfl rfl
theorem f151 (l:List (Int×Int)) (top:Int) (ht:top<=1114111) (hl:l.length<=1000000) (H:List MB):call Pg pol1 117 [.sl false (l.map spanAV),I top] H=some (.bool (spansG l top),H):=by
 refine AR Tryz.func117 rfl rfl rfl rfl rfl rfl (fun _=>rfl) (by simp[AV.plain,AV.plainL,AF]) rfl ?_ H;by_cases h64:64<l.length
 ·rw[Fa h64];simp +contextual (disch:=omega) only[Tryz.f117,HL,go_sem,simprocAttr,Gp,↓AD,↓AC,↓AB,↓AA];exact fzEq rfl rfl
 ·simp +contextual (disch:=omega) only[Tryz.f117,HL,go_sem,simprocAttr,Gp,↓AD,↓AC,↓AB,↓AA];refine AY (M:=(mskOf (pol1.mask 117) (pol1.gc 117) (pol1.acts 117) 0 4)) rfl l.length (fun i=>(⟨62,[(5,I i),(1,I top),(0,.sl false (l.map spanAV))],[]⟩:St)) (fun i=>∀ k,k<i->badS l top k=false) ?_ ?_ (fun k h=>by omega) _ (by first|rfl|(refine BI (n:=0) (m:=⟨some [5,1,0],some 0,[]⟩) rfl rfl ?_ ?_ ?_<;>first|rfl|(simp[keepT,AV.underL,AV.under,MB.under,AE,AK,AU,AG,AF,AL,AM,-map_take,-map_replicate,-map_set];done)|(simp[keepT,AV.underL,AV.under,MB.under,AE,AK,AU,AG,AF,AL,AM,-map_take,-map_replicate,-map_set];omega)))
  ·intro i hlt hg;obtain⟨p,hp⟩:∃ p,l[i]?=some p:=⟨_,getElem?_eq_getElem hlt⟩;have ext:badS l top i=false->∀ k,k<i+1->badS l top k=false:=fun h k hk=>by
    rcases lt_or_ge k i with h1|h1
    ·exact hg k h1
    ·obtain rfl:k=i:=by omega
     exact h
   by_cases hgd:p.1<0∨p.2<p.1∨top<p.2
   ·rw[DC hlt (Mn hp hgd)];have hgd':p.1<0∨(¬ p.1<0/\p.2<p.1)∨(¬ p.1<0/\¬ p.2<p.1/\top<p.2):=by omega
    rcases hgd' with h|⟨h,h'⟩|⟨h,h',h''⟩
    all_goals (
     simp +contextual (disch:=omega) only[Tryz.f117,HL,go_sem,simprocAttr,Gp,↓AD,↓AC,↓AB,↓AA,hp,spanAV];repeat' (first|intro _|apply And.intro|(unfold dOk;kernel_rfl)|exact St.beq_refl _|exact AQ|(show altO _ _ _ _=true;kernel_rfl)|(show (_||_)=true;kernel_rfl)|(show (_&&_)=true;kernel_rfl))
     all_goals exact fzEq rfl rfl)
   ·rcases i with _|i
    ·simp +contextual (disch:=omega) only[Tryz.f117,HL,go_sem,simprocAttr,Gp,↓AD,↓AC,↓AB,↓AA,hp,spanAV];repeat' (first|intro _|apply And.intro|(unfold dOk;kernel_rfl)|exact St.beq_refl _|exact AQ|(show altO _ _ _ _=true;kernel_rfl)|(show (_||_)=true;kernel_rfl)|(show (_&&_)=true;kernel_rfl))
     ·exact ext (I7 hp hgd) _ ‹_›
     ·exact(by first|rfl|(refine BI (n:=0) (m:=⟨some [5,1,0],some 0,[]⟩) rfl rfl ?_ ?_ ?_<;>first|rfl|(simp[keepT,AV.underL,AV.under,MB.under,AE,AK,AU,AG,AF,AL,AM,-map_take,-map_replicate,-map_set];done)|(simp[keepT,AV.underL,AV.under,MB.under,AE,AK,AU,AG,AF,AL,AM,-map_take,-map_replicate,-map_set];omega)))
    ·obtain⟨q,hq⟩:∃ q,l[i]?=some q:=⟨_,getElem?_eq_getElem (by omega)⟩;have hqb:=Jt hq (hg i (by omega));have hb:=FV hp hq hgd;by_cases h2:p.1<q.2+2
     ·rw[DC hlt (by rw[hb];simp[h2])];simp +contextual (disch:=omega) only[Tryz.f117,HL,go_sem,simprocAttr,Gp,↓AD,↓AC,↓AB,↓AA,hp,hq,spanAV];repeat' (first|intro _|apply And.intro|(unfold dOk;kernel_rfl)|exact St.beq_refl _|exact AQ|(show altO _ _ _ _=true;kernel_rfl)|(show (_||_)=true;kernel_rfl)|(show (_&&_)=true;kernel_rfl))
      all_goals exact fzEq rfl rfl
     ·simp +contextual (disch:=omega) only[Tryz.f117,HL,go_sem,simprocAttr,Gp,↓AD,↓AC,↓AB,↓AA,hp,hq,spanAV];repeat' (first|intro _|apply And.intro|(unfold dOk;kernel_rfl)|exact St.beq_refl _|exact AQ|(show altO _ _ _ _=true;kernel_rfl)|(show (_||_)=true;kernel_rfl)|(show (_&&_)=true;kernel_rfl))
      ·exact ext (by rw[hb];simp[h2]) _ ‹_›
      ·exact(by first|rfl|(refine BI (n:=0) (m:=⟨some [5,1,0],some 0,[]⟩) rfl rfl ?_ ?_ ?_<;>first|rfl|(simp[keepT,AV.underL,AV.under,MB.under,AE,AK,AU,AG,AF,AL,AM,-map_take,-map_replicate,-map_set];done)|(simp[keepT,AV.underL,AV.under,MB.under,AE,AK,AU,AG,AF,AL,AM,-map_take,-map_replicate,-map_set];omega)))
  ·intro hg;rw[DT (by omega) hg];simp +contextual (disch:=omega) only[Tryz.f117,HL,go_sem,simprocAttr,Gp,↓AD,↓AC,↓AB,↓AA];exact fzEq rfl rfl
theorem f135 (caps top:Int) (ht:top<=1114111) (op:Int) (set:List (Int×Int)) (kids:List Re) (mn mx md n:Int) (neg:Bool) (hs:set.length<=1000000) (hk:kids.length<=1000000) (H:List MB) :
  call Pg pol1 94 [.agg (nodeL op set kids mn mx md n neg),I caps,I top] H=some (.bool (formedG caps top (.mk op set kids mn mx md n neg)),H):=by
 refine AR Tryz.func94 rfl rfl rfl rfl rfl rfl (fun _=>rfl) (by simp[AV.plain,AV.plainL,AF,AH]) rfl ?_ H;have h151:=f151 set top ht hs;have h150:=f150 op;by_cases h0:op<0∨11<op
 ·have e:formedG caps top (.mk op set kids mn mx md n neg)=false:=by
   have:¬ (0<=op/\op<=11):=by omega
   simp only[formedG,Bool.and_eq_false_iff,decide_eq_false_iff_not];omega
  rw[e];have h0':op<0∨(¬ op<0/\11<op):=by omega
  rcases h0' with h|⟨h,h'⟩
  all_goals (
   simp +contextual (disch:=omega) only[Tryz.f94,dd94,go_sem,simprocAttr,mu94,↓AD,↓AC,↓AB,↓AA,h150];repeat' (first|intro _|apply And.intro|(unfold dOk;kernel_rfl)|exact St.beq_refl _|exact AQ|(show altO _ _ _ _=true;kernel_rfl)|(show (_||_)=true;kernel_rfl)|(show (_&&_)=true;kernel_rfl))
   all_goals exact fzEq rfl rfl)
 have hop:op=1∨op=4∨op=0∨op=2∨op=3∨op=5∨op=6∨op=7∨op=8∨op=9∨op=10∨op=11:=by omega
 clear h0;rcases hop with rfl|rfl|rfl|rfl|rfl|rfl|rfl|rfl|rfl|rfl|rfl|rfl
 ·cases hsp:spansG set top
  all_goals (
   rw[hsp]at h151;simp at h150;cases neg <;>
   simp +contextual (disch:=omega) only[Tryz.f94,dd94,go_sem,simprocAttr,mu94,↓AD,↓AC,↓AB,↓AA,h150,h151];repeat' (first|intro _|apply And.intro|(unfold dOk;kernel_rfl)|exact St.beq_refl _|exact AQ|(show altO _ _ _ _=true;kernel_rfl)|(show (_||_)=true;kernel_rfl)|(show (_&&_)=true;kernel_rfl))
   all_goals (clear h151 h150;refine fzEq rfl (congrArg AV.bool ?_);first|(simp_all [formedG,kidsG,repG,-length_eq_zero_iff];done)|(simp_all [formedG,kidsG,repG,-length_eq_zero_iff];omega)))
 all_goals (
  simp at h150;cases neg <;>
  simp +contextual (disch:=omega) only[Tryz.f94,dd94,go_sem,simprocAttr,mu94,↓AD,↓AC,↓AB,↓AA,h150];repeat' (first|intro _|apply And.intro|(unfold dOk;kernel_rfl)|exact St.beq_refl _|exact AQ|(show altO _ _ _ _=true;kernel_rfl)|(show (_||_)=true;kernel_rfl)|(show (_&&_)=true;kernel_rfl))
  all_goals (clear h151 h150;refine fzEq rfl (congrArg AV.bool ?_);first|(simp_all [formedG,kidsG,repG,-length_eq_zero_iff];done)|(simp_all [formedG,kidsG,repG,-length_eq_zero_iff];omega)))
end
section
theorem f114 (caps top:Int) (ht:top<=1114111):∀(N:Nat) (r:Re),r.wt<=N->r.wt<=1000000->∀ H,call Pg pol1 59 [reAV r,I caps,I top] H=some (.bool (wholeG caps top r),H)
 | 0,r,h,_,_=>by have:=r.wt_pos;omega
 | N+1,.mk op set kids mn mx md n neg,h,hN,H=>by
   have hkl:=Re.wtL_len kids;have hwt:1+set.length+Re.wtL kids=(Re.mk op set kids mn mx md n neg).wt:=by simp[Re.wt]
   have ih:=fun k (hk:k∈kids)=>f114 caps top ht N k (by have:=Re.wtL_mem hk;omega) (by have:=Re.wtL_mem hk;omega);have h135:=f135 caps top ht op set kids mn mx md n neg (by omega) (by omega);rw[show reAV (.mk op set kids mn mx md n neg)=.agg (nodeL op set kids mn mx md n neg) from congrArg AV.agg Aa];refine AR Tryz.func59 rfl rfl rfl rfl rfl rfl (fun _=>rfl) (by simp[AV.plain,AV.plainL,AF,AH]) rfl ?_ H;rw[wholeG];cases hfg:formedG caps top (.mk op set kids mn mx md n neg) with
   | false=>
     rw[hfg]at h135;simp +contextual (disch:=omega) only[Tryz.f59,dd59,go_sem,simprocAttr,mu59,↓AD,↓AC,↓AB,↓AA,h135];exact fzEq rfl rfl
   | true=>
     rw[hfg]at h135;simp +contextual (disch:=omega) only[Tryz.f59,dd59,go_sem,simprocAttr,mu59,↓AD,↓AC,↓AB,↓AA,h135];refine AY (M:=(mskOf (pol1.mask 59) (pol1.gc 59) (pol1.acts 59) 0 4)) rfl kids.length (fun i=>(⟨29,[(7,I i),(3,.rf 0 1 0 0),(2,I top),(1,I caps)],[.row 8 [.agg (nodeL op set kids mn mx md n neg)] 0]⟩:St)) (fun i=>wholeL caps top (kids.take i)=true) ?_ ?_ (by simp[wholeL]) _ (by first|rfl|(refine BI (n:=1) (m:=⟨some [7,3,2,1],some 1,[]⟩) rfl rfl ?_ ?_ ?_<;>first|rfl|(simp[keepT,AV.underL,AV.under,MB.under,AE,AK,AU,AG,AF,AL,AM,-map_take,-map_replicate,-map_set,AH];done)|(simp[keepT,AV.underL,AV.under,MB.under,AE,AK,AU,AG,AF,AL,AM,-map_take,-map_replicate,-map_set,AH];omega)))
     ·intro i hi hg;obtain⟨k,hk⟩:∃ k,kids[i]?=some k:=⟨_,getElem?_eq_getElem hi⟩;have ihk:=ih k (mem_of_getElem? hk);have hl8:=AI k;have ht8:=AJ k;have e3:=DR (caps:=caps) (top:=top) hk;cases hn:wholeG caps top k with
      | false=>
        rw[hn]at ihk;have hf:wholeL caps top kids=false:=by
         rw[Bool.eq_false_iff];intro hw;rw[B7]at hw;have:=hw k (mem_of_getElem? hk);rw[hn]at this;cases this
        rw[hf];simp +contextual (disch:=omega) only[Tryz.f59,dd59,go_sem,simprocAttr,mu59,↓AD,↓AC,↓AB,↓AA,hk,ihk,hl8,ht8];exact fzEq rfl rfl
      | true=>
        rw[hn]at ihk;rw[e3,hg,hn];simp +contextual (disch:=omega) only[Tryz.f59,dd59,go_sem,simprocAttr,mu59,↓AD,↓AC,↓AB,↓AA,hk,ihk,hl8,ht8];exact(by first|rfl|(refine BI (n:=1) (m:=⟨some [7,3,2,1],some 1,[]⟩) rfl rfl ?_ ?_ ?_<;>first|rfl|(simp[keepT,AV.underL,AV.under,MB.under,AE,AK,AU,AG,AF,AL,AM,-map_take,-map_replicate,-map_set,AH];done)|(simp[keepT,AV.underL,AV.under,MB.under,AE,AK,AU,AG,AF,AL,AM,-map_take,-map_replicate,-map_set,AH];omega)))
     ·intro hg;rw[take_length]at hg;rw[hg];simp +contextual (disch:=omega) only[Tryz.f59,dd59,go_sem,simprocAttr,mu59,↓AD,↓AC,↓AB,↓AA];exact fzEq rfl rfl
theorem f52 (p:Pat) (hw:p.re.wt<=1000000) (H:List MB):call Pg pol1 30 [patAV p] H=some (I (validP p),H):=by
 obtain⟨re,caps,runes⟩:=p;simp only at hw;refine AR Tryz.func30 rfl rfl rfl rfl rfl rfl (fun _=>rfl) (by simp[AV.plainL,AV.plain];exact Ai _) rfl ?_ H;have hl8:=AI re;have hget8:(reC re++[I caps,.bool runes])[8]?=some (I caps):=by rw[List.getElem?_append_right (by omega),hl8];rfl
 have hget9:(reC re++[I caps,.bool runes])[9]?=some (.bool runes):=by rw[List.getElem?_append_right (by omega),hl8];rfl
 have htk8:∀ l,List.take 8 (reC re++l)=reC re:=fun l=>by
  rw[List.take_append_of_le_length (by omega)];exact List.take_of_length_le (by omega)
 have hall:=AN re;have h112:=f112 re.wt re (le_refl _) (by omega);have h113:=f113 re.wt re (le_refl _) (by omega);have h114:=f114 caps (topI runes) (F7 runes) re.wt re (le_refl _) hw;have hsw:=re.size_wt;cases runes
 ·rw[show topI false=255 from rfl]at h114;by_cases h1:256<re.size
  ·rw[show validP ⟨re,caps,false⟩=4 from if_pos (.inl h1)];simp +contextual (disch:=omega) only[Tryz.f30,dd30,go_sem,simprocAttr,mu30,↓AD,↓AC,↓AB,↓AA,hl8,hget8,hget9,h112,h113,hall,htk8,all_append];repeat' (first|intro _|apply And.intro|(unfold dOk;kernel_rfl)|exact St.beq_refl _|exact AQ|(show altO _ _ _ _=true;kernel_rfl)|(show (_||_)=true;kernel_rfl)|(show (_&&_)=true;kernel_rfl))
   all_goals exact fzEq rfl rfl
  by_cases h2:24<re.depth
  ·rw[show validP ⟨re,caps,false⟩=4 from if_pos (.inr h2)];simp +contextual (disch:=omega) only[Tryz.f30,dd30,go_sem,simprocAttr,mu30,↓AD,↓AC,↓AB,↓AA,hl8,hget8,hget9,h112,h113,hall,htk8,all_append];repeat' (first|intro _|apply And.intro|(unfold dOk;kernel_rfl)|exact St.beq_refl _|exact AQ|(show altO _ _ _ _=true;kernel_rfl)|(show (_||_)=true;kernel_rfl)|(show (_&&_)=true;kernel_rfl))
   all_goals exact fzEq rfl rfl
  have hno:¬ (256<re.size∨24<re.depth):=by omega
  have hcp:(caps<0)∨(¬ caps<0/\9<caps)∨(¬ caps<0/\¬ 9<caps):=by omega
  rcases hcp with h3|⟨h3,h4⟩|⟨h3,h4⟩
  ·rw[show validP ⟨re,caps,false⟩=1 from(if_neg hno).trans (if_pos (.inl h3))];simp +contextual (disch:=omega) only[Tryz.f30,dd30,go_sem,simprocAttr,mu30,↓AD,↓AC,↓AB,↓AA,hl8,hget8,hget9,h112,h113,hall,htk8,all_append];repeat' (first|intro _|apply And.intro|(unfold dOk;kernel_rfl)|exact St.beq_refl _|exact AQ|(show altO _ _ _ _=true;kernel_rfl)|(show (_||_)=true;kernel_rfl)|(show (_&&_)=true;kernel_rfl))
   all_goals exact fzEq rfl rfl
  ·rw[show validP ⟨re,caps,false⟩=1 from(if_neg hno).trans (if_pos (.inr (.inl h4)))];simp +contextual (disch:=omega) only[Tryz.f30,dd30,go_sem,simprocAttr,mu30,↓AD,↓AC,↓AB,↓AA,hl8,hget8,hget9,h112,h113,hall,htk8,all_append];repeat' (first|intro _|apply And.intro|(unfold dOk;kernel_rfl)|exact St.beq_refl _|exact AQ|(show altO _ _ _ _=true;kernel_rfl)|(show (_||_)=true;kernel_rfl)|(show (_&&_)=true;kernel_rfl))
   all_goals exact fzEq rfl rfl
  ·cases hwg:wholeG caps 255 re with
   | true=>
     rw[hwg]at h114;rw[show validP ⟨re,caps,false⟩=0 from(if_neg hno).trans (if_neg (by simp only[topI,Bool.false_eq_true,if_false,if_true,hwg];simp;omega))];simp +contextual (disch:=omega) only[Tryz.f30,dd30,go_sem,simprocAttr,mu30,↓AD,↓AC,↓AB,↓AA,hl8,hget8,hget9,h112,h113,h114,hall,htk8,all_append];repeat' (first|intro _|apply And.intro|(unfold dOk;kernel_rfl)|exact St.beq_refl _|exact AQ|(show altO _ _ _ _=true;kernel_rfl)|(show (_||_)=true;kernel_rfl)|(show (_&&_)=true;kernel_rfl))
     all_goals exact fzEq rfl rfl
   | false=>
     rw[hwg]at h114;rw[show validP ⟨re,caps,false⟩=1 from(if_neg hno).trans (if_pos (.inr (.inr hwg)))];simp +contextual (disch:=omega) only[Tryz.f30,dd30,go_sem,simprocAttr,mu30,↓AD,↓AC,↓AB,↓AA,hl8,hget8,hget9,h112,h113,h114,hall,htk8,all_append];repeat' (first|intro _|apply And.intro|(unfold dOk;kernel_rfl)|exact St.beq_refl _|exact AQ|(show altO _ _ _ _=true;kernel_rfl)|(show (_||_)=true;kernel_rfl)|(show (_&&_)=true;kernel_rfl))
     all_goals exact fzEq rfl rfl
 ·rw[show topI true=1114111 from rfl]at h114;by_cases h1:256<re.size
  ·rw[show validP ⟨re,caps,true⟩=4 from if_pos (.inl h1)];simp +contextual (disch:=omega) only[Tryz.f30,dd30,go_sem,simprocAttr,mu30,↓AD,↓AC,↓AB,↓AA,hl8,hget8,hget9,h112,h113,hall,htk8,all_append];repeat' (first|intro _|apply And.intro|(unfold dOk;kernel_rfl)|exact St.beq_refl _|exact AQ|(show altO _ _ _ _=true;kernel_rfl)|(show (_||_)=true;kernel_rfl)|(show (_&&_)=true;kernel_rfl))
   all_goals exact fzEq rfl rfl
  by_cases h2:24<re.depth
  ·rw[show validP ⟨re,caps,true⟩=4 from if_pos (.inr h2)];simp +contextual (disch:=omega) only[Tryz.f30,dd30,go_sem,simprocAttr,mu30,↓AD,↓AC,↓AB,↓AA,hl8,hget8,hget9,h112,h113,hall,htk8,all_append];repeat' (first|intro _|apply And.intro|(unfold dOk;kernel_rfl)|exact St.beq_refl _|exact AQ|(show altO _ _ _ _=true;kernel_rfl)|(show (_||_)=true;kernel_rfl)|(show (_&&_)=true;kernel_rfl))
   all_goals exact fzEq rfl rfl
  have hno:¬ (256<re.size∨24<re.depth):=by omega
  have hcp:(caps<0)∨(¬ caps<0/\9<caps)∨(¬ caps<0/\¬ 9<caps):=by omega
  rcases hcp with h3|⟨h3,h4⟩|⟨h3,h4⟩
  ·rw[show validP ⟨re,caps,true⟩=1 from(if_neg hno).trans (if_pos (.inl h3))];simp +contextual (disch:=omega) only[Tryz.f30,dd30,go_sem,simprocAttr,mu30,↓AD,↓AC,↓AB,↓AA,hl8,hget8,hget9,h112,h113,hall,htk8,all_append];repeat' (first|intro _|apply And.intro|(unfold dOk;kernel_rfl)|exact St.beq_refl _|exact AQ|(show altO _ _ _ _=true;kernel_rfl)|(show (_||_)=true;kernel_rfl)|(show (_&&_)=true;kernel_rfl))
   all_goals exact fzEq rfl rfl
  ·rw[show validP ⟨re,caps,true⟩=1 from(if_neg hno).trans (if_pos (.inr (.inl h4)))];simp +contextual (disch:=omega) only[Tryz.f30,dd30,go_sem,simprocAttr,mu30,↓AD,↓AC,↓AB,↓AA,hl8,hget8,hget9,h112,h113,hall,htk8,all_append];repeat' (first|intro _|apply And.intro|(unfold dOk;kernel_rfl)|exact St.beq_refl _|exact AQ|(show altO _ _ _ _=true;kernel_rfl)|(show (_||_)=true;kernel_rfl)|(show (_&&_)=true;kernel_rfl))
   all_goals exact fzEq rfl rfl
  ·cases hwg:wholeG caps 1114111 re with
   | true=>
     rw[hwg]at h114;rw[show validP ⟨re,caps,true⟩=0 from(if_neg hno).trans (if_neg (by simp only[topI,Bool.false_eq_true,if_false,if_true,hwg];simp;omega))];simp +contextual (disch:=omega) only[Tryz.f30,dd30,go_sem,simprocAttr,mu30,↓AD,↓AC,↓AB,↓AA,hl8,hget8,hget9,h112,h113,h114,hall,htk8,all_append];repeat' (first|intro _|apply And.intro|(unfold dOk;kernel_rfl)|exact St.beq_refl _|exact AQ|(show altO _ _ _ _=true;kernel_rfl)|(show (_||_)=true;kernel_rfl)|(show (_&&_)=true;kernel_rfl))
     all_goals exact fzEq rfl rfl
   | false=>
     rw[hwg]at h114;rw[show validP ⟨re,caps,true⟩=1 from(if_neg hno).trans (if_pos (.inr (.inr hwg)))];simp +contextual (disch:=omega) only[Tryz.f30,dd30,go_sem,simprocAttr,mu30,↓AD,↓AC,↓AB,↓AA,hl8,hget8,hget9,h112,h113,h114,hall,htk8,all_append];repeat' (first|intro _|apply And.intro|(unfold dOk;kernel_rfl)|exact St.beq_refl _|exact AQ|(show altO _ _ _ _=true;kernel_rfl)|(show (_||_)=true;kernel_rfl)|(show (_&&_)=true;kernel_rfl))
     all_goals exact fzEq rfl rfl
end
end Go.Ev
