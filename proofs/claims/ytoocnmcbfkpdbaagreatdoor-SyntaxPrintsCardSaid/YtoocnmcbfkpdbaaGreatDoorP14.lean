/- What functions of the program compute; no further conditions. -/
import Derived.Test.YtoocnmcbfkpdbaaGreatDoorP13
set_option linter.unusedVariables false
set_option linter.unusedSimpArgs false
open List (all_append getElem?_eq_getElem length_nil map_replicate map_set map_take mem_cons mem_of_getElem? take_length)
open Go.Proofs Go.RowKit Go.IntWalk
set_option maxHeartbeats 8000000
set_option maxRecDepth 100000
namespace Go.Ev
attribute [local go_sem] evAppend evBin AV.cells BA BG bndO bnd evEq eqCells not_false_eq_true not_true_eq_false Ak Array.size_empty List.length_append List.map_append tySzE List.head?_drop Nat.mul_one Al Az Ae Am An Go.IntWalk.i64_quo Go.IntWalk.rem_in Ap
section
theorem f102 (r:Bool) (H:List MB):call Pg pol1 76 [.bool r] H=some (I (if r then 1114111 else 255),H):=by
 cases r
 ·refine AQ Tryz.func76 rfl rfl rfl rfl rfl rfl (fun _=>rfl) (by simp[AV.plain,AV.plainL,AF,AE,AL,AM]) (by simp[AV.plain,AV.plainL,AF,AE,AL,AM]) ?_ H;simp +contextual (disch:=omega) only[Tryz.f76,dd76,go_sem,simprocAttr,mu76,↓AD,↓AC,↓AB,↓AA];exact fzEq rfl rfl
 ·refine AQ Tryz.func76 rfl rfl rfl rfl rfl rfl (fun _=>rfl) (by simp[AV.plain,AV.plainL,AF,AE,AL,AM]) (by simp[AV.plain,AV.plainL,AF,AE,AL,AM]) ?_ H;simp +contextual (disch:=omega) only[Tryz.f76,dd76,go_sem,simprocAttr,mu76,↓AD,↓AC,↓AB,↓AA];exact fzEq rfl rfl
theorem IE {l:List (Int×Int)}{top:Int}{i:Nat}{p:Int×Int} (hp:l[i]?=some p) (h:p.1<0∨p.2<p.1∨top<p.2):badS l top i=true:=by
 simp only[badS,hp];rcases h with h|h|h<;>simp[h]
theorem Fl {l:List (Int×Int)}{top:Int}{p:Int×Int} (hp:l[0]?=some p) (h:¬ (p.1<0∨p.2<p.1∨top<p.2)):badS l top 0=false:=by
 have h1:¬ p.1<0:=fun e=>h (.inl e);have h2:¬ p.2<p.1:=fun e=>h (.inr (.inl e));have h3:¬ top<p.2:=fun e=>h (.inr (.inr e));simp[badS,hp,h1,h2,h3]
theorem Fm {l:List (Int×Int)}{top:Int}{i:Nat}{p q:Int×Int} (hp:l[i+1]?=some p) (hq:l[i]?=some q) (h:¬ (p.1<0∨p.2<p.1∨top<p.2)):badS l top (i+1)=decide (p.1<q.2+2):=by
 have h1:¬ p.1<0:=fun e=>h (.inl e);have h2:¬ p.2<p.1:=fun e=>h (.inr (.inl e));have h3:¬ top<p.2:=fun e=>h (.inr (.inr e));simp[badS,hp,hq,h1,h2,h3]
theorem IF {l:List (Int×Int)}{top:Int}{i:Nat}{q:Int×Int} (hq:l[i]?=some q) (h:badS l top i=false):0<=q.1/\q.1<=q.2/\q.2<=top:=by
 simp only[badS,hq,Bool.or_eq_false_iff,decide_eq_false_iff_not]at h;omega
theorem f131 (l:List (Int×Int)) (top:Int) (ht:top<=1114111) (hl:l.length<=1000000) (H:List MB):call Pg pol1 120 [.sl false (l.map spanAV),I top] H=some (.bool (spansG l top),H):=by
 refine AQ Tryz.func120 rfl rfl rfl rfl rfl rfl (fun _=>rfl) (by simp[AV.plain,AV.plainL,AE]) rfl ?_ H;by_cases h64:64<l.length
 ·rw[Dm h64];simp +contextual (disch:=omega) only[Tryz.f120,Ep,go_sem,simprocAttr,Ea,↓AD,↓AC,↓AB,↓AA];exact fzEq rfl rfl
 ·simp +contextual (disch:=omega) only[Tryz.f120,Ep,go_sem,simprocAttr,Ea,↓AD,↓AC,↓AB,↓AA];refine Af (M:=(mskOf (pol1.mask 120) (pol1.gc 120) (pol1.acts 120) 0 4)) rfl l.length (fun i=>(⟨50,[(12,I i),(11,I l.length),(10,.sl false (l.map spanAV)),(1,I top),(0,.sl false (l.map spanAV))],[]⟩:St)) (fun i=>∀ k,k<i->badS l top k=false) ?_ ?_ (fun k h=>by omega) _ (by first|rfl|(refine AX (n:=0) (m:=⟨some [12,11,10,1,0],some 0,[]⟩) rfl rfl ?_ ?_ ?_<;>first|rfl|(simp[keepT,AV.underL,AV.under,MB.under,AG,AJ,AH,AF,AE,AL,AM,-map_take,-map_replicate,-map_set];done)|(simp[keepT,AV.underL,AV.under,MB.under,AG,AJ,AH,AF,AE,AL,AM,-map_take,-map_replicate,-map_set];omega)))
  ·intro i hlt hg;obtain⟨p,hp⟩:∃ p,l[i]?=some p:=⟨_,getElem?_eq_getElem hlt⟩;have ext:badS l top i=false->∀ k,k<i+1->badS l top k=false:=fun h k hk=>by
    rcases Nat.lt_or_ge k i with h1|h1
    ·exact hg k h1
    ·obtain rfl:k=i:=by omega
     exact h
   by_cases hgd:p.1<0∨p.2<p.1∨top<p.2
   ·rw[CO hlt (IE hp hgd)];have hgd':p.1<0∨(¬ p.1<0/\p.2<p.1)∨(¬ p.1<0/\¬ p.2<p.1/\top<p.2):=by omega
    rcases hgd' with h|⟨h,h'⟩|⟨h,h',h''⟩
    all_goals (
     simp +contextual (disch:=omega) only[Tryz.f120,Ep,go_sem,simprocAttr,Ea,↓AD,↓AC,↓AB,↓AA,hp,spanAV];repeat' (first|intro _|apply And.intro|(unfold dOk;kernel_rfl)|exact St.beq_refl _|exact AI|(show altO _ _ _ _=true;kernel_rfl)|(show (_||_)=true;kernel_rfl)|(show (_&&_)=true;kernel_rfl))
     all_goals exact fzEq rfl rfl)
   ·rcases i with _|i
    ·simp +contextual (disch:=omega) only[Tryz.f120,Ep,go_sem,simprocAttr,Ea,↓AD,↓AC,↓AB,↓AA,hp,spanAV];repeat' (first|intro _|apply And.intro|(unfold dOk;kernel_rfl)|exact St.beq_refl _|exact AI|(show altO _ _ _ _=true;kernel_rfl)|(show (_||_)=true;kernel_rfl)|(show (_&&_)=true;kernel_rfl))
     ·exact ext (Fl hp hgd) _ ‹_›
     ·exact(by first|rfl|(refine AX (n:=0) (m:=⟨some [12,11,10,1,0],some 0,[]⟩) rfl rfl ?_ ?_ ?_<;>first|rfl|(simp[keepT,AV.underL,AV.under,MB.under,AG,AJ,AH,AF,AE,AL,AM,-map_take,-map_replicate,-map_set];done)|(simp[keepT,AV.underL,AV.under,MB.under,AG,AJ,AH,AF,AE,AL,AM,-map_take,-map_replicate,-map_set];omega)))
    ·obtain⟨q,hq⟩:∃ q,l[i]?=some q:=⟨_,getElem?_eq_getElem (by omega)⟩;have hqb:=IF hq (hg i (by omega));have hb:=Fm hp hq hgd;by_cases h2:p.1<q.2+2
     ·rw[CO hlt (by rw[hb];simp[h2])];simp +contextual (disch:=omega) only[Tryz.f120,Ep,go_sem,simprocAttr,Ea,↓AD,↓AC,↓AB,↓AA,hp,hq,spanAV];repeat' (first|intro _|apply And.intro|(unfold dOk;kernel_rfl)|exact St.beq_refl _|exact AI|(show altO _ _ _ _=true;kernel_rfl)|(show (_||_)=true;kernel_rfl)|(show (_&&_)=true;kernel_rfl))
      all_goals exact fzEq rfl rfl
     ·simp +contextual (disch:=omega) only[Tryz.f120,Ep,go_sem,simprocAttr,Ea,↓AD,↓AC,↓AB,↓AA,hp,hq,spanAV];repeat' (first|intro _|apply And.intro|(unfold dOk;kernel_rfl)|exact St.beq_refl _|exact AI|(show altO _ _ _ _=true;kernel_rfl)|(show (_||_)=true;kernel_rfl)|(show (_&&_)=true;kernel_rfl))
      ·exact ext (by rw[hb];simp[h2]) _ ‹_›
      ·exact(by first|rfl|(refine AX (n:=0) (m:=⟨some [12,11,10,1,0],some 0,[]⟩) rfl rfl ?_ ?_ ?_<;>first|rfl|(simp[keepT,AV.underL,AV.under,MB.under,AG,AJ,AH,AF,AE,AL,AM,-map_take,-map_replicate,-map_set];done)|(simp[keepT,AV.underL,AV.under,MB.under,AG,AJ,AH,AF,AE,AL,AM,-map_take,-map_replicate,-map_set];omega)))
  ·intro hg;rw[Dn (by omega) hg];simp +contextual (disch:=omega) only[Tryz.f120,Ep,go_sem,simprocAttr,Ea,↓AD,↓AC,↓AB,↓AA];exact fzEq rfl rfl
end
section
abbrev nodeL (op:Int) (set:List (Int×Int)) (kids:List Re) (mn mx md n:Int) (neg:Bool):List AV:=[I op,.sl false (set.map spanAV),.sl false (kids.map reAV),I mn,I mx,I md,I n,.bool neg]
theorem f132 (op:Int) (set:List (Int×Int)) (kids:List Re) (mn mx md n:Int) (neg:Bool) (H:List MB):call Pg pol1 121 [.pt (nodeL op set kids mn mx md n neg)] H=some (.bool (repG mn mx md),H):=by
 refine AQ Tryz.func121 rfl rfl rfl rfl rfl rfl (fun _=>rfl) (by simp[AV.plain,AV.plainL,AE,AK]) rfl ?_ H;by_cases h:mn<0∨32<mn∨md<0∨2<md
 ·have e:repG mn mx md=false:=by
   simp only[repG,Bool.and_eq_false_iff,decide_eq_false_iff_not];omega
  rw[e];have h':mn<0∨(¬ mn<0/\32<mn)∨(¬ mn<0/\¬ 32<mn/\md<0)∨(¬ mn<0/\¬ 32<mn/\¬ md<0/\2<md):=by omega
  rcases h' with h|⟨h,h1⟩|⟨h,h1,h2⟩|⟨h,h1,h2,h3⟩
  all_goals (
   simp +contextual -implicitDefEqProofs (disch:=omega) only[Tryz.f121,K7,go_sem,simprocAttr,K1,↓AD,↓AC,↓AB,↓AA];repeat' (first|intro _|apply And.intro|(unfold dOk;kernel_rfl)|exact St.beq_refl _|exact AI|(show altO _ _ _ _=true;kernel_rfl)|(show (_||_)=true;kernel_rfl)|(show (_&&_)=true;kernel_rfl))
   all_goals exact fzEq rfl rfl)
 ·have e:repG mn mx md=(mx == -1||(decide (1<=mx)&&decide (mx<=32)&&decide (mn<=mx))):=by
   have h1:0<=mn:=by omega
   have h2:mn<=32:=by omega
   have h3:0<=md:=by omega
   have h4:md<=2:=by omega
   simp[repG,h1,h2,h3,h4]
  rw[e];simp +contextual -implicitDefEqProofs (disch:=omega) only[Tryz.f121,K7,go_sem,simprocAttr,K1,↓AD,↓AC,↓AB,↓AA];repeat' (first|intro _|apply And.intro|(unfold dOk;kernel_rfl)|exact St.beq_refl _|exact AI|(show altO _ _ _ _=true;kernel_rfl)|(show (_||_)=true;kernel_rfl)|(show (_&&_)=true;kernel_rfl))
  all_goals (first|exact fzEq rfl rfl|refine fzEq rfl (congrArg AV.bool ?_))
  all_goals (rw[Bool.eq_iff_iff];simp<;>omega)
theorem f104 (caps top:Int) (ht:top<=1114111) (op:Int) (set:List (Int×Int)) (kids:List Re) (mn mx md n:Int) (neg:Bool) (hs:set.length<=1000000) (hk:kids.length<=1000000) (H:List MB) :
  call Pg pol1 78 [.pt (nodeL op set kids mn mx md n neg),I caps,I top] H=some (.bool (formedG caps top (.mk op set kids mn mx md n neg)),H):=by
 refine AQ Tryz.func78 rfl rfl rfl rfl rfl rfl (fun _=>rfl) (by simp[AV.plain,AV.plainL,AE,AK]) rfl ?_ H;have h131:=f131 set top ht hs;have h132:=f132 op set kids mn mx md n neg;by_cases h0:op<0∨11<op
 ·have e:formedG caps top (.mk op set kids mn mx md n neg)=false:=by
   have:¬ (0<=op/\op<=11):=by omega
   simp only[formedG,Bool.and_eq_false_iff,decide_eq_false_iff_not];omega
  rw[e];simp +contextual -implicitDefEqProofs (disch:=omega) only[Tryz.f78,dd78,go_sem,simprocAttr,mu78,↓AD,↓AC,↓AB,↓AA,h131,h132];repeat' (first|intro _|apply And.intro|(unfold dOk;kernel_rfl)|exact St.beq_refl _|exact AI|(show altO _ _ _ _=true;kernel_rfl)|(show (_||_)=true;kernel_rfl)|(show (_&&_)=true;kernel_rfl))
  all_goals exact fzEq rfl rfl
 have hop:op=1∨op=4∨op=0∨op=2∨op=3∨op=5∨op=6∨op=7∨op=8∨op=9∨op=10∨op=11:=by omega
 clear h0;rcases hop with rfl|rfl|rfl|rfl|rfl|rfl|rfl|rfl|rfl|rfl|rfl|rfl
 ·cases hsp:spansG set top
  all_goals (
   rw[hsp]at h131;simp +contextual -implicitDefEqProofs (disch:=omega) only[Tryz.f78,dd78,go_sem,simprocAttr,mu78,↓AD,↓AC,↓AB,↓AA,h131,h132];repeat' (first|intro _|apply And.intro|(unfold dOk;kernel_rfl)|exact St.beq_refl _|exact AI|(show altO _ _ _ _=true;kernel_rfl)|(show (_||_)=true;kernel_rfl)|(show (_&&_)=true;kernel_rfl))
   all_goals (clear h131 h132;refine fzEq rfl (congrArg AV.bool ?_);first|(simp_all [formedG,kidsG];done)|(simp_all [formedG,kidsG];omega)))
 ·cases hrp:repG mn mx md
  all_goals (
   rw[hrp]at h132;simp +contextual -implicitDefEqProofs (disch:=omega) only[Tryz.f78,dd78,go_sem,simprocAttr,mu78,↓AD,↓AC,↓AB,↓AA,h131,h132];repeat' (first|intro _|apply And.intro|(unfold dOk;kernel_rfl)|exact St.beq_refl _|exact AI|(show altO _ _ _ _=true;kernel_rfl)|(show (_||_)=true;kernel_rfl)|(show (_&&_)=true;kernel_rfl))
   all_goals (clear h131 h132;refine fzEq rfl (congrArg AV.bool ?_);first|(simp_all [formedG,kidsG];done)|(simp_all [formedG,kidsG];omega)))
 all_goals (
  simp +contextual -implicitDefEqProofs (disch:=omega) only[Tryz.f78,dd78,go_sem,simprocAttr,mu78,↓AD,↓AC,↓AB,↓AA,h131,h132];repeat' (first|intro _|apply And.intro|(unfold dOk;kernel_rfl)|exact St.beq_refl _|exact AI|(show altO _ _ _ _=true;kernel_rfl)|(show (_||_)=true;kernel_rfl)|(show (_&&_)=true;kernel_rfl))
  all_goals (clear h131 h132;refine fzEq rfl (congrArg AV.bool ?_);first|(simp_all [formedG,kidsG,repG];done)|(simp_all [formedG,kidsG,repG];omega)))
end
section
theorem f112:∀(N:Nat) (r:Re),r.wt<=N->r.wt<=1000000000->∀ H,call Pg pol1 98 [reAV r] H=some (I r.size,H)
 | 0,r,h,_,_=>by have:=r.wt_pos;omega
 | N+1,.mk op set kids mn mx md n neg,h,hN,H=>by
   have hkl:=Re.wtL_len kids;have hwt:1+set.length+Re.wtL kids=(Re.mk op set kids mn mx md n neg).wt:=by simp[Re.wt]
   have ih:=fun k (hk:k∈kids)=>f112 N k (by have:=Re.wtL_mem hk;omega) (by have:=Re.wtL_mem hk;omega);have hsz:=Re.sizeL_wt kids;rw[show reAV (.mk op set kids mn mx md n neg)=.agg (nodeL op set kids mn mx md n neg) from congrArg AV.agg Ag];refine AQ Tryz.func98 rfl rfl rfl rfl rfl rfl (fun _=>rfl) (by simp[AV.plain,AV.plainL,AE,AK]) rfl ?_ H;simp +contextual (disch:=omega) only[Tryz.f98,dd98,go_sem,simprocAttr,mu98,↓AD,↓AC,↓AB,↓AA];refine Af (M:=(mskOf (pol1.mask 98) (pol1.gc 98) (pol1.acts 98) 0 3)) rfl kids.length (fun i=>(⟨21,[(4,I i),(3,I ((1+Re.sizeL (kids.take i):Nat):Int)),(1,.rf 0 1 0 0)],[.row 8 [.agg (nodeL op set kids mn mx md n neg)] 0]⟩:St)) (fun _=>True) ?_ ?_ trivial _ (by first|rfl|(refine AX (n:=1) (m:=⟨some [4,3,1],some 1,[]⟩) rfl rfl ?_ ?_ ?_<;>first|rfl|(simp[keepT,AV.underL,AV.under,MB.under,AG,AJ,AH,AF,AE,AL,AM,-map_take,-map_replicate,-map_set,Re.sizeL,AK];done)|(simp[keepT,AV.underL,AV.under,MB.under,AG,AJ,AH,AF,AE,AL,AM,-map_take,-map_replicate,-map_set,Re.sizeL,AK];omega)))
   ·intro i hi _;obtain⟨k,hk⟩:∃ k,kids[i]?=some k:=⟨_,getElem?_eq_getElem hi⟩;have hkm:=mem_of_getElem? hk;have ihk:=ih k hkm;have hle:=Re.sizeL_take hk;have hle2:=Re.sizeL_le (l:=kids) (i:=i+1);have hadd:((1+Re.sizeL (kids.take i):Nat):Int)+(k.size:Int)=((1+Re.sizeL (kids.take (i+1)):Nat):Int):=by omega
    have hl8:=AO k;have ht8:=AP k;simp +contextual (disch:=omega) only[Tryz.f98,dd98,go_sem,simprocAttr,mu98,↓AD,↓AC,↓AB,↓AA,hk,ihk,hadd,hl8,ht8];exact(by first|rfl|(refine AX (n:=1) (m:=⟨some [4,3,1],some 1,[]⟩) rfl rfl ?_ ?_ ?_<;>first|rfl|(simp[keepT,AV.underL,AV.under,MB.under,AG,AJ,AH,AF,AE,AL,AM,-map_take,-map_replicate,-map_set,AK];done)|(simp[keepT,AV.underL,AV.under,MB.under,AG,AJ,AH,AF,AE,AL,AM,-map_take,-map_replicate,-map_set,AK];omega)))
   ·intro _;rw[take_length];simp +contextual (disch:=omega) only[Tryz.f98,dd98,go_sem,simprocAttr,mu98,↓AD,↓AC,↓AB,↓AA];exact fzEq rfl (by simp[Re.size])
theorem f113:∀(N:Nat) (r:Re),r.wt<=N->r.wt<=1000000000->∀ H,call Pg pol1 99 [reAV r] H=some (I r.depth,H)
 | 0,r,h,_,_=>by have:=r.wt_pos;omega
 | N+1,.mk op set kids mn mx md n neg,h,hN,H=>by
   have hkl:=Re.wtL_len kids;have hwt:1+set.length+Re.wtL kids=(Re.mk op set kids mn mx md n neg).wt:=by simp[Re.wt]
   have ih:=fun k (hk:k∈kids)=>f113 N k (by have:=Re.wtL_mem hk;omega) (by have:=Re.wtL_mem hk;omega);have hsz:=Re.sizeL_wt kids;have hdz:=Re.depthL_size kids;rw[show reAV (.mk op set kids mn mx md n neg)=.agg (nodeL op set kids mn mx md n neg) from congrArg AV.agg Ag];refine AQ Tryz.func99 rfl rfl rfl rfl rfl rfl (fun _=>rfl) (by simp[AV.plain,AV.plainL,AE,AK]) rfl ?_ H;simp +contextual (disch:=omega) only[Tryz.f99,dd99,go_sem,simprocAttr,mu99,↓AD,↓AC,↓AB,↓AA];refine Af (M:=(mskOf (pol1.mask 99) (pol1.gc 99) (pol1.acts 99) 0 3)) rfl kids.length (fun i=>(⟨22,[(4,I i),(3,I ((Re.depthL (kids.take i):Nat):Int)),(1,.rf 0 1 0 0)],[.row 8 [.agg (nodeL op set kids mn mx md n neg)] 0]⟩:St)) (fun _=>True) ?_ ?_ trivial _ (by first|rfl|(refine AX (n:=1) (m:=⟨some [4,3,1],some 1,[]⟩) rfl rfl ?_ ?_ ?_<;>first|rfl|(simp[keepT,AV.underL,AV.under,MB.under,AG,AJ,AH,AF,AE,AL,AM,-map_take,-map_replicate,-map_set,Re.depthL,AK];done)|(simp[keepT,AV.underL,AV.under,MB.under,AG,AJ,AH,AF,AE,AL,AM,-map_take,-map_replicate,-map_set,Re.depthL,AK];omega)))
   ·intro i hi _;obtain⟨k,hk⟩:∃ k,kids[i]?=some k:=⟨_,getElem?_eq_getElem hi⟩;have hkm:=mem_of_getElem? hk;have ihk:=ih k hkm;have hle:=Re.depthL_take hk;have hadd:(if(k.depth:Int) > (Re.depthL (kids.take i):Nat) then(k.depth:Int) else(Re.depthL (kids.take i):Nat))=((Re.depthL (kids.take (i+1)):Nat):Int):=by rw[hle];split<;>omega
    have hl8:=AO k;have ht8:=AP k;simp +contextual (disch:=omega) only[Tryz.f99,dd99,go_sem,simprocAttr,mu99,↓AD,↓AC,↓AB,↓AA,hk,ihk,evMax,hadd,hl8,ht8];exact(by first|rfl|(refine AX (n:=1) (m:=⟨some [4,3,1],some 1,[]⟩) rfl rfl ?_ ?_ ?_<;>first|rfl|(simp[keepT,AV.underL,AV.under,MB.under,AG,AJ,AH,AF,AE,AL,AM,-map_take,-map_replicate,-map_set,AK];done)|(simp[keepT,AV.underL,AV.under,MB.under,AG,AJ,AH,AF,AE,AL,AM,-map_take,-map_replicate,-map_set,AK];omega)))
   ·intro _;rw[take_length];simp +contextual (disch:=omega) only[Tryz.f99,dd99,go_sem,simprocAttr,mu99,↓AD,↓AC,↓AB,↓AA];exact fzEq rfl (by simp[Re.depth];omega)
end
section
theorem Cz:∀ {l:List Re}{k:Re},k∈l->nullG k=false->nullAll l=false
 | x::l,k,h,hk=>by
   rcases mem_cons.1 h with e|e
   ·rw[<- e];simp[nullAll,hk]
   ·simp[nullAll,Cz e hk]
theorem DQ:∀ {l:List Re},(∀(i:Nat) (k:Re),i<l.length->l[i]?=some k->nullG k=true)->nullAll l=true
 | [],_=>by simp[nullAll]
 | x::l,h=>by
   simp only[nullAll,Bool.and_eq_true];exact⟨h 0 x (by simp) rfl,DQ fun i k hi hk=>h (i+1) k (by simp;omega) (by simpa using hk)⟩
theorem DP:∀ {l:List Re}{k:Re},k∈l->nullG k=true->nullAny l=true
 | x::l,k,h,hk=>by
   rcases mem_cons.1 h with e|e
   ·rw[<- e];simp[nullAny,hk]
   ·simp[nullAny,DP e hk]
theorem Cy:∀ {l:List Re},(∀(i:Nat) (k:Re),i<l.length->l[i]?=some k->nullG k=false)->nullAny l=false
 | [],_=>by simp[nullAny]
 | x::l,h=>by
   simp only[nullAny,Bool.or_eq_false_iff];exact⟨h 0 x (by simp) rfl,Cy fun i k hi hk=>h (i+1) k (by simp;omega) (by simpa using hk)⟩
theorem f20:∀(N:Nat) (r:Re),r.wt<=N->r.wt<=1000000->∀ H,call Pg pol1 139 [reAV r] H=some (.bool (nullG r),H)
 | 0,r,h,_,_=>by have:=r.wt_pos;omega
 | N+1,.mk op set kids mn mx md n neg,h,hN,H=>by
   have hkl:=Re.wtL_len kids;have hwt:1+set.length+Re.wtL kids=(Re.mk op set kids mn mx md n neg).wt:=by simp[Re.wt]
   have ih:=fun k (hk:k∈kids)=>f20 N k (by have:=Re.wtL_mem hk;omega) (by have:=Re.wtL_mem hk;omega);rw[show reAV (.mk op set kids mn mx md n neg)=.agg (nodeL op set kids mn mx md n neg) from congrArg AV.agg Ag];refine AQ Tryz.func139 rfl rfl rfl rfl rfl rfl (fun _=>rfl) (by simp[AV.plain,AV.plainL,AE,AK]) rfl ?_ H;rw[nullG];by_cases h1:op=1
   ·subst h1;rw[if_pos rfl];simp +contextual (disch:=omega) only[Tryz.f139,B3,go_sem,simprocAttr,By,↓AD,↓AC,↓AB,↓AA];exact fzEq rfl rfl
   rw[if_neg h1];by_cases h2:op=2
   ·subst h2;rw[if_pos rfl];simp +contextual (disch:=omega) only[Tryz.f139,B3,go_sem,simprocAttr,By,↓AD,↓AC,↓AB,↓AA];refine Af (M:=(mskOf (pol1.mask 139) (pol1.gc 139) (pol1.acts 139) 0 6)) rfl kids.length (fun i=>(⟨73,[(3,I i),(1,.rf 0 1 0 0)],[.row 8 [.agg (nodeL 2 set kids mn mx md n neg)] 0]⟩:St)) (fun i=>∀ j k,j<i->kids[j]?=some k->nullG k=true) ?_ ?_ (fun j k h=>by omega) _ (by first|rfl|(refine AX (n:=1) (m:=⟨some [3,1],some 1,[]⟩) rfl rfl ?_ ?_ ?_<;>first|rfl|(simp[keepT,AV.underL,AV.under,MB.under,AG,AJ,AH,AF,AE,AL,AM,-map_take,-map_replicate,-map_set,AK];done)|(simp[keepT,AV.underL,AV.under,MB.under,AG,AJ,AH,AF,AE,AL,AM,-map_take,-map_replicate,-map_set,AK];omega)))
    ·intro i hi hg;obtain⟨k,hk⟩:∃ k,kids[i]?=some k:=⟨_,getElem?_eq_getElem hi⟩;have ihk:=ih k (mem_of_getElem? hk);have hl8:=AO k;have ht8:=AP k;cases hn:nullG k with
     | false=>
       rw[hn]at ihk;rw[Cz (mem_of_getElem? hk) hn];simp +contextual (disch:=omega) only[Tryz.f139,B3,go_sem,simprocAttr,By,↓AD,↓AC,↓AB,↓AA,hk,ihk,hl8,ht8];exact fzEq rfl rfl
     | true=>
       rw[hn]at ihk;simp +contextual (disch:=omega) only[Tryz.f139,B3,go_sem,simprocAttr,By,↓AD,↓AC,↓AB,↓AA,hk,ihk,hl8,ht8];refine⟨fun j q hj hq=>?_,(by first|rfl|(refine AX (n:=1) (m:=⟨some [3,1],some 1,[]⟩) rfl rfl ?_ ?_ ?_<;>first|rfl|(simp[keepT,AV.underL,AV.under,MB.under,AG,AJ,AH,AF,AE,AL,AM,-map_take,-map_replicate,-map_set,AK];done)|(simp[keepT,AV.underL,AV.under,MB.under,AG,AJ,AH,AF,AE,AL,AM,-map_take,-map_replicate,-map_set,AK];omega)))⟩;rcases Nat.lt_or_ge j i with h|h
       ·exact hg j q h hq
       ·obtain rfl:j=i:=by omega
        rw[hk]at hq;obtain rfl:=Option.some.inj hq;exact hn
    ·intro hg;rw[DQ fun j k hj hk=>hg j k hj hk];simp +contextual (disch:=omega) only[Tryz.f139,B3,go_sem,simprocAttr,By,↓AD,↓AC,↓AB,↓AA];exact fzEq rfl rfl
   rw[if_neg h2];by_cases h3:op=3∨op=10
   ·rw[if_pos h3];rcases h3 with rfl|rfl
    all_goals (
     simp +contextual (disch:=omega) only[Tryz.f139,B3,go_sem,simprocAttr,By,↓AD,↓AC,↓AB,↓AA];refine Af (M:=(mskOf (pol1.mask 139) (pol1.gc 139) (pol1.acts 139) 0 14)) rfl kids.length (fun i=>(⟨73,[(4,I i),(1,.rf 0 1 0 0)],[.row 8 [.agg (nodeL _ set kids mn mx md n neg)] 0]⟩:St)) (fun i=>∀ j k,j<i->kids[j]?=some k->nullG k=false) ?_ ?_ (fun j k h=>by omega) _ (by first|rfl|(refine AX (n:=1) (m:=⟨some [4,1],some 1,[]⟩) rfl rfl ?_ ?_ ?_<;>first|rfl|(simp[keepT,AV.underL,AV.under,MB.under,AG,AJ,AH,AF,AE,AL,AM,-map_take,-map_replicate,-map_set,AK];done)|(simp[keepT,AV.underL,AV.under,MB.under,AG,AJ,AH,AF,AE,AL,AM,-map_take,-map_replicate,-map_set,AK];omega)))
     ·intro i hi hg;obtain⟨k,hk⟩:∃ k,kids[i]?=some k:=⟨_,getElem?_eq_getElem hi⟩;have ihk:=ih k (mem_of_getElem? hk);have hl8:=AO k;have ht8:=AP k;cases hn:nullG k with
      | true=>
        rw[hn]at ihk;rw[DP (mem_of_getElem? hk) hn];simp +contextual (disch:=omega) only[Tryz.f139,B3,go_sem,simprocAttr,By,↓AD,↓AC,↓AB,↓AA,hk,ihk,hl8,ht8];exact fzEq rfl rfl
      | false=>
        rw[hn]at ihk;simp +contextual (disch:=omega) only[Tryz.f139,B3,go_sem,simprocAttr,By,↓AD,↓AC,↓AB,↓AA,hk,ihk,hl8,ht8];refine⟨fun j q hj hq=>?_,(by first|rfl|(refine AX (n:=1) (m:=⟨some [4,1],some 1,[]⟩) rfl rfl ?_ ?_ ?_<;>first|rfl|(simp[keepT,AV.underL,AV.under,MB.under,AG,AJ,AH,AF,AE,AL,AM,-map_take,-map_replicate,-map_set,AK];done)|(simp[keepT,AV.underL,AV.under,MB.under,AG,AJ,AH,AF,AE,AL,AM,-map_take,-map_replicate,-map_set,AK];omega)))⟩;rcases Nat.lt_or_ge j i with h|h
        ·exact hg j q h hq
        ·obtain rfl:j=i:=by omega
         rw[hk]at hq;obtain rfl:=Option.some.inj hq;exact hn
     ·intro hg;rw[Cy fun j k hj hk=>hg j k hj hk];simp +contextual (disch:=omega) only[Tryz.f139,B3,go_sem,simprocAttr,By,↓AD,↓AC,↓AB,↓AA];exact fzEq rfl rfl)
   rw[if_neg h3];by_cases h4:op=4
   ·subst h4;rw[if_pos rfl];by_cases hm:mn<=0
    ·simp +contextual (disch:=omega) only[Tryz.f139,B3,go_sem,simprocAttr,By,↓AD,↓AC,↓AB,↓AA];exact fzEq rfl (by simp[hm])
    ·cases kids with
     | nil=>
       simp +contextual (disch:=omega) only[Tryz.f139,B3,go_sem,simprocAttr,By,↓AD,↓AC,↓AB,↓AA];exact fzEq rfl (by simp[hm,nullHd])
     | cons k ks=>
       have ihk:=ih k (List.mem_cons_self ..);have hl8:=AO k;have ht8:=AP k;simp only[List.length_cons]at hkl;simp +contextual (disch:=omega) only[Tryz.f139,B3,go_sem,simprocAttr,By,↓AD,↓AC,↓AB,↓AA,ihk,hl8,ht8];exact fzEq rfl (by simp[hm,nullHd])
   rw[if_neg h4];by_cases h5:op=5∨op=9
   ·rw[if_pos h5];rcases h5 with rfl|rfl
    all_goals (
     cases kids with
     | nil=>
       simp +contextual (disch:=omega) only[Tryz.f139,B3,go_sem,simprocAttr,By,↓AD,↓AC,↓AB,↓AA];exact fzEq rfl (by simp[nullHd])
     | cons k ks=>
       have ihk:=ih k (List.mem_cons_self ..);have hl8:=AO k;have ht8:=AP k;simp only[List.length_cons]at hkl;simp +contextual (disch:=omega) only[Tryz.f139,B3,go_sem,simprocAttr,By,↓AD,↓AC,↓AB,↓AA,ihk,hl8,ht8];exact fzEq rfl (by simp[nullHd]))
   rw[if_neg h5];simp +contextual (disch:=omega) only[Tryz.f139,B3,go_sem,simprocAttr,By,↓AD,↓AC,↓AB,↓AA];exact fzEq rfl rfl
end
section
theorem Ah {α:Type} (K:List α) (b:α):(K++[b])[K.length]?=some b:=by simp
theorem Ad {α:Type} (K:List α) (b c:α):(K++[b]).set K.length c=K++[c]:=by simp
theorem D9 (j:List AV->List MB->Option (List AV×List MB)) (a:Bool) {xs:List AV} (H:List MB) (hp:AV.plainL xs=true):fzA j (.sl a xs) H=some (.sl false xs,H):=by
 unfold fzA;rw[BC j xs H hp]
theorem H7 (a b:Bool) (op:Int) (set:List (Int×Int)) (kids:List Re) (mn mx md n:Int) (neg:Bool) (H:List MB) :
  fz (.agg [I op,.sl a (set.map spanAV),.sl b (kids.map reAV),I mn,I mx,I md,I n,.bool neg]) H=some (.agg [I op,.sl false (set.map spanAV),.sl false (kids.map reAV),I mn,I mx,I md,I n,.bool neg],H):=by
 simp only[fz,EB,fzL,D9 _ _ _ (AE set),D9 _ _ _ (AK kids),F3];rfl
theorem AS (r:Re):(reC r).drop 8=[]:=List.drop_of_length_le (by rw[AO];omega)
theorem BD (r:Re):AV.plain (reAV r)=true:=Aw r
structure MS where
 at_:Int
 left:Int
 caps:Int
abbrev mkAV (l:List Int) (uses:Int) (s:MS):AV:=.agg [.sl false (l.map I),I s.at_,I uses,I s.left,I s.caps]
abbrev mH (b0:MB) (l:List Int) (uses:Int) (s:MS) (K:List MB):List MB:=b0::.row 5 [mkAV l uses s] 0::K
def nx (l:List Int) (n:Int) (s:MS):Int×MS:=(pickI l s.at_ n,⟨s.at_+1,s.left,s.caps⟩)
theorem H6 (n:Nat) (b0 x y:MB) (K L:List MB) (h:MB.under n y=true):keptOk n (b0::x::K) (b0::y::(K++L))=true:=by
 simp only[keptOk,MB.beq_refl,h,Bool.true_or,Bool.or_true,Bool.true_and];exact Cf n L K
theorem HN {f:Nat} (hk:pol1.keep f=false) (ho:pol1.own f=false) {l:List Int}{uses:Int}{s s':MS}{b0:MB}{K L:List MB}{r r':AV} (hz:∀ H,fz r H=some (r',H)) (hp:AV.plain r' = true) :
  retPol pol1 f (mH b0 l uses s K) r (mH b0 l uses s' (K++L))=some (r',mH b0 l uses s' K):=by
 have h1:=H6 (mH b0 l uses s K).length b0 (.row 5 [mkAV l uses s] 0) (.row 5 [mkAV l uses s'] 0) K L (by simp[MB.under,AV.underL,AV.under,AG,AF]);unfold retPol;rw[if_neg (by rw[hk];exact Bool.false_ne_true),if_neg (by rw[ho];exact Bool.false_ne_true)];simp only[hz,AJ _ _ hp,h1,and_self,if_true];simp
theorem KJ {f:Nat} (hk:pol1.keep f=false) (ho:pol1.own f=false) {l:List Int}{uses:Int}{s s':MS}{b0:MB}{K:List MB}{r r':AV} (hz:∀ H,fz r H=some (r',H)) (hp:AV.plain r' = true) :
  retPol pol1 f (mH b0 l uses s K) r (mH b0 l uses s' K)=some (r',mH b0 l uses s' K):=by
 have:=HN (L:=[]) hk ho (s:=s) (s':=s') (K:=K) (l:=l) (uses:=uses) (b0:=b0) hz hp
 rwa [List.append_nil]at this
theorem f97 (l:List Int) (hl:∀ x∈l,In64 x) (uses n:Int) (hn:n≠0) (s:MS) (hs:0<=s.at_/\s.at_<=1000000) (b0:MB) (K:List MB) :
  call Pg pol1 106 [.rf 1 1 0 0,I n] (mH b0 l uses s K)=some (I (nx l n s).1,mH b0 l uses (nx l n s).2 K):=by
 obtain⟨at_,left,caps⟩:=s;simp only at hs;have h57:=f57 l at_ n hl hn;have fr:frzArgs pol1 106 0 [.rf 1 1 0 0,I n] (mH b0 l uses ⟨at_,left,caps⟩ K)=some ([.rf 1 1 0 0,I n],mH b0 l uses ⟨at_,left,caps⟩ K):=AR _ _ _ rfl;refine AT (pol:=pol1) Tryz.func106 rfl rfl rfl rfl fr ?_;have hsub:at_+1-1=at_:=by omega
 simp +contextual (disch:=omega) only[Tryz.f106,ML,go_sem,simprocAttr,L5,↓AD,↓AC,↓AB,↓AA,h57,hsub];repeat' (first|intro _|apply And.intro|(unfold dOk;kernel_rfl)|exact St.beq_refl _|exact AI|(show altO _ _ _ _=true;kernel_rfl)|(show (_||_)=true;kernel_rfl)|(show (_&&_)=true;kernel_rfl))
 exact KJ (s:=⟨at_,left,caps⟩) (s':=⟨at_+1,left,caps⟩) rfl rfl (fun H=>rfl) rfl
def smallS:List (List (Int×Int)):=[[(97,97)],[(98,98)],[(97,98)],[(99,99)],[(97,99)],[(0,96),(98,255)],[(10,10),(97,97)],[]]
def setM (l:List Int) (s:MS):Re×MS:=(.mk 1 (smallS.getD ((pickI l s.at_ 15).tdiv 2).toNat []) [] 0 0 0 0 false,⟨s.at_+1,s.left,s.caps⟩)
theorem f98 (l:List Int) (hl:∀ x∈l,In64 x) (uses:Int) (s:MS) (hs:0<=s.at_/\s.at_<=1000000) (b0:MB) (K:List MB) :
  call Pg pol1 107 [.rf 1 1 0 0] (mH b0 l uses s K)=some (reAV (setM l s).1,mH b0 l uses (setM l s).2 K):=by
 obtain⟨at_,left,caps⟩:=s;have h97:=fun K=>f97 l hl uses 15 (by omega) ⟨at_,left,caps⟩ hs b0 K;have fr:frzArgs pol1 107 0 [.rf 1 1 0 0] (mH b0 l uses ⟨at_,left,caps⟩ K)=some ([.rf 1 1 0 0],mH b0 l uses ⟨at_,left,caps⟩ K):=AR _ _ _ rfl;have hp:=Hv (l:=l) (i:=at_) (m:=15) (by omega);simp only[nx]at h97;unfold setM;simp only;generalize pickI l at_ 15=k at *;obtain⟨j,hj,hk⟩:∃ j:Nat,j<8/\k.tdiv 2=j:=⟨(k.tdiv 2).toNat,by rw[Int.tdiv_eq_ediv_of_nonneg hp.1];omega,by rw[Int.tdiv_eq_ediv_of_nonneg hp.1];omega⟩;have hw:IntKind.i64.wrap (k.tdiv 2)=(j:Int):=by rw[hk];exact i64_in _ ⟨by omega,by omega⟩
 rw[hk,Int.toNat_natCast];obtain⟨set,hset,hsj⟩:∃ set,[AV.sl true [.agg [I 97,I 97]],.sl true [.agg [I 98,I 98]],.sl true [.agg [I 97,I 98]],.sl true [.agg [I 99,I 99]],.sl true [.agg [I 97,I 99]],.sl true [.agg [I 0,I 96],.agg [I 98,I 255]],.sl true [.agg [I 10,I 10],.agg [I 97,I 97]],.sl true []][j]?=some (.sl true (set.map spanAV))/\smallS.getD j []=set:=by
  have:j=0∨j=1∨j=2∨j=3∨j=4∨j=5∨j=6∨j=7:=by omega
  rcases this with rfl|rfl|rfl|rfl|rfl|rfl|rfl|rfl<;>exact⟨_,rfl,rfl⟩
 rw[hsj];refine AT (pol:=pol1) Tryz.func107 rfl rfl rfl rfl fr ?_;simp +contextual (disch:=omega) only[Tryz.f107,MK,go_sem,simprocAttr,L4,↓AD,↓AC,↓AB,↓AA,h97,hw,hset,Ah,Ad];exact HN (s:=⟨at_,left,caps⟩) (s':=⟨at_+1,left,caps⟩) rfl rfl (H7 true true 1 set [] 0 0 0 0 false) (BD _)
def andI (a b:Int):Int:=IntKind.i64.wrap ((BitVec.ofInt 64 a &&& BitVec.ofInt 64 b).toNat)
theorem A0 (a b:Int):evBin .and .i64 a b=some (.int .i64 (andI a b)):=rfl
def stK (l:List Int) (tr:MS->Re×MS) (s:MS):Nat->List Re×MS
 | 0=>([],s)
 | i+1=>((stK l tr s i).1++[(tr (nx l 2 (stK l tr s i).2).2).1],(tr (nx l 2 (stK l tr s i).2).2).2)
def kidsF (l:List Int) (tr:MS->Re×MS) (s:MS):List Re×MS:=
 if(nx l 2 (stK l tr s 2).2).1=1 then((stK l tr s 3).1,(nx l 2 (stK l tr s 3).2).2) else((stK l tr s 2).1,(nx l 2 (stK l tr s 2).2).2)
def repF (l:List Int) (uses:Int) (tr:MS->Re×MS) (s:MS):Re×MS:=
 let k:=nx l 12 s
 let md:=nx l 2 k.2
 let m:Int×MS:=if 0<andI uses 8 then(if(nx l 4 md.2).1=0 then 2 else md.1,(nx l 4 md.2).2) else md
 let kid:=tr m.2
 let r:=if andI uses 32=0/\nullG kid.1=true then setM l kid.2 else kid
 (.mk 4 [] [r.1] (([0,0,0,0,1,1,1,0,2,0,1,2]:List Int).getD k.1.toNat 0) (([-1,-1,-1,1,-1,-1,2,2,2,3,1,-1]:List Int).getD k.1.toNat 0) m.1 0 false,r.2)
def capF (l:List Int) (tr:MS->Re×MS) (s:MS):Re×MS:=
 let p:Bool×MS:=if 4<s.caps+1 then(true,s) else if 0<s.caps then(decide ((nx l 9 s).1=0),(nx l 9 s).2) else(false,s)
 let q:Int×MS:=if p.1=true then(1+(nx l (max 1 p.2.caps) p.2).1,(nx l (max 1 p.2.caps) p.2).2) else(s.caps+1,p.2)
 let kid:=tr ⟨q.2.at_,q.2.left,max q.2.caps q.1⟩
 (.mk 5 [] [kid.1] 0 0 0 q.1 false,kid.2)
def leafF (l:List Int) (k:Int) (s:MS):Re×MS:=if k=0 then(.mk 0 [] [] 0 0 0 0 false,s) else setM l s
def treeStep (l:List Int) (uses:Int) (tr:MS->Re×MS) (k:Int) (s:MS):Re×MS:=
 if s.left<3∨(l.length:Int)<s.at_ then leafF l k s
 else if k<5 then(.mk 2 [] (kidsF l tr s).1 0 0 0 0 false,(kidsF l tr s).2)
 else if k<8 then(.mk 3 [] (kidsF l tr s).1 0 0 0 0 false,(kidsF l tr s).2)
 else if k<12 then repF l uses tr s
 else if(k=12∨k=13)/\0<andI uses 64 then capF l tr s
 else if k=14/\0<andI uses 16 then(.mk 11 [] [] 0 0 0 (nx l 6 s).1 false,(nx l 6 s).2)
 else if k=15/\0<andI uses 4 then
  (.mk (7+(nx l 2 (nx l 3 s).2).1) [] [(tr (nx l 2 (nx l 3 s).2).2).1] 0 0 0 0 ((nx l 3 s).1==0),(tr (nx l 2 (nx l 3 s).2).2).2)
 else if k=16/\0<andI uses 8 then(.mk 9 [] [(tr s).1] 0 0 0 0 false,(tr s).2)
 else if k=17/\0<andI uses 1/\0<s.caps then(.mk 6 [] [] 0 0 0 (1+(nx l s.caps s).1) false,(nx l s.caps s).2)
 else if k=18/\0<andI uses 2/\0<s.caps then
  (.mk 10 [] [(tr (nx l s.caps s).2).1,(tr (tr (nx l s.caps s).2).2).1] 0 0 0 (1+(nx l s.caps s).1) false,(tr (tr (nx l s.caps s).2).2).2)
 else setM l s
def treeF (l:List Int) (uses:Int):Nat->MS->Re×MS
 | 0,s=>leafF l (nx l 20 ⟨s.at_,s.left-1,s.caps⟩).1 (nx l 20 ⟨s.at_,s.left-1,s.caps⟩).2
 | d+1,s=>treeStep l uses (treeF l uses d) (nx l 20 ⟨s.at_,s.left-1,s.caps⟩).1 (nx l 20 ⟨s.at_,s.left-1,s.caps⟩).2
def mA1:Nat->Int
 | 0=>3
 | d+1=>9+3*mA1 d
def mS1:Nat->Int
 | 0=>1
 | d+1=>1+3*mS1 d
structure Pre (A S:Int) (s:MS):Prop where
 a:0<=s.at_/\s.at_+A<=1000000
 l:-1000000<=s.left-S/\s.left<=1000000
 c:0<=s.caps/\s.caps<=4
structure Post (A S:Int) (s s':MS):Prop where
 a:s.at_<=s'.at_/\s'.at_<=s.at_+A
 l:s.left-S<=s'.left/\s'.left<=s.left
 c:0<=s'.caps/\s'.caps<=4
theorem BF (l:List Int) {n:Int} (hn:0<n) (s:MS):0<=(nx l n s).1/\(nx l n s).1<n:=Hv hn
theorem GH {H:List MB}{i n z:Nat}{els:List AV}{y:AV}{t:Bool} (hi:getRow1 H i=some (8,els,z)) (hn:els.length=n) (hy:(decide (y.cells.length=8)&&y.cells.all AV.ok)=true) (hz:z<=n) (hr:n+1<=4000000000) :
  evAppend Pg H 24 24 (.ms i 8 n 0 n) (.sl t [y])=some (.ms i 8 (n+1) 0 (n+1),H.set i (.row 8 (els++[y]) z)):=by
 have hs:srcElems Pg H 26 (.sl t [y])=some [y]:=rfl;rw[BV (e:=26) (by kernel_rfl) (by kernel_rfl) (k:=8) (by kernel_rfl) (by_:=96) (by kernel_rfl) (ze:=.agg [I 0,.sl true [],.sl true [],I 0,I 0,I 0,I 0,.bool false]) (by kernel_rfl) rfl (by omega) hs (by simp only[List.all_cons,List.all_nil,hy,Bool.and_true]) hi hn hz (Ap hr (by omega))];rfl
theorem Iz {f:Nat} (hk:pol1.keep f=false) (ho:pol1.own f=false) {l:List Int}{uses:Int}{s s':MS}{b0:MB}{K:List MB}{ks:List Re}{n:Nat} (hn:ks.length=n) :
  retPol pol1 f (mH b0 l uses s K) (.ms (K.length+1+1) 8 n 0 n) (mH b0 l uses s' (K++[.row 8 (ks.map reAV) 0]))=some (.sl false (ks.map reAV),mH b0 l uses s' K):=by
 have hr:getRow (mH b0 l uses s' (K++[.row 8 (ks.map reAV) 0])) (K.length+1+1)=some (8,ks.map reAV,0):=by
  simp[getRow]
 have hz:fz (.ms (K.length+1+1) 8 n 0 n) (mH b0 l uses s' (K++[.row 8 (ks.map reAV) 0]))=some (.sl false (ks.map reAV),mH b0 l uses s' (K++[.row 8 (ks.map reAV) n])):=by
  rw[Eg hr (by rw[List.length_map];exact hn) (AK ks)];unfold mark;rw[hr];simp[Ad]
 have h1:=H6 (mH b0 l uses s K).length b0 (.row 5 [mkAV l uses s] 0) (.row 5 [mkAV l uses s'] 0) K [.row 8 (ks.map reAV) n] (by simp[MB.under,AV.underL,AV.under,AG,AF]);unfold retPol;rw[if_neg (by rw[hk];exact Bool.false_ne_true),if_neg (by rw[ho];exact Bool.false_ne_true)];simp only[hz,AV.under,AG _ _ (AK ks),h1,and_self,if_true];simp
abbrev TreeLaw (l:List Int) (uses:Int) (d:Nat):Prop:=∀(s:MS) (b0:MB) (K:List MB),Pre (mA1 d) (mS1 d) s->call Pg pol1 59 [.rf 1 1 0 0,I d] (mH b0 l uses s K)=some (reAV (treeF l uses d s).1,mH b0 l uses (treeF l uses d s).2 K)
abbrev TreeB (l:List Int) (uses:Int) (d:Nat):Prop:=∀ s:MS,Pre (mA1 d) (mS1 d) s->Post (mA1 d) (mS1 d) s (treeF l uses d s).2
theorem A3:∀ d,3<=mA1 d
 | 0=>by simp[mA1]
 | d+1=>by have:=A3 d;simp only[mA1];omega
theorem A1:∀ d,1<=mS1 d
 | 0=>by simp[mS1]
 | d+1=>by have:=A1 d;simp only[mS1];omega
theorem Pre.step {A S:Int}{s s':MS}{A' S' x y:Int} (h:Pre A S s) (p:Post x y s s') (ha:A' + x<=A) (hs:S' + y<=S):Pre A' S' s':=by
 obtain⟨h1,h2,h3⟩:=h;obtain⟨p1,p2,p3⟩:=p;exact⟨by omega,by omega,p3⟩
theorem Post.trans {s s' s'':MS}{x y x' y':Int} (p:Post x y s s') (q:Post x' y' s' s''):Post (x+x') (y+y') s s'':=by
 obtain⟨p1,p2,p3⟩:=p;obtain⟨q1,q2,q3⟩:=q;exact⟨by omega,by omega,q3⟩
theorem Post.up {s s':MS}{x y x' y':Int} (p:Post x y s s') (hx:x<=x') (hy:y<=y'):Post x' y' s s':=by
 obtain⟨p1,p2,p3⟩:=p;exact⟨by omega,by omega,p3⟩
theorem AY (l:List Int) (n:Int) (s:MS) (hc:0<=s.caps/\s.caps<=4):Post 1 0 s (nx l n s).2:=⟨by simp only[nx];omega,by simp only[nx];omega,hc⟩
theorem Cm (l:List Int) (s:MS) (hc:0<=s.caps/\s.caps<=4):Post 1 0 s (setM l s).2:=⟨by simp only[setM];omega,by simp only[setM];omega,hc⟩
theorem DM {l:List Int}{uses:Int}{d:Nat} (hb:TreeB l uses d) {s:MS} (hp:Pre (5+3*mA1 d) (3*mS1 d) s):∀ i:Nat,i<=3->Post (i+i*mA1 d) (i*mS1 d) s (stK l (treeF l uses d) s i).2
 | 0,_=>⟨by simp[stK],by simp[stK],by simpa [stK] using hp.c⟩
 | i+1,hi=>by
   have p:=DM hb hp i (by omega);have:=A3 d;have:=A1 d;have e1:((i+1:Nat):Int)*mA1 d=i*mA1 d+mA1 d:=by rw[Int.natCast_add,Int.add_mul];simp
   have e2:((i+1:Nat):Int)*mS1 d=i*mS1 d+mS1 d:=by rw[Int.natCast_add,Int.add_mul];simp
   have e3:(i:Int)*mA1 d<=2*mA1 d:=Int.mul_le_mul_of_nonneg_right (by omega) (by omega);have e4:(i:Int)*mS1 d<=2*mS1 d:=Int.mul_le_mul_of_nonneg_right (by omega) (by omega);have q:=p.trans (AY l 2 _ p.c);have r:=hb _ (hp.step q (by omega) (by omega));refine(q.trans r).up (by omega) (by omega)
theorem Ed {l:List Int}{uses:Int}{d:Nat} (hb:TreeB l uses d) {s:MS} (hp:Pre (5+3*mA1 d) (3*mS1 d) s):Post (5+3*mA1 d) (3*mS1 d) s (kidsF l (treeF l uses d) s).2:=by
 have p2:=DM hb hp 2 (by omega);have p3:=DM hb hp 3 (by omega);have:=A3 d;have:=A1 d;unfold kidsF;split
 ·exact(p3.trans (AY l 2 _ p3.c)).up (by omega) (by omega)
 ·exact(p2.trans (AY l 2 _ p2.c)).up (by omega) (by omega)
theorem Hr (l:List Int) (tr:MS->Re×MS) (s:MS):∀ i,(stK l tr s i).1.length=i
 | 0=>rfl
 | i+1=>by simp[stK,Hr l tr s i]
def mW1:Nat->Nat
 | 0=>3
 | d+1=>1+3*mW1 d
theorem H5:∀ d,3<=mW1 d
 | 0=>by simp[mW1]
 | d+1=>by have:=H5 d;simp only[mW1];omega
theorem HK (j:Nat):(smallS.getD j []).length<=2:=by
 rw[List.getD_eq_getElem?_getD];cases h:smallS[j]? with
 | none=>simp
 | some x=>
   have hm:=mem_of_getElem? h;have:∀ x∈smallS,x.length<=2:=by decide
   exact this x hm
theorem Ft (l:List Int) (s:MS):(setM l s).1.wt<=3:=by
 have:=HK ((pickI l s.at_ 15).tdiv 2).toNat;simp only[setM,Re.wt,Re.wtL];omega
theorem Gc (l:List Int) (k:Int) (s:MS):(leafF l k s).1.wt<=3:=by
 unfold leafF;split
 ·simp[Re.wt,Re.wtL]
 ·exact Ft l s
theorem Re.wtL_append:∀(a b:List Re),Re.wtL (a++b)=Re.wtL a+Re.wtL b
 | [],b=>by simp[Re.wtL]
 | k::ks,b=>by simp[Re.wtL,Re.wtL_append ks b];omega
theorem HG {l:List Int}{tr:MS->Re×MS}{W:Nat} (h:∀ s,(tr s).1.wt<=W) (s:MS):∀ i,Re.wtL (stK l tr s i).1<=i*W
 | 0=>by simp[stK,Re.wtL]
 | i+1=>by
   have h1:=HG (l:=l) h s i;have h2:=h (nx l 2 (stK l tr s i).2).2;simp only[stK,Re.wtL_append,Re.wtL,Nat.add_mul];omega
theorem JU {l:List Int}{tr:MS->Re×MS}{W:Nat} (h:∀ s,(tr s).1.wt<=W) (s:MS):Re.wtL (kidsF l tr s).1<=3*W:=by
 have h2:=HG (l:=l) h s 2;have h3:=HG (l:=l) h s 3;unfold kidsF;split
 ·exact h3
 ·simp only;omega
theorem EJ (l:List Int) (uses:Int):∀(d:Nat) (s:MS),(treeF l uses d s).1.wt<=mW1 d
 | 0,s=>Gc l _ _
 | d+1,s=>by
   have h:=EJ l uses d;have hp:=H5 d;simp only[treeF,mW1];generalize (nx l 20 ⟨s.at_,s.left-1,s.caps⟩).1=k;generalize (nx l 20 ⟨s.at_,s.left-1,s.caps⟩).2=s1;have hk:=JU (l:=l) h s1;have hl:=Gc l k s1;have hs:=Ft l s1;generalize treeF l uses d=tr at *;have key:∀(c:Prop) [Decidable c] (x:Re×MS),x.1.wt<=mW1 d->(if c then setM l x.2 else x).1.wt<=mW1 d:=by
    intro c _ x hx;have:=Ft l x.2;split
    ·omega
    ·exact hx
   have hr:(repF l uses tr s1).1.wt<=1+3*mW1 d:=by
    unfold repF;simp only[Re.wt,Re.wtL,length_nil];exact Nat.le_trans (Nat.add_le_add_left (Nat.add_le_add_right (key _ _ (h _)) 0) _) (by omega)
   have hc:(capF l tr s1).1.wt<=1+3*mW1 d:=by
    unfold capF;simp only[Re.wt,Re.wtL,length_nil];have:∀ s,(tr s).1.wt<=mW1 d:=h;refine Nat.le_trans (Nat.add_le_add_left (Nat.add_le_add_right (this _) 0) _) (by omega)
   unfold treeStep;repeat' split
   all_goals first|omega|(simp only[Re.wt,Re.wtL,length_nil];first|omega|(have:=h s1;omega)|(have:=h (nx l 2 (nx l 3 s1).2).2;omega)|(have:=h (nx l s1.caps s1).2;have:=h (tr (nx l s1.caps s1).2).2;omega))
end
section
theorem f103 (b0 b3:MB) (pc tc:List AV) (hp:AV.plainL pc=true) (htc:AV.plainL tc=true) (caps top:Int) (ht:top<=1114111) (hpc:pc[8]?=some (I caps)) (htc2:tc=[I top]):∀(N:Nat) (r:Re),r.wt<=N->r.wt<=1000000 ->
  ∀(d s:Nat) (g:Bool),s<=256->d<=1000000 ->
  ∃(ok g':Bool) (s':Nat),call Pg pol1 77 [.pt (reC r),I d,.rf 1 1 0 0,.rf 2 1 0 0,.pt pc,.pt tc,.rf 4 1 0 0]
    [b0,.row 1 [I s] 0,.row 1 [.bool g] 0,b3,.row 1 [.clo 77 [.rf 1 1 0 0,.rf 2 1 0 0,.pt pc,.pt tc,.rf 4 1 0 0]] 0] =
   some (.bool ok,[b0,.row 1 [I s'] 0,.row 1 [.bool g'] 0,b3,.row 1 [.clo 77 [.rf 1 1 0 0,.rf 2 1 0 0,.pt pc,.pt tc,.rf 4 1 0 0]] 0]) /\
   ok=decide (s+r.size<=256/\d+r.depth<=25)/\(ok=true->s' = s+r.size/\g' = (g&&wholeG caps top r))
 | 0,r,h,_,_,_,_,_,_=>by have:=r.wt_pos;omega
 | N+1,.mk op set kids mn mx md n neg,h,hN,d,s,g,hs,hd=>by
   have hkl:=Re.wtL_len kids;have hwt:1+set.length+Re.wtL kids=(Re.mk op set kids mn mx md n neg).wt:=by simp[Re.wt]
   have ih:=fun k (hk:k∈kids)=>f103 b0 b3 pc tc hp htc caps top ht hpc htc2 N k (by have:=Re.wtL_mem hk;omega) (by have:=Re.wtL_mem hk;omega);have f104':=f104 caps top ht op set kids mn mx md n neg (by omega) (by omega);rw[show (.pt (reC (.mk op set kids mn mx md n neg)):AV)=.pt (nodeL op set kids mn mx md n neg) from congrArg AV.pt Ag];have hsz:(Re.mk op set kids mn mx md n neg).size=1+Re.sizeL kids:=by simp[Re.size]
   have hdz:(Re.mk op set kids mn mx md n neg).depth=1+Re.depthL kids:=by simp[Re.depth]
   have hwh:wholeG caps top (.mk op set kids mn mx md n neg)=(formedG caps top (.mk op set kids mn mx md n neg)&&wholeL caps top kids):=by rw[wholeG]
   have fr:∀(s:Int) (g:Bool),frzArgs pol1 77 0 [.pt (nodeL op set kids mn mx md n neg),I d,.rf 1 1 0 0,.rf 2 1 0 0,.pt pc,.pt tc,.rf 4 1 0 0]
     [b0,.row 1 [I s] 0,.row 1 [.bool g] 0,b3,.row 1 [.clo 77 [.rf 1 1 0 0,.rf 2 1 0 0,.pt pc,.pt tc,.rf 4 1 0 0]] 0] =
     some ([.pt (nodeL op set kids mn mx md n neg),I d,.rf 1 1 0 0,.rf 2 1 0 0,.pt pc,.pt tc,.rf 4 1 0 0],[b0,.row 1 [I s] 0,.row 1 [.bool g] 0,b3,.row 1 [.clo 77 [.rf 1 1 0 0,.rf 2 1 0 0,.pt pc,.pt tc,.rf 4 1 0 0]] 0]):=fun s g=>
    AR _ _ _ (by simp[mixOk,show pol1.byref 77 2=true from rfl,show pol1.byref 77 3=true from rfl,show pol1.byref 77 4=true from rfl,show pol1.byref 77 5=true from rfl,show pol1.byref 77 6=true from rfl,AV.plain,AV.plainL,AE,AK])
   have rt:∀(x:Bool) (s s':Int) (g g':Bool),retPol pol1 77 [b0,.row 1 [I s] 0,.row 1 [.bool g] 0,b3,.row 1 [.clo 77 [.rf 1 1 0 0,.rf 2 1 0 0,.pt pc,.pt tc,.rf 4 1 0 0]] 0] (.bool x) [b0,.row 1 [I s'] 0,.row 1 [.bool g'] 0,b3,.row 1 [.clo 77 [.rf 1 1 0 0,.rf 2 1 0 0,.pt pc,.pt tc,.rf 4 1 0 0]] 0] =
     some (.bool x,[b0,.row 1 [I s'] 0,.row 1 [.bool g'] 0,b3,.row 1 [.clo 77 [.rf 1 1 0 0,.rf 2 1 0 0,.pt pc,.pt tc,.rf 4 1 0 0]] 0]):=fun x s s' g g'=>
    GV rfl rfl rfl (by simp[keptOk,MB.beq_refl,MB.under,AV.underL,AV.under]) rfl
   have hs1:((s:Int)+1)=((s+1:Nat):Int):=rfl;subst htc2;by_cases hc:256<s+1∨24<d
   ·refine⟨false,g,s+1,?_,?_,fun h=>by cases h⟩
    ·refine AT (pol:=pol1) Tryz.func77 rfl rfl rfl rfl (fr s g) ?_;have hc':256<s+1∨(¬ 256<s+1/\24<d):=by omega
     rcases hc' with h1|⟨h1,h2⟩
     all_goals (
      simp +contextual (disch:=omega) only[Tryz.f77,dd77,go_sem,simprocAttr,mu77,↓AD,↓AC,↓AB,↓AA,hs1,rt];repeat' (first|intro _|apply And.intro|(unfold dOk;kernel_rfl)|exact St.beq_refl _|exact AI|(show altO _ _ _ _=true;kernel_rfl)|(show (_||_)=true;kernel_rfl)|(show (_&&_)=true;kernel_rfl)))
    ·rw[hsz,hdz]
     symm;rw[decide_eq_false_iff_not]
     omega
   ·have key:∃ r:AV×List MB,(∃(ok g':Bool) (s':Nat),r=(.bool ok,[b0,.row 1 [I s'] 0,.row 1 [.bool g'] 0,b3,.row 1 [.clo 77 [.rf 1 1 0 0,.rf 2 1 0 0,.pt pc,.pt [I top],.rf 4 1 0 0]] 0]) /\
      ok=decide (s+(Re.mk op set kids mn mx md n neg).size<=256/\d+(Re.mk op set kids mn mx md n neg).depth<=25)/\(ok=true->s' = s+(Re.mk op set kids mn mx md n neg).size/\g' = (g&&wholeG caps top (.mk op set kids mn mx md n neg)))) /\
      call Pg pol1 77 [.pt (nodeL op set kids mn mx md n neg),I d,.rf 1 1 0 0,.rf 2 1 0 0,.pt pc,.pt [I top],.rf 4 1 0 0]
       [b0,.row 1 [I s] 0,.row 1 [.bool g] 0,b3,.row 1 [.clo 77 [.rf 1 1 0 0,.rf 2 1 0 0,.pt pc,.pt [I top],.rf 4 1 0 0]] 0]=some r:=by
     rw[hsz,hdz,hwh];refine Hf (pol:=pol1) Tryz.func77 rfl rfl rfl rfl (fr s g) ?_;generalize formedG caps top (.mk op set kids mn mx md n neg)=fg at *;clear hwh hsz hdz;have hd0:d<=24:=by omega
     have hs0:s+1<=256:=by omega
     cases g
     ·simp +contextual (disch:=omega) only[Tryz.f77,dd77,go_sem,simprocAttr,mu77,↓AD,↓AC,↓AB,↓AA,hs1]
      refine Af (M:=(mskOf (pol1.mask 77) (pol1.gc 77) (pol1.acts 77) 0 6)) rfl kids.length (fun i=>(⟨47,[(32,I i),(31,I kids.length),(6,.rf 4 1 0 0),(1,I d),(0,.pt (nodeL op set kids mn mx md n neg))],[b0,.row 1 [I ((s+1+Re.sizeL (kids.take i):Nat):Int)] 0,.row 1 [.bool (false&&wholeL caps top (kids.take i))] 0,b3,.row 1 [.clo 77 [.rf 1 1 0 0,.rf 2 1 0 0,.pt pc,.pt [I top],.rf 4 1 0 0]] 0]⟩:St))
       (fun i=>s+1+Re.sizeL (kids.take i)<=256/\d+1+Re.depthL (kids.take i)<=25) ?_ ?_ ⟨by simp[Re.sizeL];omega,by simp[Re.depthL];omega⟩ _ ?_
      ·rintro i hi ⟨hb1,hb2⟩;obtain⟨k,hk⟩:∃ k,kids[i]?=some k:=⟨_,getElem?_eq_getElem hi⟩;obtain⟨ok,g2,s2,hcall,hok,himp⟩:=ih k (mem_of_getElem? hk) (d+1) (s+1+Re.sizeL (kids.take i)) (false&&wholeL caps top (kids.take i)) (by omega) (by omega);have e1:=Re.sizeL_take hk;have e2:=Re.depthL_take hk;have e3:=CV (caps:=caps) (top:=top) hk;have e4:=Re.sizeL_le (l:=kids) (i:=i+1);have e5:=Re.depthL_le (l:=kids) (i:=i+1);have hl8:=AO k;have ht8:=AP k;have hd1:((d:Int)+1)=((d+1:Nat):Int):=rfl;cases ok with
       | false=>
         have hcf:=of_decide_eq_false hok.symm;simp +contextual (disch:=omega) only[Tryz.f77,dd77,go_sem,simprocAttr,mu77,↓AD,↓AC,↓AB,↓AA,hk,hl8,ht8,hd1,hcall];repeat' (first|intro _|apply And.intro|(unfold dOk;kernel_rfl)|exact St.beq_refl _|exact AI|(show altO _ _ _ _=true;kernel_rfl)|(show (_||_)=true;kernel_rfl)|(show (_&&_)=true;kernel_rfl))
         refine⟨_,⟨false,g2,s2,rfl,?_,fun h=>by cases h⟩,rt false _ _ _ _⟩
         symm;rw[decide_eq_false_iff_not];omega
       | true=>
         have hct:=of_decide_eq_true hok.symm;obtain⟨rfl,rfl⟩:=himp rfl;rw[e1,e2,e3,<- Bool.and_assoc];simp +contextual (disch:=omega) only[Tryz.f77,dd77,go_sem,simprocAttr,mu77,↓AD,↓AC,↓AB,↓AA,hk,hl8,ht8,hd1,hcall];repeat' (first|intro _|apply And.intro|(unfold dOk;kernel_rfl)|exact St.beq_refl _|exact AI|(show altO _ _ _ _=true;kernel_rfl)|(show (_||_)=true;kernel_rfl)|(show (_&&_)=true;kernel_rfl))
         rw[Nat.add_assoc (s+1)];rfl
      ·rintro⟨hb1,hb2⟩;rw[take_length]at hb1 hb2 |-;simp +contextual (disch:=omega) only[Tryz.f77,dd77,go_sem,simprocAttr,mu77,↓AD,↓AC,↓AB,↓AA];refine⟨_,⟨true,(false&&wholeL caps top kids),s+1+Re.sizeL kids,rfl,?_,fun _=>⟨by omega,by simp⟩⟩,rt true _ _ _ _⟩;rfl
      ·rfl
     ·simp +contextual (disch:=omega) only[Tryz.f77,dd77,go_sem,simprocAttr,mu77,↓AD,↓AC,↓AB,↓AA,hs1,f104',hpc]
      refine Af (M:=(mskOf (pol1.mask 77) (pol1.gc 77) (pol1.acts 77) 0 6)) rfl kids.length (fun i=>(⟨47,[(32,I i),(31,I kids.length),(6,.rf 4 1 0 0),(1,I d),(0,.pt (nodeL op set kids mn mx md n neg))],[b0,.row 1 [I ((s+1+Re.sizeL (kids.take i):Nat):Int)] 0,.row 1 [.bool (fg&&wholeL caps top (kids.take i))] 0,b3,.row 1 [.clo 77 [.rf 1 1 0 0,.rf 2 1 0 0,.pt pc,.pt [I top],.rf 4 1 0 0]] 0]⟩:St))
       (fun i=>s+1+Re.sizeL (kids.take i)<=256/\d+1+Re.depthL (kids.take i)<=25) ?_ ?_ ⟨by simp[Re.sizeL];omega,by simp[Re.depthL];omega⟩ _ ?_
      ·rintro i hi ⟨hb1,hb2⟩;obtain⟨k,hk⟩:∃ k,kids[i]?=some k:=⟨_,getElem?_eq_getElem hi⟩;obtain⟨ok,g2,s2,hcall,hok,himp⟩:=ih k (mem_of_getElem? hk) (d+1) (s+1+Re.sizeL (kids.take i)) (fg&&wholeL caps top (kids.take i)) (by omega) (by omega);have e1:=Re.sizeL_take hk;have e2:=Re.depthL_take hk;have e3:=CV (caps:=caps) (top:=top) hk;have e4:=Re.sizeL_le (l:=kids) (i:=i+1);have e5:=Re.depthL_le (l:=kids) (i:=i+1);have hl8:=AO k;have ht8:=AP k;have hd1:((d:Int)+1)=((d+1:Nat):Int):=rfl;cases ok with
       | false=>
         have hcf:=of_decide_eq_false hok.symm;simp +contextual (disch:=omega) only[Tryz.f77,dd77,go_sem,simprocAttr,mu77,↓AD,↓AC,↓AB,↓AA,hk,hl8,ht8,hd1,hcall];repeat' (first|intro _|apply And.intro|(unfold dOk;kernel_rfl)|exact St.beq_refl _|exact AI|(show altO _ _ _ _=true;kernel_rfl)|(show (_||_)=true;kernel_rfl)|(show (_&&_)=true;kernel_rfl))
         refine⟨_,⟨false,g2,s2,rfl,?_,fun h=>by cases h⟩,rt false _ _ _ _⟩
         symm;rw[decide_eq_false_iff_not];omega
       | true=>
         have hct:=of_decide_eq_true hok.symm;obtain⟨rfl,rfl⟩:=himp rfl;rw[e1,e2,e3,<- Bool.and_assoc];simp +contextual (disch:=omega) only[Tryz.f77,dd77,go_sem,simprocAttr,mu77,↓AD,↓AC,↓AB,↓AA,hk,hl8,ht8,hd1,hcall];repeat' (first|intro _|apply And.intro|(unfold dOk;kernel_rfl)|exact St.beq_refl _|exact AI|(show altO _ _ _ _=true;kernel_rfl)|(show (_||_)=true;kernel_rfl)|(show (_&&_)=true;kernel_rfl))
         rw[Nat.add_assoc (s+1)];rfl
      ·rintro⟨hb1,hb2⟩;rw[take_length]at hb1 hb2 |-;simp +contextual (disch:=omega) only[Tryz.f77,dd77,go_sem,simprocAttr,mu77,↓AD,↓AC,↓AB,↓AA];refine⟨_,⟨true,(fg&&wholeL caps top kids),s+1+Re.sizeL kids,rfl,?_,fun _=>⟨by omega,by simp⟩⟩,rt true _ _ _ _⟩;rfl
      ·rw[show (fg&&wholeL caps top (List.take 0 kids))=fg by simp[wholeL]];rfl
    obtain⟨r,⟨ok,g',s',rfl,h1,h2⟩,h3⟩:=key;exact⟨ok,g',s',h3,h1,h2⟩
structure Pat where
 re:Re
 caps:Int
 runes:Bool
abbrev patC (p:Pat):List AV:=reC p.re++[I p.caps,.bool p.runes]
abbrev patAV (p:Pat):AV:=.agg (patC p)
theorem Aa (p:Pat):AV.plainL (patC p)=true:=by
 rw[C9];intro x hx;rcases List.mem_append.1 hx with h|h
 ·exact(C9 _).1 (Aw p.re) x h
 ·simp at h;rcases h with rfl|rfl<;>rfl
def topI (r:Bool):Int:=if r then 1114111 else 255
theorem D6 (r:Bool):topI r<=1114111:=by cases r<;>simp[topI]
def validP (p:Pat):Int:=if 256<p.re.size∨24<p.re.depth then 4 else if p.caps<0∨9<p.caps∨wholeG p.caps (topI p.runes) p.re=false then 1 else 0
theorem f48 (p:Pat) (hw:p.re.wt<=1000000) (H:List MB):call Pg pol1 26 [patAV p] H=some (I (validP p),H):=by
 obtain⟨re,caps,runes⟩:=p;simp only at hw;refine AQ Tryz.func26 rfl rfl rfl rfl rfl rfl (fun _=>rfl) (by simp[AV.plainL,AV.plain];exact Aa _) rfl ?_ H;have hl8:=AO re;have hpl:=Aa ⟨re,caps,runes⟩;have hget8:(reC re++[I caps,.bool runes])[8]?=some (I caps):=by rw[List.getElem?_append_right (by omega),hl8];rfl
 have hget9:(reC re++[I caps,.bool runes])[9]?=some (.bool runes):=by rw[List.getElem?_append_right (by omega),hl8];rfl
 have hz:fz (.rf 0 1 0 0) [.row 10 [.agg (reC re++[I caps,.bool runes])] 0]=some (.pt (reC re++[I caps,.bool runes]),[.row 10 [.agg (reC re++[I caps,.bool runes])] 1]):=
  Ja (x:=.agg (reC re++[I caps,.bool runes])) (k:=10) (z:=0) rfl rfl rfl hpl
 have hlen:(reC re).length+(0+1+1)=10:=by omega
 have h102:=f102 runes;have hall:=AU re;have hz2:∀(b0 b1 b2:MB) (t:Int),fz (.rf 3 1 0 0) [b0,b1,b2,.row 1 [I t] 0]=some (.pt [I t],[b0,b1,b2,.row 1 [I t] 1]):=fun b0 b1 b2 t=>Ja (x:=I t) (k:=1) (z:=0) rfl rfl rfl rfl;have htk8:∀ l,List.take 8 (reC re++l)=reC re:=fun l=>by
  rw[List.take_append_of_le_length (by omega)];exact List.take_of_length_le (by omega)
 rw[show (if runes=true then(1114111:Int) else 255)=topI runes from rfl]at h102;have ht:=D6 runes;have h103:=fun(b0 b3:MB) (g:Bool)=>f103 b0 b3 (reC re++[I caps,.bool runes]) [I (topI runes)] hpl rfl caps (topI runes) ht hget8 rfl re.wt re (Nat.le_refl _) hw 1 0 g (by omega) (by omega);unfold validP;simp only;have hcp:(0<=caps/\caps<=9)∨(0<=caps/\¬ caps<=9)∨¬ 0<=caps:=by omega
 generalize topI runes=top at *;rcases hcp with ⟨hc1,hc2⟩|⟨hc1,hc2⟩|hc1
 ·obtain⟨ok,g',s',hcall,hok,himp⟩:=h103 (.row 10 [.agg (reC re++[I caps,.bool runes])] 1) (.row 1 [I top] 1) true;rw[show ((1:Nat):Int)=1 from rfl,show ((0:Nat):Int)=0 from rfl]at hcall;cases ok with
  | false=>
    have hcf:=of_decide_eq_false hok.symm;rw[if_pos (by omega)];simp +contextual (disch:=omega) only[Tryz.f26,dd26,go_sem,simprocAttr,mu26,↓AD,↓AC,↓AB,↓AA,hl8,hget8,hget9,hz,hz2,h102,hall,htk8,hcall,all_append,lookD,look];exact fzEq rfl rfl
  | true=>
    have hct:=of_decide_eq_true hok.symm;obtain⟨_,hg'⟩:=himp rfl;rw[if_neg (by omega)];cases hwg:wholeG caps top re with
    | true=>
      rw[if_neg (by simp;omega)];rw[hwg]at hg';simp only[Bool.and_true]at hg';subst hg';simp +contextual (disch:=omega) only[Tryz.f26,dd26,go_sem,simprocAttr,mu26,↓AD,↓AC,↓AB,↓AA,hl8,hget8,hget9,hz,hz2,h102,hall,htk8,hcall,all_append,lookD,look];exact fzEq rfl rfl
    | false=>
      rw[if_pos (by simp)];rw[hwg]at hg';simp only[Bool.and_false]at hg';subst hg';simp +contextual (disch:=omega) only[Tryz.f26,dd26,go_sem,simprocAttr,mu26,↓AD,↓AC,↓AB,↓AA,hl8,hget8,hget9,hz,hz2,h102,hall,htk8,hcall,all_append,lookD,look];exact fzEq rfl rfl
 ·obtain⟨ok,g',s',hcall,hok,himp⟩:=h103 (.row 10 [.agg (reC re++[I caps,.bool runes])] 1) (.row 1 [I top] 1) false;rw[show ((1:Nat):Int)=1 from rfl,show ((0:Nat):Int)=0 from rfl]at hcall;cases ok with
  | false=>
    have hcf:=of_decide_eq_false hok.symm;rw[if_pos (by omega)];simp +contextual (disch:=omega) only[Tryz.f26,dd26,go_sem,simprocAttr,mu26,↓AD,↓AC,↓AB,↓AA,hl8,hget8,hget9,hz,hz2,h102,hall,htk8,hcall,all_append,lookD,look];exact fzEq rfl rfl
  | true=>
    have hct:=of_decide_eq_true hok.symm;obtain⟨_,hg'⟩:=himp rfl;rw[if_neg (by omega)];rw[if_pos (by omega)];simp only[Bool.false_and]at hg';subst hg';simp +contextual (disch:=omega) only[Tryz.f26,dd26,go_sem,simprocAttr,mu26,↓AD,↓AC,↓AB,↓AA,hl8,hget8,hget9,hz,hz2,h102,hall,htk8,hcall,all_append,lookD,look];exact fzEq rfl rfl
 ·obtain⟨ok,g',s',hcall,hok,himp⟩:=h103 (.row 10 [.agg (reC re++[I caps,.bool runes])] 1) (.row 1 [I top] 1) false;rw[show ((1:Nat):Int)=1 from rfl,show ((0:Nat):Int)=0 from rfl]at hcall;cases ok with
  | false=>
    have hcf:=of_decide_eq_false hok.symm;rw[if_pos (by omega)];simp +contextual (disch:=omega) only[Tryz.f26,dd26,go_sem,simprocAttr,mu26,↓AD,↓AC,↓AB,↓AA,hl8,hget8,hget9,hz,hz2,h102,hall,htk8,hcall,all_append,lookD,look];exact fzEq rfl rfl
  | true=>
    have hct:=of_decide_eq_true hok.symm;obtain⟨_,hg'⟩:=himp rfl;rw[if_neg (by omega)];rw[if_pos (by omega)];simp only[Bool.false_and]at hg';subst hg';simp +contextual (disch:=omega) only[Tryz.f26,dd26,go_sem,simprocAttr,mu26,↓AD,↓AC,↓AB,↓AA,hl8,hget8,hget9,hz,hz2,h102,hall,htk8,hcall,all_append,lookD,look];exact fzEq rfl rfl
end
section
def Told (r:Re):Prop:=(treeT r).length<=300000000/\∀ H,call Pg pol1 19 [reAV r] H=some (T (treeT r),H)
theorem t56 (r:Re) (h:Told r) (H:List MB):call Pg pol1 56 [reAV r] H=some (T (grpT (opIn [0,2,3] r) (treeT r)),H):=by
 obtain⟨hl,h19⟩:=h;obtain⟨op,set,kids,mn,mx,md,n,neg⟩:=r;generalize treeT (.mk op set kids mn mx md n neg)=X at *;simp only[opIn];have ht:=AP (.mk op set kids mn mx md n neg);simp only[Ag]at ht;rw[show reAV (.mk op set kids mn mx md n neg)=.agg (nodeL op set kids mn mx md n neg) from congrArg AV.agg Ag]at *;refine AQ Tryz.func56 rfl rfl rfl rfl rfl rfl (fun _=>rfl) (by simp[AV.plain,AV.plainL,AE,AK]) rfl ?_ H;have hc:op=0∨op=2∨op=3∨(op≠0/\op≠2/\op≠3):=by omega
 rcases hc with rfl|rfl|rfl|⟨h1,h2,h3⟩
 ·simp +contextual -implicitDefEqProofs (disch:=omega) only[Tryz.f56,dd56,go_sem,simprocAttr,mu56,↓AD,↓AC,↓AB,↓AA,h19,evStrOp,AN,sapp,kS1,kS2,kS3,kS4,kS5,kS6,kS7,kS8,kS9,kS10,kS11,kS12,kS13,kS14,kS15,kS16,kS17,kS18,kS19,kS20,kS21,kS22,kS23,kS24,kS25,kS26,kS27,kS28,kS29,kS30,kS31,kS32,kS33,kS34,kS35,kS36,kS37,kS38];exact⟨_,rfl⟩
 ·simp +contextual -implicitDefEqProofs (disch:=omega) only[Tryz.f56,dd56,go_sem,simprocAttr,mu56,↓AD,↓AC,↓AB,↓AA,h19,evStrOp,AN,sapp,kS1,kS2,kS3,kS4,kS5,kS6,kS7,kS8,kS9,kS10,kS11,kS12,kS13,kS14,kS15,kS16,kS17,kS18,kS19,kS20,kS21,kS22,kS23,kS24,kS25,kS26,kS27,kS28,kS29,kS30,kS31,kS32,kS33,kS34,kS35,kS36,kS37,kS38];exact⟨_,rfl⟩
 ·simp +contextual -implicitDefEqProofs (disch:=omega) only[Tryz.f56,dd56,go_sem,simprocAttr,mu56,↓AD,↓AC,↓AB,↓AA,h19,evStrOp,AN,sapp,kS1,kS2,kS3,kS4,kS5,kS6,kS7,kS8,kS9,kS10,kS11,kS12,kS13,kS14,kS15,kS16,kS17,kS18,kS19,kS20,kS21,kS22,kS23,kS24,kS25,kS26,kS27,kS28,kS29,kS30,kS31,kS32,kS33,kS34,kS35,kS36,kS37,kS38];exact⟨_,rfl⟩
 ·have e:([0,2,3]:List Int).contains op=false:=by simp;omega
  simp +contextual -implicitDefEqProofs (disch:=omega) only[Tryz.f56,dd56,go_sem,simprocAttr,mu56,↓AD,↓AC,↓AB,↓AA,h19,e,evStrOp,AN,sapp,kS1,kS2,kS3,kS4,kS5,kS6,kS7,kS8,kS9,kS10,kS11,kS12,kS13,kS14,kS15,kS16,kS17,kS18,kS19,kS20,kS21,kS22,kS23,kS24,kS25,kS26,kS27,kS28,kS29,kS30,kS31,kS32,kS33,kS34,kS35,kS36,kS37,kS38];exact⟨_,rfl⟩
theorem t57 (r:Re) (h:Told r) (H:List MB):call Pg pol1 57 [reAV r] H=some (T (grpT (opIn [3] r) (treeT r)),H):=by
 obtain⟨hl,h19⟩:=h;obtain⟨op,set,kids,mn,mx,md,n,neg⟩:=r;generalize treeT (.mk op set kids mn mx md n neg)=X at *;simp only[opIn];rw[show reAV (.mk op set kids mn mx md n neg)=.agg (nodeL op set kids mn mx md n neg) from congrArg AV.agg Ag]at *;refine AQ Tryz.func57 rfl rfl rfl rfl rfl rfl (fun _=>rfl) (by simp[AV.plain,AV.plainL,AE,AK]) rfl ?_ H;by_cases h3:op=3
 ·subst h3;simp +contextual -implicitDefEqProofs (disch:=omega) only[Tryz.f57,dd57,go_sem,simprocAttr,mu57,↓AD,↓AC,↓AB,↓AA,h19,evStrOp,AN,sapp,kS1,kS2,kS3,kS4,kS5,kS6,kS7,kS8,kS9,kS10,kS11,kS12,kS13,kS14,kS15,kS16,kS17,kS18,kS19,kS20,kS21,kS22,kS23,kS24,kS25,kS26,kS27,kS28,kS29,kS30,kS31,kS32,kS33,kS34,kS35,kS36,kS37,kS38];exact⟨_,rfl⟩
 ·have e:([3]:List Int).contains op=false:=by simp;omega
  simp +contextual -implicitDefEqProofs (disch:=omega) only[Tryz.f57,dd57,go_sem,simprocAttr,mu57,↓AD,↓AC,↓AB,↓AA,h19,e,evStrOp,AN,sapp,kS1,kS2,kS3,kS4,kS5,kS6,kS7,kS8,kS9,kS10,kS11,kS12,kS13,kS14,kS15,kS16,kS17,kS18,kS19,kS20,kS21,kS22,kS23,kS24,kS25,kS26,kS27,kS28,kS29,kS30,kS31,kS32,kS33,kS34,kS35,kS36,kS37,kS38];exact⟨_,rfl⟩
theorem FV {L M:List Int} (h:L=M):∃ H',fz (.str (strB L)) []=some (T M,H'):=⟨_,by rw[h];rfl⟩
theorem t47i (c:Int) (h:0<=c/\c<=4000000000) (H:List MB):call Pg pol1 47 [I c,I 10] H=some (T (digI 10 c),H):=by
 obtain⟨n,rfl⟩:∃ n:Nat,c=n:=⟨c.toNat,by omega⟩;exact t47d n (by omega) H
theorem t58 (set:List (Int×Int)) (k:Re) (mn mx md n:Int) (neg:Bool) (hk:Told k) (hr:repG mn mx md=true) (H:List MB) :
  call Pg pol1 58 [reAV (.mk 4 set [k] mn mx md n neg)] H=some (T (hdT [0,2,3,4] [k]++quantT mn mx md),H):=by
 have h56:=t56 k hk;obtain⟨hl,_⟩:=hk;have ho:hdT [0,2,3,4] [k]=(if opIn [4] k=true then [40,63,58]++grpT (opIn [0,2,3] k) (treeT k)++[41] else grpT (opIn [0,2,3] k) (treeT k)):=by
  rw[hdT];obtain⟨op,set,kids,mn,mx,md,n,neg⟩:=k;by_cases h4:op=4
  ·subst h4;simp[grpT,opIn]
  ·have e1:opIn [0,2,3,4] (.mk op set kids mn mx md n neg)=opIn [0,2,3] (.mk op set kids mn mx md n neg):=by simp[opIn,h4]
   have e2:opIn [4] (.mk op set kids mn mx md n neg)=false:=by simp[opIn,h4]
   rw[e1,e2];simp
 have hgl:=BI (opIn [0,2,3] k) (treeT k);rw[ho];generalize grpT (opIn [0,2,3] k) (treeT k)=X at *;obtain⟨op,kset,kids,kmn,kmx,kmd,kn,kneg⟩:=k;simp only[opIn];have hw:reAV (.mk 4 set [.mk op kset kids kmn kmx kmd kn kneg] mn mx md n neg)=.agg (nodeL 4 set [.mk op kset kids kmn kmx kmd kn kneg] mn mx md n neg):=congrArg AV.agg Ag;rw[hw];rw[show reAV (.mk op kset kids kmn kmx kmd kn kneg)=.agg (nodeL op kset kids kmn kmx kmd kn kneg) from congrArg AV.agg Ag]at *;refine AQ Tryz.func58 rfl rfl rfl rfl rfl rfl (fun _=>rfl) (by simp[AV.plain,AV.plainL,AE,AK,Aw]) rfl ?_ H;unfold repG at hr;simp at hr;have h47a:=t47i mn (by omega);have hla:=A4 10 mn;have hlb:=A4 10 mx;have hmd:md=0∨md=1∨md=2:=by omega
 by_cases hx:mx = -1
 ·subst hx;have hne:¬ (-1=mn):=by omega
  unfold quantT;generalize digI 10 mn=A at *;by_cases h4:op=4
  ·subst h4;rcases hmd with rfl|rfl|rfl
   all_goals
    simp +contextual -implicitDefEqProofs (disch:=omega) only[Tryz.f58,dd58,go_sem,simprocAttr,mu58,↓AD,↓AC,↓AB,↓AA,h56,h47a,Ag,evStrOp,AN,sapp,kS1,kS2,kS3,kS4,kS5,kS6,kS7,kS8,kS9,kS10,kS11,kS12,kS13,kS14,kS15,kS16,kS17,kS18,kS19,kS20,kS21,kS22,kS23,kS24,kS25,kS26,kS27,kS28,kS29,kS30,kS31,kS32,kS33,kS34,kS35,kS36,kS37,kS38];repeat' (first|apply And.intro|intro _)
    all_goals
     first
      | (unfold dOk;kernel_rfl)
      | (refine FV ?_
         first
          | (simp[*];done)
          | (repeat' split
             all_goals
              first
               | (exfalso;omega)
               | (simp;done)
               | (simp[*];done)))
  ·have e4:([4]:List Int).contains op=false:=by simp[h4]
   rcases hmd with rfl|rfl|rfl
   all_goals
    simp +contextual -implicitDefEqProofs (disch:=omega) only[Tryz.f58,dd58,go_sem,simprocAttr,mu58,↓AD,↓AC,↓AB,↓AA,h56,h47a,Ag,e4,evStrOp,AN,sapp,kS1,kS2,kS3,kS4,kS5,kS6,kS7,kS8,kS9,kS10,kS11,kS12,kS13,kS14,kS15,kS16,kS17,kS18,kS19,kS20,kS21,kS22,kS23,kS24,kS25,kS26,kS27,kS28,kS29,kS30,kS31,kS32,kS33,kS34,kS35,kS36,kS37,kS38];repeat' (first|apply And.intro|intro _)
    all_goals
     first
      | (unfold dOk;kernel_rfl)
      | (refine FV ?_
         first
          | (simp[*];done)
          | (repeat' split
             all_goals
              first
               | (exfalso;omega)
               | (simp;done)
               | (simp[*];done)))
 ·have h47b:=t47i mx (by omega);unfold quantT;generalize digI 10 mn=A at *;generalize digI 10 mx=B at *;by_cases h4:op=4
  ·subst h4;rcases hmd with rfl|rfl|rfl
   all_goals
    simp +contextual -implicitDefEqProofs (disch:=omega) only[Tryz.f58,dd58,go_sem,simprocAttr,mu58,↓AD,↓AC,↓AB,↓AA,h56,h47a,h47b,Ag,evStrOp,AN,sapp,kS1,kS2,kS3,kS4,kS5,kS6,kS7,kS8,kS9,kS10,kS11,kS12,kS13,kS14,kS15,kS16,kS17,kS18,kS19,kS20,kS21,kS22,kS23,kS24,kS25,kS26,kS27,kS28,kS29,kS30,kS31,kS32,kS33,kS34,kS35,kS36,kS37,kS38];repeat' (first|apply And.intro|intro _)
    all_goals
     first
      | (unfold dOk;kernel_rfl)
      | (refine FV ?_
         first
          | (simp[*];done)
          | (repeat' split
             all_goals
              first
               | (exfalso;omega)
               | (simp;done)
               | (simp[*];done)))
  ·have e4:([4]:List Int).contains op=false:=by simp[h4]
   rcases hmd with rfl|rfl|rfl
   all_goals
    simp +contextual -implicitDefEqProofs (disch:=omega) only[Tryz.f58,dd58,go_sem,simprocAttr,mu58,↓AD,↓AC,↓AB,↓AA,h56,h47a,h47b,Ag,e4,evStrOp,AN,sapp,kS1,kS2,kS3,kS4,kS5,kS6,kS7,kS8,kS9,kS10,kS11,kS12,kS13,kS14,kS15,kS16,kS17,kS18,kS19,kS20,kS21,kS22,kS23,kS24,kS25,kS26,kS27,kS28,kS29,kS30,kS31,kS32,kS33,kS34,kS35,kS36,kS37,kS38];repeat' (first|apply And.intro|intro _)
    all_goals
     first
      | (unfold dOk;kernel_rfl)
      | (refine FV ?_
         first
          | (simp[*];done)
          | (repeat' split
             all_goals
              first
               | (exfalso;omega)
               | (simp;done)
               | (simp[*];done)))
end
end Go.Ev
