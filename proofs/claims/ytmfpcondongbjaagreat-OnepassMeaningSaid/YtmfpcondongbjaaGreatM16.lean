/- What functions of the program compute; no further conditions. -/
import Derived.Test.YtmfpcondongbjaaGreatM15
set_option linter.unusedVariables false
set_option linter.unusedSimpArgs false
open List (getElem?_eq_getElem head?_drop length_append length_cons map_append map_cons map_nil map_replicate map_set map_take mem_cons mem_cons_self mem_of_getElem? take_length)
open Nat (lt_or_ge mul_one)
open Bool (and_eq_true)
open Go.Proofs Go.RowKit Go.IntWalk
set_option maxHeartbeats 8000000
set_option maxRecDepth 100000
namespace Go.Ev
attribute [local go_sem] BM evAppend evBin evBuild evMakeSlice AV.cells AV.ok splice Ae Al bndO bnd evEq eqCells not_false_eq_true not_true_eq_false AX Array.size_empty length_append map_append
section
attribute [local go_sem] tySzE head?_drop mul_one AQ AU AO AR AS AY
theorem f102 (r:Bool) (H:List MB):call Pg pol1 84 [.bool r] H=some (I (if r then 1114111 else 255),H):=by
 cases r
 ·refine AT Tryz.func84 rfl rfl rfl rfl rfl rfl (fun _=>rfl) (by simp[AV.plain,AV.plainL,AF,AG,AH,AI]) (by simp[AV.plain,AV.plainL,AF,AG,AH,AI]) ?_ H;simp +contextual (disch:=omega) only[Tryz.f84,dd84,go_sem,simprocAttr,mu84,↓AD,↓AC,↓AB,↓AA];exact fzEq rfl rfl
 ·refine AT Tryz.func84 rfl rfl rfl rfl rfl rfl (fun _=>rfl) (by simp[AV.plain,AV.plainL,AF,AG,AH,AI]) (by simp[AV.plain,AV.plainL,AF,AG,AH,AI]) ?_ H;simp +contextual (disch:=omega) only[Tryz.f84,dd84,go_sem,simprocAttr,mu84,↓AD,↓AC,↓AB,↓AA];exact fzEq rfl rfl
theorem M2 {l:List (Int×Int)}{top:Int}{i:Nat}{p:Int×Int} (hp:l[i]?=some p) (h:p.1<0∨p.2<p.1∨top<p.2):badS l top i=true:=by
 simp only[badS,hp];rcases h with h|h|h<;>simp[h]
theorem JH {l:List (Int×Int)}{top:Int}{p:Int×Int} (hp:l[0]?=some p) (h:¬ (p.1<0∨p.2<p.1∨top<p.2)):badS l top 0=false:=by
 have h1:¬ p.1<0:=fun e=>h (.inl e);have h2:¬ p.2<p.1:=fun e=>h (.inr (.inl e));have h3:¬ top<p.2:=fun e=>h (.inr (.inr e));simp[badS,hp,h1,h2,h3]
theorem JI {l:List (Int×Int)}{top:Int}{i:Nat}{p q:Int×Int} (hp:l[i+1]?=some p) (hq:l[i]?=some q) (h:¬ (p.1<0∨p.2<p.1∨top<p.2)):badS l top (i+1)=decide (p.1<q.2+2):=by
 have h1:¬ p.1<0:=fun e=>h (.inl e);have h2:¬ p.2<p.1:=fun e=>h (.inr (.inl e));have h3:¬ top<p.2:=fun e=>h (.inr (.inr e));simp[badS,hp,hq,h1,h2,h3]
theorem M4 {l:List (Int×Int)}{top:Int}{i:Nat}{q:Int×Int} (hq:l[i]?=some q) (h:badS l top i=false):0<=q.1/\q.1<=q.2/\q.2<=top:=by
 simp only[badS,hq,Bool.or_eq_false_iff,decide_eq_false_iff_not]at h;omega
theorem f131 (l:List (Int×Int)) (top:Int) (ht:top<=1114111) (hl:l.length<=1000000) (H:List MB):call Pg pol1 112 [.sl false (l.map spanAV),I top] H=some (.bool (spansG l top),H):=by
 refine AT Tryz.func112 rfl rfl rfl rfl rfl rfl (fun _=>rfl) (by simp[AV.plain,AV.plainL,AG]) rfl ?_ H;by_cases h64:64<l.length
 ·rw[F5 h64];simp +contextual (disch:=omega) only[Tryz.f112,Hl,go_sem,simprocAttr,HH,↓AD,↓AC,↓AB,↓AA];exact fzEq rfl rfl
 ·simp +contextual (disch:=omega) only[Tryz.f112,Hl,go_sem,simprocAttr,HH,↓AD,↓AC,↓AB,↓AA];refine Af (M:=(mskOf (pol1.mask 112) (pol1.gc 112) (pol1.acts 112) 0 4)) rfl l.length (fun i=>(⟨50,[(12,I i),(11,I l.length),(10,.sl false (l.map spanAV)),(1,I top),(0,.sl false (l.map spanAV))],[]⟩:St)) (fun i=>∀ k,k<i->badS l top k=false) ?_ ?_ (fun k h=>by omega) _ (by first|rfl|(refine Ac (n:=0) (m:=⟨some [12,11,10,1,0],some 0,[]⟩) rfl rfl ?_ ?_ ?_<;>first|rfl|(simp[keepT,AV.underL,AV.under,MB.under,AE,AJ,AK,AF,AG,AH,AI,-map_take,-map_replicate,-map_set];done)|(simp[keepT,AV.underL,AV.under,MB.under,AE,AJ,AK,AF,AG,AH,AI,-map_take,-map_replicate,-map_set];omega)))
  ·intro i hlt hg;obtain⟨p,hp⟩:∃ p,l[i]?=some p:=⟨_,getElem?_eq_getElem hlt⟩;have ext:badS l top i=false->∀ k,k<i+1->badS l top k=false:=fun h k hk=>by
    rcases lt_or_ge k i with h1|h1
    ·exact hg k h1
    ·obtain rfl:k=i:=by omega
     exact h
   by_cases hgd:p.1<0∨p.2<p.1∨top<p.2
   ·rw[Dm hlt (M2 hp hgd)];have hgd':p.1<0∨(¬ p.1<0/\p.2<p.1)∨(¬ p.1<0/\¬ p.2<p.1/\top<p.2):=by omega
    rcases hgd' with h|⟨h,h'⟩|⟨h,h',h''⟩
    all_goals (
     simp +contextual (disch:=omega) only[Tryz.f112,Hl,go_sem,simprocAttr,HH,↓AD,↓AC,↓AB,↓AA,hp,spanAV];repeat' (first|intro _|apply And.intro|(unfold dOk;kernel_rfl)|(show (_||_)=true;kernel_rfl)|(show (_&&_)=true;kernel_rfl))
     all_goals exact fzEq rfl rfl)
   ·rcases i with _|i
    ·simp +contextual (disch:=omega) only[Tryz.f112,Hl,go_sem,simprocAttr,HH,↓AD,↓AC,↓AB,↓AA,hp,spanAV];repeat' (first|intro _|apply And.intro|(unfold dOk;kernel_rfl)|(show (_||_)=true;kernel_rfl)|(show (_&&_)=true;kernel_rfl))
     ·exact ext (JH hp hgd) _ ‹_›
     ·exact(by first|rfl|(refine Ac (n:=0) (m:=⟨some [12,11,10,1,0],some 0,[]⟩) rfl rfl ?_ ?_ ?_<;>first|rfl|(simp[keepT,AV.underL,AV.under,MB.under,AE,AJ,AK,AF,AG,AH,AI,-map_take,-map_replicate,-map_set];done)|(simp[keepT,AV.underL,AV.under,MB.under,AE,AJ,AK,AF,AG,AH,AI,-map_take,-map_replicate,-map_set];omega)))
    ·obtain⟨q,hq⟩:∃ q,l[i]?=some q:=⟨_,getElem?_eq_getElem (by omega)⟩;have hqb:=M4 hq (hg i (by omega));have hb:=JI hp hq hgd;by_cases h2:p.1<q.2+2
     ·rw[Dm hlt (by rw[hb];simp[h2])];simp +contextual (disch:=omega) only[Tryz.f112,Hl,go_sem,simprocAttr,HH,↓AD,↓AC,↓AB,↓AA,hp,hq,spanAV];repeat' (first|intro _|apply And.intro|(unfold dOk;kernel_rfl)|(show (_||_)=true;kernel_rfl)|(show (_&&_)=true;kernel_rfl))
      all_goals exact fzEq rfl rfl
     ·simp +contextual (disch:=omega) only[Tryz.f112,Hl,go_sem,simprocAttr,HH,↓AD,↓AC,↓AB,↓AA,hp,hq,spanAV];repeat' (first|intro _|apply And.intro|(unfold dOk;kernel_rfl)|(show (_||_)=true;kernel_rfl)|(show (_&&_)=true;kernel_rfl))
      ·exact ext (by rw[hb];simp[h2]) _ ‹_›
      ·exact(by first|rfl|(refine Ac (n:=0) (m:=⟨some [12,11,10,1,0],some 0,[]⟩) rfl rfl ?_ ?_ ?_<;>first|rfl|(simp[keepT,AV.underL,AV.under,MB.under,AE,AJ,AK,AF,AG,AH,AI,-map_take,-map_replicate,-map_set];done)|(simp[keepT,AV.underL,AV.under,MB.under,AE,AJ,AK,AF,AG,AH,AI,-map_take,-map_replicate,-map_set];omega)))
  ·intro hg;rw[F6 (by omega) hg];simp +contextual (disch:=omega) only[Tryz.f112,Hl,go_sem,simprocAttr,HH,↓AD,↓AC,↓AB,↓AA];exact fzEq rfl rfl
end
section
attribute [local go_sem] tySzE head?_drop mul_one AQ AU AO AR AS AY
abbrev nodeL (op:Int) (set:List (Int×Int)) (kids:List Re) (mn mx md n:Int) (neg:Bool):List AV:=[I op,.sl false (set.map spanAV),.sl false (kids.map reAV),I mn,I mx,I md,I n,.bool neg]
theorem f132 (op:Int) (set:List (Int×Int)) (kids:List Re) (mn mx md n:Int) (neg:Bool) (H:List MB):call Pg pol1 113 [.pt (nodeL op set kids mn mx md n neg)] H=some (.bool (repG mn mx md),H):=by
 refine AT Tryz.func113 rfl rfl rfl rfl rfl rfl (fun _=>rfl) (by simp[AV.plain,AV.plainL,AG,AN]) rfl ?_ H;by_cases h:mn<0∨32<mn∨md<0∨2<md
 ·have e:repG mn mx md=false:=by
   simp only[repG,Bool.and_eq_false_iff,decide_eq_false_iff_not];omega
  rw[e];have h':mn<0∨(¬ mn<0/\32<mn)∨(¬ mn<0/\¬ 32<mn/\md<0)∨(¬ mn<0/\¬ 32<mn/\¬ md<0/\2<md):=by omega
  rcases h' with h|⟨h,h1⟩|⟨h,h1,h2⟩|⟨h,h1,h2,h3⟩
  all_goals (
   simp +contextual (disch:=omega) only[Tryz.f113,Qz,go_sem,simprocAttr,Qm,↓AD,↓AC,↓AB,↓AA];repeat' (first|intro _|apply And.intro|(unfold dOk;kernel_rfl)|(show (_||_)=true;kernel_rfl)|(show (_&&_)=true;kernel_rfl))
   all_goals exact fzEq rfl rfl)
 ·have e:repG mn mx md=(mx == -1||(decide (1<=mx)&&decide (mx<=32)&&decide (mn<=mx))):=by
   have h1:0<=mn:=by omega
   have h2:mn<=32:=by omega
   have h3:0<=md:=by omega
   have h4:md<=2:=by omega
   simp[repG,h1,h2,h3,h4]
  rw[e];simp +contextual (disch:=omega) only[Tryz.f113,Qz,go_sem,simprocAttr,Qm,↓AD,↓AC,↓AB,↓AA];repeat' (first|intro _|apply And.intro|(unfold dOk;kernel_rfl)|(show (_||_)=true;kernel_rfl)|(show (_&&_)=true;kernel_rfl))
  all_goals (first|exact fzEq rfl rfl|refine fzEq rfl (congrArg AV.bool ?_))
  all_goals (rw[Bool.eq_iff_iff];simp<;>omega)
theorem Sq (caps top:Int) (ht:top<=1114111) (op:Int) (set:List (Int×Int)) (kids:List Re) (mn mx md n:Int) (neg:Bool) (hs:set.length<=1000000) (hk:kids.length<=1000000) (H:List MB) :
  call Pg pol1 86 [.pt (nodeL op set kids mn mx md n neg),I caps,I top] H=some (.bool (formedG caps top (.mk op set kids mn mx md n neg)),H):=by
 refine AT Tryz.func86 rfl rfl rfl rfl rfl rfl (fun _=>rfl) (by simp[AV.plain,AV.plainL,AG,AN]) rfl ?_ H;have h131:=f131 set top ht hs;have h132:=f132 op set kids mn mx md n neg;by_cases h0:op<0∨11<op
 ·have e:formedG caps top (.mk op set kids mn mx md n neg)=false:=by
   have:¬ (0<=op/\op<=11):=by omega
   simp only[formedG,Bool.and_eq_false_iff,decide_eq_false_iff_not];omega
  rw[e];simp +contextual (disch:=omega) only[Tryz.f86,dd86,go_sem,simprocAttr,mu86,↓AD,↓AC,↓AB,↓AA,h131,h132];repeat' (first|intro _|apply And.intro|(unfold dOk;kernel_rfl)|(show (_||_)=true;kernel_rfl)|(show (_&&_)=true;kernel_rfl))
  all_goals exact fzEq rfl rfl
 have hop:op=1∨op=4∨op=0∨op=2∨op=3∨op=5∨op=6∨op=7∨op=8∨op=9∨op=10∨op=11:=by omega
 clear h0;rcases hop with rfl|rfl|rfl|rfl|rfl|rfl|rfl|rfl|rfl|rfl|rfl|rfl
 ·cases hsp:spansG set top
  all_goals (
   rw[hsp]at h131;simp +contextual (disch:=omega) only[Tryz.f86,dd86,go_sem,simprocAttr,mu86,↓AD,↓AC,↓AB,↓AA,h131,h132];repeat' (first|intro _|apply And.intro|(unfold dOk;kernel_rfl)|(show (_||_)=true;kernel_rfl)|(show (_&&_)=true;kernel_rfl))
   all_goals (clear h131 h132;refine fzEq rfl (congrArg AV.bool ?_);first|(simp_all [formedG,kidsG];done)|(simp_all [formedG,kidsG];omega)))
 ·cases hrp:repG mn mx md
  all_goals (
   rw[hrp]at h132;simp +contextual (disch:=omega) only[Tryz.f86,dd86,go_sem,simprocAttr,mu86,↓AD,↓AC,↓AB,↓AA,h131,h132];repeat' (first|intro _|apply And.intro|(unfold dOk;kernel_rfl)|(show (_||_)=true;kernel_rfl)|(show (_&&_)=true;kernel_rfl))
   all_goals (clear h131 h132;refine fzEq rfl (congrArg AV.bool ?_);first|(simp_all [formedG,kidsG];done)|(simp_all [formedG,kidsG];omega)))
 all_goals (
  simp +contextual (disch:=omega) only[Tryz.f86,dd86,go_sem,simprocAttr,mu86,↓AD,↓AC,↓AB,↓AA,h131,h132];repeat' (first|intro _|apply And.intro|(unfold dOk;kernel_rfl)|(show (_||_)=true;kernel_rfl)|(show (_&&_)=true;kernel_rfl))
  all_goals (clear h131 h132;refine fzEq rfl (congrArg AV.bool ?_);first|(simp_all [formedG,kidsG,repG];done)|(simp_all [formedG,kidsG,repG];omega)))
end
section
attribute [local go_sem] tySzE head?_drop mul_one AQ AU AO AR AS AY
theorem f112:∀(N:Nat) (r:Re),r.wt<=N->r.wt<=1000000->∀ H,call Pg pol1 173 [reAV r] H=some (I r.size,H)
 | 0,r,h,_,_=>by have:=r.wt_pos;omega
 | N+1,.mk op set kids mn mx md n neg,h,hN,H=>by
   have hkl:=Re.wtL_len kids;have hwt:1+set.length+Re.wtL kids=(Re.mk op set kids mn mx md n neg).wt:=by simp[Re.wt]
   have ih:=fun k (hk:k∈kids)=>f112 N k (by have:=Re.wtL_mem hk;omega) (by have:=Re.wtL_mem hk;omega);have hsz:=Re.sizeL_wt kids;rw[show reAV (.mk op set kids mn mx md n neg)=.agg (nodeL op set kids mn mx md n neg) from congrArg AV.agg Bl];refine AT Tryz.func173 rfl rfl rfl rfl rfl rfl (fun _=>rfl) (by simp[AV.plain,AV.plainL,AG,AN]) rfl ?_ H;simp +contextual (disch:=omega) only[Tryz.f173,PF,go_sem,simprocAttr,Oe,↓AD,↓AC,↓AB,↓AA];refine Af (M:=(mskOf (pol1.mask 173) (pol1.gc 173) (pol1.acts 173) 0 3)) rfl kids.length (fun i=>(⟨21,[(4,I i),(3,I ((1+Re.sizeL (kids.take i):Nat):Int)),(1,.rf 0 1 0 0)],[.row 8 [.agg (nodeL op set kids mn mx md n neg)] 0]⟩:St)) (fun _=>True) ?_ ?_ trivial _ (by first|rfl|(refine Ac (n:=1) (m:=⟨some [4,3,1],some 1,[]⟩) rfl rfl ?_ ?_ ?_<;>first|rfl|(simp[keepT,AV.underL,AV.under,MB.under,AE,AJ,AK,AF,AG,AH,AI,-map_take,-map_replicate,-map_set,Re.sizeL,AN];done)|(simp[keepT,AV.underL,AV.under,MB.under,AE,AJ,AK,AF,AG,AH,AI,-map_take,-map_replicate,-map_set,Re.sizeL,AN];omega)))
   ·intro i hi _;obtain⟨k,hk⟩:∃ k,kids[i]?=some k:=⟨_,getElem?_eq_getElem hi⟩;have hkm:=mem_of_getElem? hk;have ihk:=ih k hkm;have hle:=Re.sizeL_take hk;have hle2:=Re.sizeL_le (l:=kids) (i:=i+1);have hadd:((1+Re.sizeL (kids.take i):Nat):Int)+(k.size:Int)=((1+Re.sizeL (kids.take (i+1)):Nat):Int):=by omega
    have hl8:=AM k;have ht8:=AZ k;simp +contextual (disch:=omega) only[Tryz.f173,PF,go_sem,simprocAttr,Oe,↓AD,↓AC,↓AB,↓AA,hk,ihk,hadd,hl8,ht8];exact(by first|rfl|(refine Ac (n:=1) (m:=⟨some [4,3,1],some 1,[]⟩) rfl rfl ?_ ?_ ?_<;>first|rfl|(simp[keepT,AV.underL,AV.under,MB.under,AE,AJ,AK,AF,AG,AH,AI,-map_take,-map_replicate,-map_set,AN];done)|(simp[keepT,AV.underL,AV.under,MB.under,AE,AJ,AK,AF,AG,AH,AI,-map_take,-map_replicate,-map_set,AN];omega)))
   ·intro _;rw[take_length];simp +contextual (disch:=omega) only[Tryz.f173,PF,go_sem,simprocAttr,Oe,↓AD,↓AC,↓AB,↓AA];exact fzEq rfl (by simp[Re.size])
theorem f113:∀(N:Nat) (r:Re),r.wt<=N->r.wt<=1000000->∀ H,call Pg pol1 174 [reAV r] H=some (I r.depth,H)
 | 0,r,h,_,_=>by have:=r.wt_pos;omega
 | N+1,.mk op set kids mn mx md n neg,h,hN,H=>by
   have hkl:=Re.wtL_len kids;have hwt:1+set.length+Re.wtL kids=(Re.mk op set kids mn mx md n neg).wt:=by simp[Re.wt]
   have ih:=fun k (hk:k∈kids)=>f113 N k (by have:=Re.wtL_mem hk;omega) (by have:=Re.wtL_mem hk;omega);have hsz:=Re.sizeL_wt kids;have hdz:=Re.depthL_size kids;rw[show reAV (.mk op set kids mn mx md n neg)=.agg (nodeL op set kids mn mx md n neg) from congrArg AV.agg Bl];refine AT Tryz.func174 rfl rfl rfl rfl rfl rfl (fun _=>rfl) (by simp[AV.plain,AV.plainL,AG,AN]) rfl ?_ H;simp +contextual (disch:=omega) only[Tryz.f174,PE,go_sem,simprocAttr,Od,↓AD,↓AC,↓AB,↓AA];refine Af (M:=(mskOf (pol1.mask 174) (pol1.gc 174) (pol1.acts 174) 0 3)) rfl kids.length (fun i=>(⟨22,[(4,I i),(3,I ((Re.depthL (kids.take i):Nat):Int)),(1,.rf 0 1 0 0)],[.row 8 [.agg (nodeL op set kids mn mx md n neg)] 0]⟩:St)) (fun _=>True) ?_ ?_ trivial _ (by first|rfl|(refine Ac (n:=1) (m:=⟨some [4,3,1],some 1,[]⟩) rfl rfl ?_ ?_ ?_<;>first|rfl|(simp[keepT,AV.underL,AV.under,MB.under,AE,AJ,AK,AF,AG,AH,AI,-map_take,-map_replicate,-map_set,Re.depthL,AN];done)|(simp[keepT,AV.underL,AV.under,MB.under,AE,AJ,AK,AF,AG,AH,AI,-map_take,-map_replicate,-map_set,Re.depthL,AN];omega)))
   ·intro i hi _;obtain⟨k,hk⟩:∃ k,kids[i]?=some k:=⟨_,getElem?_eq_getElem hi⟩;have hkm:=mem_of_getElem? hk;have ihk:=ih k hkm;have hle:=Re.depthL_take hk;have hadd:(if(k.depth:Int) > (Re.depthL (kids.take i):Nat) then(k.depth:Int) else(Re.depthL (kids.take i):Nat))=((Re.depthL (kids.take (i+1)):Nat):Int):=by rw[hle];split<;>omega
    have hl8:=AM k;have ht8:=AZ k;simp +contextual (disch:=omega) only[Tryz.f174,PE,go_sem,simprocAttr,Od,↓AD,↓AC,↓AB,↓AA,hk,ihk,evMax,hadd,hl8,ht8];exact(by first|rfl|(refine Ac (n:=1) (m:=⟨some [4,3,1],some 1,[]⟩) rfl rfl ?_ ?_ ?_<;>first|rfl|(simp[keepT,AV.underL,AV.under,MB.under,AE,AJ,AK,AF,AG,AH,AI,-map_take,-map_replicate,-map_set,AN];done)|(simp[keepT,AV.underL,AV.under,MB.under,AE,AJ,AK,AF,AG,AH,AI,-map_take,-map_replicate,-map_set,AN];omega)))
   ·intro _;rw[take_length];simp +contextual (disch:=omega) only[Tryz.f174,PE,go_sem,simprocAttr,Od,↓AD,↓AC,↓AB,↓AA];exact fzEq rfl (by simp[Re.depth];omega)
end
section
attribute [local go_sem] tySzE head?_drop mul_one AQ AU AO AR AS AY
theorem DY:∀ {l:List Re}{k:Re},k∈l->nullG k=false->nullAll l=false
 | x::l,k,h,hk=>by
   rcases mem_cons.1 h with e|e
   ·rw[<- e];simp[nullAll,hk]
   ·simp[nullAll,DY e hk]
theorem Dp:∀ {l:List Re},(∀(i:Nat) (k:Re),i<l.length->l[i]?=some k->nullG k=true)->nullAll l=true
 | [],_=>by simp[nullAll]
 | x::l,h=>by
   simp only[nullAll,and_eq_true];exact⟨h 0 x (by simp) rfl,Dp fun i k hi hk=>h (i+1) k (by simp;omega) (by simpa using hk)⟩
theorem C3:∀ {l:List Re}{k:Re},k∈l->nullG k=true->nullAny l=true
 | x::l,k,h,hk=>by
   rcases mem_cons.1 h with e|e
   ·rw[<- e];simp[nullAny,hk]
   ·simp[nullAny,C3 e hk]
theorem DX:∀ {l:List Re},(∀(i:Nat) (k:Re),i<l.length->l[i]?=some k->nullG k=false)->nullAny l=false
 | [],_=>by simp[nullAny]
 | x::l,h=>by
   simp only[nullAny,Bool.or_eq_false_iff];exact⟨h 0 x (by simp) rfl,DX fun i k hi hk=>h (i+1) k (by simp;omega) (by simpa using hk)⟩
theorem f20:∀(N:Nat) (r:Re),r.wt<=N->r.wt<=1000000->∀ H,call Pg pol1 96 [reAV r] H=some (.bool (nullG r),H)
 | 0,r,h,_,_=>by have:=r.wt_pos;omega
 | N+1,.mk op set kids mn mx md n neg,h,hN,H=>by
   have hkl:=Re.wtL_len kids;have hwt:1+set.length+Re.wtL kids=(Re.mk op set kids mn mx md n neg).wt:=by simp[Re.wt]
   have ih:=fun k (hk:k∈kids)=>f20 N k (by have:=Re.wtL_mem hk;omega) (by have:=Re.wtL_mem hk;omega);rw[show reAV (.mk op set kids mn mx md n neg)=.agg (nodeL op set kids mn mx md n neg) from congrArg AV.agg Bl];refine AT Tryz.func96 rfl rfl rfl rfl rfl rfl (fun _=>rfl) (by simp[AV.plain,AV.plainL,AG,AN]) rfl ?_ H;rw[nullG];by_cases h1:op=1
   ·subst h1;rw[if_pos rfl];simp +contextual (disch:=omega) only[Tryz.f96,dd96,go_sem,simprocAttr,mu96,↓AD,↓AC,↓AB,↓AA];exact fzEq rfl rfl
   rw[if_neg h1];by_cases h2:op=2
   ·subst h2;rw[if_pos rfl];simp +contextual (disch:=omega) only[Tryz.f96,dd96,go_sem,simprocAttr,mu96,↓AD,↓AC,↓AB,↓AA];refine Af (M:=(mskOf (pol1.mask 96) (pol1.gc 96) (pol1.acts 96) 0 6)) rfl kids.length (fun i=>(⟨73,[(3,I i),(1,.rf 0 1 0 0)],[.row 8 [.agg (nodeL 2 set kids mn mx md n neg)] 0]⟩:St)) (fun i=>∀ j k,j<i->kids[j]?=some k->nullG k=true) ?_ ?_ (fun j k h=>by omega) _ (by first|rfl|(refine Ac (n:=1) (m:=⟨some [3,1],some 1,[]⟩) rfl rfl ?_ ?_ ?_<;>first|rfl|(simp[keepT,AV.underL,AV.under,MB.under,AE,AJ,AK,AF,AG,AH,AI,-map_take,-map_replicate,-map_set,AN];done)|(simp[keepT,AV.underL,AV.under,MB.under,AE,AJ,AK,AF,AG,AH,AI,-map_take,-map_replicate,-map_set,AN];omega)))
    ·intro i hi hg;obtain⟨k,hk⟩:∃ k,kids[i]?=some k:=⟨_,getElem?_eq_getElem hi⟩;have ihk:=ih k (mem_of_getElem? hk);have hl8:=AM k;have ht8:=AZ k;cases hn:nullG k with
     | false=>
       rw[hn]at ihk;rw[DY (mem_of_getElem? hk) hn];simp +contextual (disch:=omega) only[Tryz.f96,dd96,go_sem,simprocAttr,mu96,↓AD,↓AC,↓AB,↓AA,hk,ihk,hl8,ht8];exact fzEq rfl rfl
     | true=>
       rw[hn]at ihk;simp +contextual (disch:=omega) only[Tryz.f96,dd96,go_sem,simprocAttr,mu96,↓AD,↓AC,↓AB,↓AA,hk,ihk,hl8,ht8];refine⟨fun j q hj hq=>?_,(by first|rfl|(refine Ac (n:=1) (m:=⟨some [3,1],some 1,[]⟩) rfl rfl ?_ ?_ ?_<;>first|rfl|(simp[keepT,AV.underL,AV.under,MB.under,AE,AJ,AK,AF,AG,AH,AI,-map_take,-map_replicate,-map_set,AN];done)|(simp[keepT,AV.underL,AV.under,MB.under,AE,AJ,AK,AF,AG,AH,AI,-map_take,-map_replicate,-map_set,AN];omega)))⟩;rcases lt_or_ge j i with h|h
       ·exact hg j q h hq
       ·obtain rfl:j=i:=by omega
        rw[hk]at hq;obtain rfl:=Option.some.inj hq;exact hn
    ·intro hg;rw[Dp fun j k hj hk=>hg j k hj hk];simp +contextual (disch:=omega) only[Tryz.f96,dd96,go_sem,simprocAttr,mu96,↓AD,↓AC,↓AB,↓AA];exact fzEq rfl rfl
   rw[if_neg h2];by_cases h3:op=3∨op=10
   ·rw[if_pos h3];rcases h3 with rfl|rfl
    all_goals (
     simp +contextual (disch:=omega) only[Tryz.f96,dd96,go_sem,simprocAttr,mu96,↓AD,↓AC,↓AB,↓AA];refine Af (M:=(mskOf (pol1.mask 96) (pol1.gc 96) (pol1.acts 96) 0 14)) rfl kids.length (fun i=>(⟨73,[(4,I i),(1,.rf 0 1 0 0)],[.row 8 [.agg (nodeL _ set kids mn mx md n neg)] 0]⟩:St)) (fun i=>∀ j k,j<i->kids[j]?=some k->nullG k=false) ?_ ?_ (fun j k h=>by omega) _ (by first|rfl|(refine Ac (n:=1) (m:=⟨some [4,1],some 1,[]⟩) rfl rfl ?_ ?_ ?_<;>first|rfl|(simp[keepT,AV.underL,AV.under,MB.under,AE,AJ,AK,AF,AG,AH,AI,-map_take,-map_replicate,-map_set,AN];done)|(simp[keepT,AV.underL,AV.under,MB.under,AE,AJ,AK,AF,AG,AH,AI,-map_take,-map_replicate,-map_set,AN];omega)))
     ·intro i hi hg;obtain⟨k,hk⟩:∃ k,kids[i]?=some k:=⟨_,getElem?_eq_getElem hi⟩;have ihk:=ih k (mem_of_getElem? hk);have hl8:=AM k;have ht8:=AZ k;cases hn:nullG k with
      | true=>
        rw[hn]at ihk;rw[C3 (mem_of_getElem? hk) hn];simp +contextual (disch:=omega) only[Tryz.f96,dd96,go_sem,simprocAttr,mu96,↓AD,↓AC,↓AB,↓AA,hk,ihk,hl8,ht8];exact fzEq rfl rfl
      | false=>
        rw[hn]at ihk;simp +contextual (disch:=omega) only[Tryz.f96,dd96,go_sem,simprocAttr,mu96,↓AD,↓AC,↓AB,↓AA,hk,ihk,hl8,ht8];refine⟨fun j q hj hq=>?_,(by first|rfl|(refine Ac (n:=1) (m:=⟨some [4,1],some 1,[]⟩) rfl rfl ?_ ?_ ?_<;>first|rfl|(simp[keepT,AV.underL,AV.under,MB.under,AE,AJ,AK,AF,AG,AH,AI,-map_take,-map_replicate,-map_set,AN];done)|(simp[keepT,AV.underL,AV.under,MB.under,AE,AJ,AK,AF,AG,AH,AI,-map_take,-map_replicate,-map_set,AN];omega)))⟩;rcases lt_or_ge j i with h|h
        ·exact hg j q h hq
        ·obtain rfl:j=i:=by omega
         rw[hk]at hq;obtain rfl:=Option.some.inj hq;exact hn
     ·intro hg;rw[DX fun j k hj hk=>hg j k hj hk];simp +contextual (disch:=omega) only[Tryz.f96,dd96,go_sem,simprocAttr,mu96,↓AD,↓AC,↓AB,↓AA];exact fzEq rfl rfl)
   rw[if_neg h3];by_cases h4:op=4
   ·subst h4;rw[if_pos rfl];by_cases hm:mn<=0
    ·simp +contextual (disch:=omega) only[Tryz.f96,dd96,go_sem,simprocAttr,mu96,↓AD,↓AC,↓AB,↓AA];exact fzEq rfl (by simp[hm])
    ·cases kids with
     | nil=>
       simp +contextual (disch:=omega) only[Tryz.f96,dd96,go_sem,simprocAttr,mu96,↓AD,↓AC,↓AB,↓AA];exact fzEq rfl (by simp[hm,nullHd])
     | cons k ks=>
       have ihk:=ih k (mem_cons_self ..);have hl8:=AM k;have ht8:=AZ k;simp only[length_cons]at hkl;simp +contextual (disch:=omega) only[Tryz.f96,dd96,go_sem,simprocAttr,mu96,↓AD,↓AC,↓AB,↓AA,ihk,hl8,ht8];exact fzEq rfl (by simp[hm,nullHd])
   rw[if_neg h4];by_cases h5:op=5∨op=9
   ·rw[if_pos h5];rcases h5 with rfl|rfl
    all_goals (
     cases kids with
     | nil=>
       simp +contextual (disch:=omega) only[Tryz.f96,dd96,go_sem,simprocAttr,mu96,↓AD,↓AC,↓AB,↓AA];exact fzEq rfl (by simp[nullHd])
     | cons k ks=>
       have ihk:=ih k (mem_cons_self ..);have hl8:=AM k;have ht8:=AZ k;simp only[length_cons]at hkl;simp +contextual (disch:=omega) only[Tryz.f96,dd96,go_sem,simprocAttr,mu96,↓AD,↓AC,↓AB,↓AA,ihk,hl8,ht8];exact fzEq rfl (by simp[nullHd]))
   rw[if_neg h5];simp +contextual (disch:=omega) only[Tryz.f96,dd96,go_sem,simprocAttr,mu96,↓AD,↓AC,↓AB,↓AA];exact fzEq rfl rfl
end
section
attribute [local go_sem] tySzE head?_drop mul_one AQ AU AO AR AS AY
theorem BG {caps top op:Int}{set:List (Int×Int)}{kids:List Re}{mn mx md n:Int}{neg:Bool} (h:wholeG caps top (.mk op set kids mn mx md n neg)=true) :
  (∀ k∈kids,wholeG caps top k=true)/\kidsG op kids.length=true/\(op=4->repG mn mx md=true)/\(op=5∨op=6∨op=10->1<=n/\n<=caps)/\0<=op/\op<=11:=by
 rw[wholeG,and_eq_true,Ek]at h;obtain⟨h1,h2⟩:=h;simp only[formedG,and_eq_true,decide_eq_true_eq]at h1;obtain⟨⟨⟨⟨⟨⟨a1,a2⟩,a3⟩,a4⟩,a5⟩,a6⟩,a7⟩:=h1;refine⟨h2,a3,fun e=>?_,fun e=>?_,a1,a2⟩
 ·rw[if_pos e]at a5;exact a5
 ·rw[if_pos e]at a6;simpa using a6
theorem f133 (b0:MB) (caps top:Int):∀(N:Nat) (r:Re),r.wt<=N->r.wt<=1000000->wholeG caps top r=true->call Pg pol1 114 [.pt (reC r),.rf 1 1 0 0] [b0,.row 1 [.clo 114 [.rf 1 1 0 0]] 0]=some (.bool (nullG r),[b0,.row 1 [.clo 114 [.rf 1 1 0 0]] 0])
 | 0,r,h,_,_=>by have:=r.wt_pos;omega
 | N+1,.mk op set kids mn mx md n neg,h,hN,hw=>by
   have hkl:=Re.wtL_len kids;have hwt:1+set.length+Re.wtL kids=(Re.mk op set kids mn mx md n neg).wt:=by simp[Re.wt]
   obtain⟨hwk,hkd,hrp,_,ho1,ho2⟩:=BG hw;have ih:=fun k (hk:k∈kids)=>f133 b0 caps top N k (by have:=Re.wtL_mem hk;omega) (by have:=Re.wtL_mem hk;omega) (hwk k hk);rw[show (.pt (reC (.mk op set kids mn mx md n neg)):AV)=.pt (nodeL op set kids mn mx md n neg) from congrArg AV.pt Bl];have fr:frzArgs pol1 114 0 [.pt (nodeL op set kids mn mx md n neg),.rf 1 1 0 0] [b0,.row 1 [.clo 114 [.rf 1 1 0 0]] 0]=some ([.pt (nodeL op set kids mn mx md n neg),.rf 1 1 0 0],[b0,.row 1 [.clo 114 [.rf 1 1 0 0]] 0]):=
    AL _ _ _ (by simp[mixOk,show pol1.byref 114 1=true from rfl,AV.plain,AV.plainL,AG,AN])
   have rt:∀ x:Bool,retPol pol1 114 [b0,.row 1 [.clo 114 [.rf 1 1 0 0]] 0] (.bool x) [b0,.row 1 [.clo 114 [.rf 1 1 0 0]] 0]=some (.bool x,[b0,.row 1 [.clo 114 [.rf 1 1 0 0]] 0]):=fun x=>
    Bg rfl rfl rfl (by simp[keptOk,MB.beq_refl]) rfl
   refine AP (pol:=pol1) Tryz.func114 rfl rfl rfl rfl fr ?_;have any:∀ r':Bool,r' = nullAny kids->∀ i,i<kids.length->∀ k,kids[i]?=some k->(∀ j q,j<i->kids[j]?=some q->nullG q=false)->nullG k=true->r' = true:=fun r' hr i _ k hk _ hn=>by rw[hr,C3 (mem_of_getElem? hk) hn]
   have hop:op=0∨op=1∨op=2∨op=3∨op=4∨op=5∨op=6∨op=7∨op=8∨op=9∨op=10∨op=11:=by omega
   have hone:op=4∨op=5∨op=9->nullHd kids=nullAny kids:=fun e=>by
    have:kids.length=1:=by rcases e with rfl|rfl|rfl<;>simpa [kidsG] using hkd
    match kids,this with
    | [k],_=>simp[nullHd,nullAny]
   by_cases hloop:op=3∨op=10∨op=5∨op=9∨(op=4/\mn≠0)
   ·have hres:nullG (.mk op set kids mn mx md n neg)=nullAny kids:=by
     rw[nullG];rcases hloop with rfl|rfl|rfl|rfl|⟨rfl,hmn⟩
     ·simp
     ·simp
     ·simp[hone (.inr (.inl rfl))]
     ·simp[hone (.inr (.inr rfl))]
     ·have hr:=hrp rfl;simp only[repG,and_eq_true,decide_eq_true_eq]at hr;have:¬ mn<=0:=by omega
      simp[hone (.inl rfl),this]
    rw[hres];clear hres hone any;rcases hloop with rfl|rfl|rfl|rfl|⟨rfl,hmn⟩
    all_goals (
     simp +contextual (disch:=omega) only[Tryz.f114,FY,go_sem,simprocAttr,FQ,↓AD,↓AC,↓AB,↓AA];refine Af (M:=(mskOf (pol1.mask 114) (pol1.gc 114) (pol1.acts 114) 0 25)) rfl kids.length (fun i=>(⟨65,[(53,I i),(52,I kids.length),(1,.rf 1 1 0 0),(0,.pt (nodeL _ set kids mn mx md n neg))],[b0,.row 1 [.clo 114 [.rf 1 1 0 0]] 0]⟩:St)) (fun i=>∀ j k,j<i->kids[j]?=some k->nullG k=false) ?_ ?_ (fun j k h=>by omega) _ rfl
     ·intro i hi hg;obtain⟨k,hk⟩:∃ k,kids[i]?=some k:=⟨_,getElem?_eq_getElem hi⟩;have ihk:=ih k (mem_of_getElem? hk);have hl8:=AM k;have ht8:=AZ k;cases hn:nullG k with
      | true=>
        rw[hn]at ihk;rw[C3 (mem_of_getElem? hk) hn];simp +contextual (disch:=omega) only[Tryz.f114,FY,go_sem,simprocAttr,FQ,↓AD,↓AC,↓AB,↓AA,hk,ihk,hl8,ht8,rt];repeat' (first|intro _|apply And.intro|(unfold dOk;kernel_rfl)|(show (_||_)=true;kernel_rfl)|(show (_&&_)=true;kernel_rfl))
      | false=>
        rw[hn]at ihk;simp +contextual (disch:=omega) only[Tryz.f114,FY,go_sem,simprocAttr,FQ,↓AD,↓AC,↓AB,↓AA,hk,ihk,hl8,ht8];repeat' (first|intro _|apply And.intro|(unfold dOk;kernel_rfl)|(show (_||_)=true;kernel_rfl)|(show (_&&_)=true;kernel_rfl))
        ·rename_i j q hj hq;rcases lt_or_ge j i with h|h
         ·exact hg j q h hq
         ·obtain rfl:j=i:=by omega
          rw[hk]at hq;obtain rfl:=Option.some.inj hq;exact hn
        ·rfl
     ·intro hg;rw[DX fun j k hj hk=>hg j k hj hk];simp +contextual (disch:=omega) only[Tryz.f114,FY,go_sem,simprocAttr,FQ,↓AD,↓AC,↓AB,↓AA,rt])
   ·clear any hone;have hop:op=2∨op=1∨(op=4/\mn=0)∨op=0∨op=6∨op=7∨op=8∨op=11:=by omega
    clear hloop;rcases hop with rfl|hop
    ·rw[nullG,if_neg (by omega),if_pos rfl];simp +contextual (disch:=omega) only[Tryz.f114,FY,go_sem,simprocAttr,FQ,↓AD,↓AC,↓AB,↓AA];refine Af (M:=(mskOf (pol1.mask 114) (pol1.gc 114) (pol1.acts 114) 0 11)) rfl kids.length (fun i=>(⟨65,[(23,I i),(22,I kids.length),(1,.rf 1 1 0 0),(0,.pt (nodeL _ set kids mn mx md n neg))],[b0,.row 1 [.clo 114 [.rf 1 1 0 0]] 0]⟩:St)) (fun i=>∀ j k,j<i->kids[j]?=some k->nullG k=true) ?_ ?_ (fun j k h=>by omega) _ rfl
     ·intro i hi hg;obtain⟨k,hk⟩:∃ k,kids[i]?=some k:=⟨_,getElem?_eq_getElem hi⟩;have ihk:=ih k (mem_of_getElem? hk);have hl8:=AM k;have ht8:=AZ k;cases hn:nullG k with
      | false=>
        rw[hn]at ihk;rw[DY (mem_of_getElem? hk) hn];simp +contextual (disch:=omega) only[Tryz.f114,FY,go_sem,simprocAttr,FQ,↓AD,↓AC,↓AB,↓AA,hk,ihk,hl8,ht8,rt];repeat' (first|intro _|apply And.intro|(unfold dOk;kernel_rfl)|(show (_||_)=true;kernel_rfl)|(show (_&&_)=true;kernel_rfl))
      | true=>
        rw[hn]at ihk;simp +contextual (disch:=omega) only[Tryz.f114,FY,go_sem,simprocAttr,FQ,↓AD,↓AC,↓AB,↓AA,hk,ihk,hl8,ht8];repeat' (first|intro _|apply And.intro|(unfold dOk;kernel_rfl)|(show (_||_)=true;kernel_rfl)|(show (_&&_)=true;kernel_rfl))
        ·rename_i j q hj hq;rcases lt_or_ge j i with h|h
         ·exact hg j q h hq
         ·obtain rfl:j=i:=by omega
          rw[hk]at hq;obtain rfl:=Option.some.inj hq;exact hn
        ·rfl
     ·intro hg;rw[Dp fun j k hj hk=>hg j k hj hk];simp +contextual (disch:=omega) only[Tryz.f114,FY,go_sem,simprocAttr,FQ,↓AD,↓AC,↓AB,↓AA,rt]
    ·have hres:nullG (.mk op set kids mn mx md n neg)=(if op=1 then false else true):=by
      rw[nullG];rcases hop with rfl|⟨rfl,rfl⟩|rfl|rfl|rfl|rfl|rfl<;>simp
     rw[hres];rcases hop with rfl|⟨rfl,rfl⟩|rfl|rfl|rfl|rfl|rfl
     all_goals (
      first|rw[if_pos rfl]|rw[if_neg (by omega)]
      simp +contextual (disch:=omega) only[Tryz.f114,FY,go_sem,simprocAttr,FQ,↓AD,↓AC,↓AB,↓AA,rt])
theorem Sp (r:Re) (hN:r.wt<=1000000) (caps top:Int) (hw:wholeG caps top r=true) (H:List MB):call Pg pol1 87 [reAV r] H=some (.bool (nullG r),H):=by
 refine AT Tryz.func87 rfl rfl rfl rfl rfl rfl (fun _=>rfl) (by simp[AV.plain,AV.plainL,Ad]) rfl ?_ H;have hz:fz (.rf 0 1 0 0) [.row 8 [.agg (reC r)] 0]=some (.pt (reC r),[.row 8 [.agg (reC r)] 1]):=HV (x:=.agg (reC r)) (k:=8) (z:=0) rfl rfl rfl (Ad r);have hc:=fun b0=>f133 b0 caps top r.wt r (Nat.le_refl _) hN hw;have hl8:=AM r;have hal:=Ay r;simp +contextual (disch:=omega) only[Tryz.f87,dd87,go_sem,simprocAttr,mu87,↓AD,↓AC,↓AB,↓AA,hl8,hz,hc,hal,lookD,look];exact fzEq rfl rfl
end
section
attribute [local go_sem] tySzE head?_drop mul_one AQ AU AO AR AS AY
mutual
def lenG:Re->Nat
 | .mk op set kids mn mx md n neg=>
   if op=1∨op=11 then 1 else if op=3 then lenL kids+2*(kids.length-1) else if op=5 then lenL kids+2
   else if op=4 then(if mx = -1 then(mn.toNat+1)*lenL kids+2 else mx.toNat*lenL kids+(mx.toNat-mn.toNat)) else lenL kids
def lenL:List Re->Nat
 | []=>0
 | k::ks=>lenG k+lenL ks
end
theorem D7:∀(a b:List Re),lenL (a++b)=lenL a+lenL b
 | [],b=>by simp[lenL]
 | k::ks,b=>by simp[lenL,D7 ks b,Nat.add_assoc]
theorem EQ {l:List Re}{i:Nat}{k:Re} (h:l[i]?=some k):lenL (l.take (i+1))=lenL (l.take i)+lenG k:=by
 rw[List.take_add_one,h,D7];simp[lenL]
theorem f50 (caps top:Int):∀(N:Nat) (r:Re),r.wt<=N->r.wt<=1000000->wholeG caps top r=true->∀ H,call Pg pol1 55 [.pt (reC r)] H=some (I ((min (lenG r) 8193:Nat):Int),H)
 | 0,r,h,_,_,_=>by have:=r.wt_pos;omega
 | N+1,.mk op set kids mn mx md n neg,h,hN,hw,H=>by
   have hkl:=Re.wtL_len kids;have hwt:1+set.length+Re.wtL kids=(Re.mk op set kids mn mx md n neg).wt:=by simp[Re.wt]
   obtain⟨hwk,hkd,hrp,_,ho1,ho2⟩:=BG hw;have ih:=fun k (hk:k∈kids)=>f50 caps top N k (by have:=Re.wtL_mem hk;omega) (by have:=Re.wtL_mem hk;omega) (hwk k hk);rw[show (.pt (reC (.mk op set kids mn mx md n neg)):AV)=.pt (nodeL op set kids mn mx md n neg) from congrArg AV.pt Bl];refine AT Tryz.func55 rfl rfl rfl rfl rfl rfl (fun _=>rfl) (by simp[AV.plain,AV.plainL,AG,AN]) rfl ?_ H;simp +contextual (disch:=omega) only[Tryz.f55,dd55,go_sem,simprocAttr,mu55,↓AD,↓AC,↓AB,↓AA];refine Af (M:=(mskOf (pol1.mask 55) (pol1.gc 55) (pol1.acts 55) 0 3)) rfl kids.length (fun i=>(⟨81,[(11,I i),(10,I kids.length),(3,I ((min (lenL (kids.take i)) 8193:Nat):Int)),(0,.pt (nodeL op set kids mn mx md n neg))],[]⟩:St)) (fun _=>True) ?_ ?_ trivial _ (by first|rfl|(simp[keepT,AV.underL,AV.under,MB.under,AE,AJ,AK,AF,AG,AH,AI,-map_take,-map_replicate,-map_set,lenL,AN];done))
   ·intro i hi _;obtain⟨k,hk⟩:∃ k,kids[i]?=some k:=⟨_,getElem?_eq_getElem hi⟩;have ihk:=ih k (mem_of_getElem? hk);have hl8:=AM k;have ht8:=AZ k;have e1:=EQ hk;have hm:(if(8193:Int)<((min (lenL (kids.take i)) 8193:Nat):Int)+((min (lenG k) 8193:Nat):Int) then(8193:Int) else((min (lenL (kids.take i)) 8193:Nat):Int)+((min (lenG k) 8193:Nat):Int))=((min (lenL (kids.take (i+1))) 8193:Nat):Int):=by
     rw[e1];split<;>omega
    simp +contextual (disch:=omega) only[Tryz.f55,dd55,go_sem,simprocAttr,mu55,↓AD,↓AC,↓AB,↓AA,hk,ihk,evMin,hm,hl8,ht8];exact(by first|rfl|(simp[keepT,AV.underL,AV.under,MB.under,AE,AJ,AK,AF,AG,AH,AI,-map_take,-map_replicate,-map_set,AN];done))
   ·intro _;rw[take_length];have hop:op=0∨op=1∨op=2∨op=3∨op=4∨op=5∨op=6∨op=7∨op=8∨op=9∨op=10∨op=11:=by omega
    rw[lenG];generalize lenL kids=L at *;by_cases h1:op=1∨op=11
    ·rw[if_pos h1];rcases h1 with rfl|rfl
     all_goals (
      simp +contextual (disch:=omega) only[Tryz.f55,dd55,go_sem,simprocAttr,mu55,↓AD,↓AC,↓AB,↓AA,evMin];exact fzEq rfl rfl)
    rw[if_neg h1];by_cases h3:op=3
    ·subst h3;rw[if_pos rfl];have hk2:2<=kids.length:=by simpa [kidsG] using hkd
     have hw1:IntKind.i64.wrap (((kids.length:Nat):Int)-1)=((kids.length-1:Nat):Int):=AB ⟨by omega,by omega⟩;simp +contextual (disch:=omega) only[Tryz.f55,dd55,go_sem,simprocAttr,mu55,↓AD,↓AC,↓AB,↓AA,evMin];refine fzEq rfl (congrArg (AV.int .i64) ?_);split<;>omega
    rw[if_neg h3];by_cases h5:op=5
    ·subst h5;rw[if_pos rfl];simp +contextual (disch:=omega) only[Tryz.f55,dd55,go_sem,simprocAttr,mu55,↓AD,↓AC,↓AB,↓AA,evMin];refine fzEq rfl (congrArg (AV.int .i64) ?_);split<;>omega
    rw[if_neg h5];by_cases h4:op=4
    ·subst h4;rw[if_pos rfl];have hr:=hrp rfl;simp only[repG,and_eq_true,Bool.or_eq_true,decide_eq_true_eq,beq_iff_eq]at hr;obtain⟨mn',rfl⟩:∃ m:Nat,mn=m:=⟨mn.toNat,by omega⟩;have hmn:mn'<=32:=by omega
     have hmul:∀ a:Nat,a<=33->a*(min L 8193)<=33*8193:=fun a ha=>Nat.mul_le_mul ha (by omega);have hml:=hmul mn' (by omega);have hc1:(mn':Int)*((min L 8193:Nat):Int)=((mn'*min L 8193:Nat):Int):=by simp
     by_cases hmx:mx = -1
     ·subst hmx;rw[if_pos rfl];simp +contextual (disch:=omega) only[Tryz.f55,dd55,go_sem,simprocAttr,mu55,↓AD,↓AC,↓AB,↓AA,evMin,hc1];refine fzEq rfl (congrArg (AV.int .i64) ?_);rw[Nat.succ_mul];by_cases hL:L<=8193
      ·rw[Nat.min_eq_left hL]at *;split<;>omega
      ·have hle:L<=mn'*L+L:=Nat.le_add_left _ _;rw[Nat.min_eq_right (by omega)]at *;split<;>omega
     ·rw[if_neg hmx];obtain⟨mx',rfl⟩:∃ m:Nat,mx=m:=⟨mx.toNat,by omega⟩;obtain⟨e,rfl⟩:∃ e,mx' = mn' + e:=⟨mx'-mn',by omega⟩;have hsub:((mn' + e:Nat):Int)-(mn':Int)=(e:Int):=by omega
      have hme:e*(min L 8193+1)<=33*8194:=Nat.mul_le_mul (by omega) (by omega);have hc2:(e:Int)*((min L 8193+1:Nat):Int)=((e*(min L 8193+1):Nat):Int):=by simp
      have hnn:mn' + e-mn' = e:=by omega
      simp +contextual (disch:=omega) only[Tryz.f55,dd55,go_sem,simprocAttr,mu55,↓AD,↓AC,↓AB,↓AA,evMin,hc1,hc2,hnn,hsub];refine⟨by unfold dOk;kernel_rfl,?_⟩;refine fzEq rfl (congrArg (AV.int .i64) ?_);rw[Nat.mul_add,Nat.add_mul,mul_one]at *;by_cases hL:L<=8193
      ·rw[Nat.min_eq_left hL]at *;split<;>omega
      ·rw[Nat.min_eq_right (by omega)]at *;have h1:mn' = 0∨L<=mn'*L:=by
        rcases Nat.eq_zero_or_pos mn' with h|h
        ·exact .inl h
        ·exact .inr (Nat.le_mul_of_pos_left _ h)
       have h2:e=0∨L<=e*L:=by
        rcases Nat.eq_zero_or_pos e with h|h
        ·exact .inl h
        ·exact .inr (Nat.le_mul_of_pos_left _ h)
       split<;>omega
    rw[if_neg h4];simp +contextual (disch:=omega) only[Tryz.f55,dd55,go_sem,simprocAttr,mu55,↓AD,↓AC,↓AB,↓AA,evMin];refine fzEq rfl (congrArg (AV.int .i64) ?_);split<;>omega
end
section
theorem LQ (l:List Int):((l.map I).all fun y=>decide (y.cells.length=1)&&y.cells.all AV.ok)=true:=by
 simp only[List.all_eq_true,List.mem_map,and_eq_true,decide_eq_true_eq];rintro _ ⟨i,_,rfl⟩;exact⟨rfl,fun x hx=>by
  simp only[AV.cells,List.mem_singleton]at hx;rw[hx];rfl⟩
end
section
attribute [local go_sem] tySzE head?_drop mul_one AQ AU AO AR AS AY
def capP (a b:Int):Int×Int:=if a = -1∨b = -1 then(-1,-1) else(a,b)
def capsN (regs:List Int) (n:Nat):List (Int×Int):=(List.range n).map fun k=>capP (regs.getD (2*k) 0) (regs.getD (2*k+1) 0)
theorem MG (regs:List Int) (n:Nat):capsN regs (n+1)=capsN regs n++[capP (regs.getD (2*n) 0) (regs.getD (2*n+1) 0)]:=by
 simp[capsN,List.range_succ]
theorem Dj (regs:List Int) (n:Nat):(capsN regs n).length=n:=by simp[capsN]
def matAV (s e:Int) (caps:List (Int×Int)):AV:=.agg [I s,I e,.sl false (caps.map spanAV)]
theorem C9 (s e:Int) (caps:List (Int×Int)):AV.plain (matAV s e caps)=true:=by simp[matAV,AV.plain,AV.plainL,AG]
end
structure Way where
 pc:Nat
 at_:Nat
 regs:List Int
inductive Out where
 | done
 | ways (l:List Way)
structure Prog1 where
 ins:Nat->Option Ins
 has:List (Int×Int)->Nat->Bool
 holds:Int->Nat->Bool
def stepW (p:Prog1) (w:Way):Out:=
 match p.ins w.pc with
 | none=>.ways []
 | some i=>
   if i.op=0 then .done
   else if i.op=1 then(if p.has i.set w.at_ then .ways [⟨w.pc+1,w.at_+1,w.regs⟩] else .ways [])
   else if i.op=2 then .ways [⟨i.x.toNat,w.at_,w.regs⟩,⟨i.y.toNat,w.at_,w.regs⟩]
   else if i.op=3 then .ways [⟨i.x.toNat,w.at_,w.regs⟩]
   else if i.op=4 then .ways [⟨w.pc+1,w.at_,w.regs.set i.n.toNat w.at_⟩]
   else(if p.holds i.n w.at_ then .ways [⟨w.pc+1,w.at_,w.regs⟩] else .ways [])
def runW (p:Prog1) (most:Int):Nat->List Way->List Way->Option (List Way)
 | fuel,todo,out=>
   match todo with
   | []=>some out
   | w::rest=>
     if(out.length:Int)=most then some out
     else
      match fuel with
      | 0=>none
      | fuel+1=>
        match stepW p w with
        | .done=>runW p most fuel rest (out++[w])
        | .ways l=>runW p most fuel (l++rest) out
def Way.like (a b:Way):Prop:=a.pc=b.pc/\a.at_=b.at_
theorem Ie {p:Prog1}{most:Int}{fuel:Nat}{w:Way}{rest out:List Way} (h:¬ (out.length:Int)=most) :
  runW p most (fuel+1) (w::rest) out=match stepW p w with
   | .done=>runW p most fuel rest (out++[w])
   | .ways l=>runW p most fuel (l++rest) out:=by
 conv=>lhs;unfold runW
 simp only[h,if_false]
end Go.Ev
namespace Go.Ev
attribute [local go_sem] BM evAppend evBin evBuild evMakeSlice AV.cells AV.ok splice Ae Al bndO bnd evEq eqCells not_false_eq_true not_true_eq_false AX Array.size_empty length_append map_append
section
attribute [local go_sem] tySzE head?_drop mul_one AQ AU AO AR AS AY
abbrev M3:=Int×Int×List (Int×Int)
abbrev mA (m:M3):AV:=matAV m.1 m.2.1 m.2.2
end
end Go.Ev
namespace Go.Ev
def progOf (g:Prg) (t:List Int):Prog1:=⟨fun pc=>g.ins[pc]?,fun s k=>match t[k]? with
 | some x=>hasSpan s x
 | none=>false,fun n k=>assertI n (befS t k) t[k]?⟩
end Go.Ev
namespace Go.Ev
attribute [local go_sem] BM evAppend evBin evBuild evMakeSlice AV.cells AV.ok splice Ae Al bndO bnd evEq eqCells not_false_eq_true not_true_eq_false AX Array.size_empty length_append map_append
section
attribute [local go_sem] tySzE head?_drop mul_one AQ AU AO AR AS AY
theorem PL {P:Program}{pol:Pol}{f:Nat}{args l:List AV}{H H1:List MB} (hp:pol.pure f=true) (h:frzArgs pol f 0 args H=some (l,H1)) (ha:AV.plainL l=true) :
  call P pol f args H=call P pol f l H1:=by
 have hf:∀(l:List AV) (i:Nat),AV.plainL l=true->frzArgs pol f i l H1=some (l,H1):=by
  intro l
  induction l with
  | nil=>intro i _;rfl
  | cons x l ih=>
    intro i h;simp only[AV.plainL,and_eq_true]at h;simp only[frzArgs,Au H1 h.1,ih (i+1) h.2];split<;>simp_all
 rw[BO,BO];unfold evStep;simp only[hp,if_true,h,hf l 0 ha]
end
section
attribute [local go_sem] tySzE head?_drop mul_one AQ AU AO AR AS AY
theorem Fx (ins:List Int):∀ l:List Re,compL ins l=true↔∀ k∈l,compG ins k=true
 | []=>by simp[compL]
 | k::ks=>by simp[compL,Fx ins ks]
theorem Ct {ins:List Int}{l:List Re}{k:Re} (h:k∈l) (hk:compG ins k=false):compL ins l=false:=by
 rw[Bool.eq_false_iff];intro hw;rw[Fx]at hw;rw[hw k h]at hk;cases hk
theorem DN {ins:List Int}{l:List Re} (h:∀(i:Nat) (k:Re),i<l.length->l[i]?=some k->compG ins k=true):compL ins l=true:=by
 rw[Fx];intro k hk;obtain⟨i,hi,e⟩:=List.getElem_of_mem hk;exact h i k hi (by rw[<- e];exact getElem?_eq_getElem hi)
theorem f115 (l:List Int) (x:Int) (hl:l.length<=10000000) (H:List MB):call Pg pol1 41 [.sl false (l.map I),I x] H=some (.bool (decide (x∈l)),H):=by
 refine AT Tryz.func41 rfl rfl rfl rfl rfl rfl (fun _=>rfl) (by simp[AV.plain,AV.plainL,AF]) rfl ?_ H;simp +contextual (disch:=omega) only[Tryz.f41,dd41,go_sem,simprocAttr,mu41,↓AD,↓AC,↓AB,↓AA];refine Af (M:=(mskOf (pol1.mask 41) (pol1.gc 41) (pol1.acts 41) 0 2)) rfl l.length (fun i=>(⟨18,[(5,I i),(1,I x),(0,.sl false (l.map I))],[]⟩:St)) (fun i=>∀ k p,k<i->l[k]?=some p->p≠x) ?_ ?_ (fun k p h=>by omega) _ (by first|rfl|(simp[keepT,AV.underL,AV.under,MB.under,AE,AJ,AK,AF,AG,AH,AI,-map_take,-map_replicate,-map_set];done))
 ·intro i hi hg;obtain⟨p,hp⟩:∃ p,l[i]?=some p:=⟨_,getElem?_eq_getElem hi⟩;by_cases hpx:p=x
  ·subst hpx;rw[decide_eq_true (mem_of_getElem? hp)];simp +contextual (disch:=omega) only[Tryz.f41,dd41,go_sem,simprocAttr,mu41,↓AD,↓AC,↓AB,↓AA,hp];exact fzEq rfl rfl
  ·simp +contextual (disch:=omega) only[Tryz.f41,dd41,go_sem,simprocAttr,mu41,↓AD,↓AC,↓AB,↓AA,hp];refine⟨fun k q hk hq=>?_,(by first|rfl|(simp[keepT,AV.underL,AV.under,MB.under,AE,AJ,AK,AF,AG,AH,AI,-map_take,-map_replicate,-map_set];done))⟩;rcases lt_or_ge k i with h|h
   ·exact hg k q h hq
   ·obtain rfl:k=i:=by omega
    rw[hp]at hq;obtain rfl:=Option.some.inj hq;exact hpx
 ·intro hg;have:¬ x∈l:=fun hm=>by
   obtain⟨i,hi,e⟩:=List.getElem_of_mem hm;exact hg i x hi (by rw[<- e];exact getElem?_eq_getElem hi) rfl
  rw[decide_eq_false this];simp +contextual (disch:=omega) only[Tryz.f41,dd41,go_sem,simprocAttr,mu41,↓AD,↓AC,↓AB,↓AA];exact fzEq rfl rfl
theorem f134 (l:List Int) (x:Int) (hl:l.length<=10000000):∃ r:Int,(0<=r↔x∈l)/\∀ H,call Pg pol1 115 [.sl false (l.map I),I x] H=some (I r,H):=by
 have h:∃ r,(∃ i:Int,(0<=i↔x∈l)/\r=I i)/\∀ H,call Pg pol1 115 [.sl false (l.map I),I x] H=some (r,H):=by
  refine CL Tryz.func115 rfl rfl rfl rfl rfl rfl (fun _=>rfl) (by simp[AV.plain,AV.plainL,AF]) ?_ ?_
  ·rintro _ ⟨i,_,rfl⟩;rfl
  simp +contextual (disch:=omega) only[Tryz.f115,Mz,go_sem,simprocAttr,Mk,↓AD,↓AC,↓AB,↓AA];refine Af (M:=(mskOf (pol1.mask 115) (pol1.gc 115) (pol1.acts 115) 0 2)) rfl l.length (fun i=>(⟨19,[(8,I i),(7,I l.length),(1,I x),(0,.sl false (l.map I))],[]⟩:St)) (fun i=>∀ k p,k<i->l[k]?=some p->p≠x) ?_ ?_ (fun k p h=>by omega) _ (by first|rfl|(simp[keepT,AV.underL,AV.under,MB.under,AE,AJ,AK,AF,AG,AH,AI,-map_take,-map_replicate,-map_set];done))
  ·intro i hi hg;obtain⟨p,hp⟩:∃ p,l[i]?=some p:=⟨_,getElem?_eq_getElem hi⟩;by_cases hpx:p=x
   ·subst hpx;simp +contextual (disch:=omega) only[Tryz.f115,Mz,go_sem,simprocAttr,Mk,↓AD,↓AC,↓AB,↓AA,hp];exact⟨_,⟨i,⟨fun _=>mem_of_getElem? hp,fun _=>by omega⟩,rfl⟩,_,rfl⟩
   ·simp +contextual (disch:=omega) only[Tryz.f115,Mz,go_sem,simprocAttr,Mk,↓AD,↓AC,↓AB,↓AA,hp];refine⟨fun k q hk hq=>?_,(by first|rfl|(simp[keepT,AV.underL,AV.under,MB.under,AE,AJ,AK,AF,AG,AH,AI,-map_take,-map_replicate,-map_set];done))⟩;rcases lt_or_ge k i with h|h
    ·exact hg k q h hq
    ·obtain rfl:k=i:=by omega
     rw[hp]at hq;obtain rfl:=Option.some.inj hq;exact hpx
  ·intro hg;have:¬ x∈l:=fun hm=>by
    obtain⟨i,hi,e⟩:=List.getElem_of_mem hm;exact hg i x hi (by rw[<- e];exact getElem?_eq_getElem hi) rfl
   simp +contextual (disch:=omega) only[Tryz.f115,Mz,go_sem,simprocAttr,Mk,↓AD,↓AC,↓AB,↓AA];exact⟨_,⟨-1,⟨fun h=>by omega,fun h=>absurd h this⟩,rfl⟩,_,rfl⟩
 obtain⟨_,⟨i,h1,rfl⟩,h2⟩:=h;exact⟨i,h1,h2⟩
theorem So (l:List Int) (x:Int) (hl:l.length<=10000000) (H:List MB):call Pg pol1 88 [.sl false (l.map I),I x] H=some (.bool (decide (x∈l)),H):=by
 refine AT Tryz.func88 rfl rfl rfl rfl rfl rfl (fun _=>rfl) (by simp[AV.plain,AV.plainL,AF]) rfl ?_ H;obtain⟨r,h1,h2⟩:=f134 l x hl;simp +contextual (disch:=omega) only[Tryz.f88,dd88,go_sem,simprocAttr,mu88,↓AD,↓AC,↓AB,↓AA,h2];refine fzEq rfl (congrArg AV.bool ?_);rw[decide_eq_decide];exact h1
def zi (m:Nat):Nat->Nat
 | 0=>0
 | _+1=>m
theorem Ns (m i:Nat):max (zi m i) m=m:=by cases i<;>simp[zi]
theorem f53 (caps top:Int):∀(N:Nat) (r:Re) (ins:List Int),r.wt<=N->r.wt<=1000000->ins.length+r.wt<=2000000->wholeG caps top r=true->∀ H,call Pg pol1 61 [reAV r,.sl false (ins.map I)] H=some (.bool (compG ins r),H)
 | 0,r,_,h,_,_,_=>by have:=r.wt_pos;omega
 | N+1,.mk op set kids mn mx md n neg,ins,h,hN,hI,hw=>by
   intro H;have hkl:=Re.wtL_len kids;have hwt:1+set.length+Re.wtL kids=(Re.mk op set kids mn mx md n neg).wt:=by simp[Re.wt]
   obtain⟨hwk,hkd,hrp,_,ho1,ho2⟩:=BG hw;have ih:=fun k (hk:k∈kids) (ins':List Int) (hi:ins'.length<=ins.length+1)=>f53 caps top N k ins' (by have:=Re.wtL_mem hk;omega) (by have:=Re.wtL_mem hk;omega) (by have:=Re.wtL_mem hk;omega) (hwk k hk);have h20:=fun k (hk:k∈kids)=>f20 k.wt k (Nat.le_refl _) (by have:=Re.wtL_mem hk;omega);have h115:=f115 ins n (by omega);rw[show reAV (.mk op set kids mn mx md n neg)=.agg (nodeL op set kids mn mx md n neg) from congrArg AV.agg Bl];refine AT Tryz.func61 rfl rfl rfl rfl rfl rfl (fun _=>rfl) (by simp[AV.plain,AV.plainL,AG,AN,AF]) rfl ?_ H;rw[compG];by_cases h4:op=4/\(md=2∨nullHd kids=true)
   ·rw[if_pos h4];obtain⟨rfl,h4⟩:=h4;by_cases hmd:md=2
    ·simp +contextual (disch:=omega) only[Tryz.f61,dd61,go_sem,simprocAttr,mu61,↓AD,↓AC,↓AB,↓AA];exact fzEq rfl rfl
    ·have hnl:nullHd kids=true:=by rcases h4 with h|h;exact absurd h hmd;exact h
     cases kids with
     | nil=>simp[nullHd]at hnl
     | cons k ks=>
       have h20k:=h20 k (mem_cons_self ..);rw[show nullG k=true from hnl]at h20k;have hl8:=AM k;have ht8:=AZ k;simp only[length_cons]at hkl;simp +contextual (disch:=omega) only[Tryz.f61,dd61,go_sem,simprocAttr,mu61,↓AD,↓AC,↓AB,↓AA,h20k,hl8,ht8];exact fzEq rfl rfl
   rw[if_neg h4];by_cases h5:op=5
   ·subst h5;rw[if_pos rfl];by_cases hm:n∈ins
    ·rw[if_pos hm];rw[decide_eq_true hm]at h115;simp +contextual (disch:=omega) only[Tryz.f61,dd61,go_sem,simprocAttr,mu61,↓AD,↓AC,↓AB,↓AA,h115];exact fzEq rfl rfl
    ·rw[if_neg hm];rw[decide_eq_false hm]at h115;have hcall:∀(b0:MB) (z:Nat) (k:Re),k∈kids->call Pg pol1 61 [reAV k,.ms 1 1 (ins.length+1) 0 (ins.length+1)] [b0,.row 1 ((ins++[n]).map I) z]=some (.bool (compG (ins++[n]) k),[b0,.row 1 ((ins++[n]).map I) (max z (ins.length+1))]):=fun b0 z k hk=>by
      have h1:frzArgs pol1 61 0 [reAV k,.ms 1 1 (ins.length+1) 0 (ins.length+1)] [b0,.row 1 ((ins++[n]).map I) z]=some ([reAV k,.sl false ((ins++[n]).map I)],[b0,.row 1 ((ins++[n]).map I) (max z (ins.length+1))]):=by
       have h2:fz (.ms 1 1 (ins.length+1) 0 (ins.length+1)) [b0,.row 1 ((ins++[n]).map I) z]=some (.sl false ((ins++[n]).map I),[b0,.row 1 ((ins++[n]).map I) (max z (ins.length+1))]):=
        Dq (k:=1) (z:=z) rfl (by simp) (AF _)
       have hby:∀ i,pol1.byref 61 i=false:=fun i=>rfl;simp only[frzArgs,hby,Bool.false_eq_true,if_false,Au _ (show AV.plain (reAV k)=true from Ad k),h2]
      rw[PL rfl h1 (by simp[AV.plainL,AV.plain,Ad,AF,-map_append])];exact ih k hk (ins++[n]) (by simp) _
     have hmm:∀ z,z=0∨z=ins.length+1->max z (ins.length+1)=ins.length+1:=fun z hz=>by omega
     have hinl:ins.length<=2000000:=by omega
     cases ins with
     | nil=>
       simp only[map_nil,map_cons,List.nil_append,List.length_nil,Nat.zero_add]at h115 hcall;simp +contextual (disch:=omega) only[Tryz.f61,dd61,go_sem,simprocAttr,mu61,↓AD,↓AC,↓AB,↓AA,h115];repeat' (first|intro _|apply And.intro|(unfold dOk;kernel_rfl)|(show (_||_)=true;kernel_rfl)|(show (_&&_)=true;kernel_rfl))
       refine Af (M:=(mskOf (pol1.mask 61) (pol1.gc 61) (pol1.acts 61) 0 12)) rfl kids.length (fun i=>(⟨61,[(7,I i),(2,.rf 0 1 0 0),(1,.ms 1 1 (1) 0 (1))],[.row 8 [.agg (nodeL 5 set kids mn mx md n neg)] 0,.row 1 ([I n]) (zi (1) i)]⟩:St)) (fun i=>∀ j k,j<i->kids[j]?=some k->compG ([n]) k=true) ?_ ?_ (fun j k h=>by omega) _ (by first|rfl|(refine Ac (n:=2) (m:=⟨some [7,2,1],some 2,[]⟩) rfl rfl ?_ ?_ ?_<;>first|rfl|(simp[keepT,AV.underL,AV.under,MB.under,AE,AJ,AK,AF,AG,AH,AI,-map_take,-map_replicate,-map_set,AN,zi];done)|(simp[keepT,AV.underL,AV.under,MB.under,AE,AJ,AK,AF,AG,AH,AI,-map_take,-map_replicate,-map_set,AN,zi];omega)))
       ·intro i hi hg;obtain⟨k,hk⟩:∃ k,kids[i]?=some k:=⟨_,getElem?_eq_getElem hi⟩;have ihk:=fun b0 z=>hcall b0 z k (mem_of_getElem? hk);have hl8:=AM k;have ht8:=AZ k;have hz:=Ns (1) i;cases hn:compG ([n]) k with
        | false=>
          rw[hn]at ihk;rw[show compL [n] kids=false from Ct (mem_of_getElem? hk) hn];simp +contextual (disch:=omega) only[Tryz.f61,dd61,go_sem,simprocAttr,mu61,↓AD,↓AC,↓AB,↓AA,hk,ihk,hl8,ht8];exact fzEq rfl rfl
        | true=>
          rw[hn]at ihk;simp +contextual (disch:=omega) only[Tryz.f61,dd61,go_sem,simprocAttr,mu61,↓AD,↓AC,↓AB,↓AA,hk,ihk,hl8,ht8,hz];refine⟨fun j q hj hq=>?_,(by first|rfl|(refine Ac (n:=2) (m:=⟨some [7,2,1],some 2,[]⟩) rfl rfl ?_ ?_ ?_<;>first|rfl|(simp[keepT,AV.underL,AV.under,MB.under,AE,AJ,AK,AF,AG,AH,AI,-map_take,-map_replicate,-map_set,AN,AF];done)|(simp[keepT,AV.underL,AV.under,MB.under,AE,AJ,AK,AF,AG,AH,AI,-map_take,-map_replicate,-map_set,AN,AF];omega)))⟩;rcases lt_or_ge j i with h|h
          ·exact hg j q h hq
          ·obtain rfl:j=i:=by omega
           rw[hk]at hq;obtain rfl:=Option.some.inj hq;exact hn
       ·intro hg;rw[show compL [n] kids=true from DN fun j k hj hk=>hg j k hj hk];simp +contextual (disch:=omega) only[Tryz.f61,dd61,go_sem,simprocAttr,mu61,↓AD,↓AC,↓AB,↓AA];exact fzEq rfl rfl
     | cons x xs=>
       simp only[map_nil,map_cons,map_append,List.cons_append,length_cons]at h115 hcall hinl;have hto:List.take (xs.length+1) (I x::List.map I xs)=I x::List.map I xs:=by rw[List.take_succ_cons];rw[Dl rfl]
       have hsn:x::(xs++[n])=(x::xs)++[n]:=rfl;have hal:=LQ (x::xs);simp +contextual (disch:=omega) only[Tryz.f61,dd61,go_sem,simprocAttr,mu61,↓AD,↓AC,↓AB,↓AA,h115,hto];repeat' (first|intro _|apply And.intro|(unfold dOk;kernel_rfl)|(show (_||_)=true;kernel_rfl)|(show (_&&_)=true;kernel_rfl))
       ·exact LQ xs
       refine Af (M:=(mskOf (pol1.mask 61) (pol1.gc 61) (pol1.acts 61) 0 12)) rfl kids.length (fun i=>(⟨61,[(7,I i),(2,.rf 0 1 0 0),(1,.ms 1 1 (xs.length+1+1) 0 (xs.length+1+1))],[.row 8 [.agg (nodeL 5 set kids mn mx md n neg)] 0,.row 1 (I x::(List.map I xs++[I n])) (zi (xs.length+1+1) i)]⟩:St)) (fun i=>∀ j k,j<i->kids[j]?=some k->compG (x::(xs++[n])) k=true) ?_ ?_ (fun j k h=>by omega) _ (by first|rfl|(refine Ac (n:=2) (m:=⟨some [7,2,1],some 2,[]⟩) rfl rfl ?_ ?_ ?_<;>first|rfl|(simp[keepT,AV.underL,AV.under,MB.under,AE,AJ,AK,AF,AG,AH,AI,-map_take,-map_replicate,-map_set,AN,zi];done)|(simp[keepT,AV.underL,AV.under,MB.under,AE,AJ,AK,AF,AG,AH,AI,-map_take,-map_replicate,-map_set,AN,zi];omega)))
       ·intro i hi hg;obtain⟨k,hk⟩:∃ k,kids[i]?=some k:=⟨_,getElem?_eq_getElem hi⟩;have ihk:=fun b0 z=>hcall b0 z k (mem_of_getElem? hk);have hl8:=AM k;have ht8:=AZ k;have hz:=Ns (xs.length+1+1) i;cases hn:compG (x::(xs++[n])) k with
        | false=>
          rw[hn]at ihk;rw[show compL (x::(xs++[n])) kids=false from Ct (mem_of_getElem? hk) hn];simp +contextual (disch:=omega) only[Tryz.f61,dd61,go_sem,simprocAttr,mu61,↓AD,↓AC,↓AB,↓AA,hk,ihk,hl8,ht8];exact fzEq rfl rfl
        | true=>
          rw[hn]at ihk;simp +contextual (disch:=omega) only[Tryz.f61,dd61,go_sem,simprocAttr,mu61,↓AD,↓AC,↓AB,↓AA,hk,ihk,hl8,ht8,hz];refine⟨fun j q hj hq=>?_,(by first|rfl|(refine Ac (n:=2) (m:=⟨some [7,2,1],some 2,[]⟩) rfl rfl ?_ ?_ ?_<;>first|rfl|(simp[keepT,AV.underL,AV.under,MB.under,AE,AJ,AK,AF,AG,AH,AI,-map_take,-map_replicate,-map_set,AN,AF];done)|(simp[keepT,AV.underL,AV.under,MB.under,AE,AJ,AK,AF,AG,AH,AI,-map_take,-map_replicate,-map_set,AN,AF];omega)))⟩;rcases lt_or_ge j i with h|h
          ·exact hg j q h hq
          ·obtain rfl:j=i:=by omega
           rw[hk]at hq;obtain rfl:=Option.some.inj hq;exact hn
       ·intro hg;rw[show compL (x::(xs++[n])) kids=true from DN fun j k hj hk=>hg j k hj hk];simp +contextual (disch:=omega) only[Tryz.f61,dd61,go_sem,simprocAttr,mu61,↓AD,↓AC,↓AB,↓AA];exact fzEq rfl rfl
   rw[if_neg h5];by_cases h6:5<op/\op≠11
   ·rw[if_pos h6];have hnl:op=4->¬ nullHd kids=true:=fun h=>by omega
    simp +contextual (disch:=omega) only[Tryz.f61,dd61,go_sem,simprocAttr,mu61,↓AD,↓AC,↓AB,↓AA];exact fzEq rfl rfl
   rw[if_neg h6];have hfrz:∀ k (H:List MB),k∈kids->call Pg pol1 61 [reAV k,.sl false (ins.map I)] H=some (.bool (compG ins k),H):=fun k H hk=>ih k hk ins (by omega) H;have hmain:∀ k',kids.head?=some k'->op=4->∀ H,call Pg pol1 96 [reAV k'] H=some (.bool false,H):=fun k' hk' hop4=>by
    cases kids with
    | nil=>cases hk'
    | cons k ks=>
      have e:k=k':=by simpa using hk'
      subst e;have h1:=h20 k (mem_cons_self ..);have:nullG k=false:=by
       cases hn:nullG k with
       | false=>rfl
       | true=>exact absurd ⟨hop4,.inr hn⟩ h4
      rw[this]at h1;exact h1
   have hloop:∀ r,r=compL ins kids->op≠5->True:=fun _ _ _=>trivial;have hone:op=4->kids.length=1:=fun h=>by subst h;simpa [kidsG] using hkd
   by_cases ho4:op=4
   ·subst ho4;have hmd:¬ md=2:=fun h=>h4 ⟨rfl,.inl h⟩;have hk1:=hone rfl
    match kids,hk1 with
    | [k],_=>
      have h20k:=hmain k rfl rfl;have hl8:=AM k;have ht8:=AZ k;have hf:=fun H=>hfrz k H (mem_cons_self ..);generalize hks:([k]:List Re)=kids at *;have hkk:kids.map reAV=[reAV k]:=by rw[<- hks];rfl
      have hget:(kids.map reAV)[0]?=some (reAV k):=by rw[hkk];rfl
      have hget':kids[0]?=some k:=by rw[<- hks];rfl
      have hlen1:kids.length=1:=by rw[<- hks];rfl
      clear hmain hloop hone;simp +contextual (disch:=omega) only[Tryz.f61,dd61,go_sem,simprocAttr,mu61,↓AD,↓AC,↓AB,↓AA,h20k,hl8,ht8,hget'];refine Af (M:=(mskOf (pol1.mask 61) (pol1.gc 61) (pol1.acts 61) 0 12)) rfl (kids).length (fun i=>(⟨61,[(7,I i),(2,.rf 0 1 0 0),(1,.sl false (ins.map I))],[.row 8 [.agg (nodeL _ set (kids) mn mx md n neg)] 0]⟩:St)) (fun i=>∀ j k,j<i->(kids)[j]?=some k->compG ins k=true) ?_ ?_ (fun j k h=>by omega) _ (by first|rfl|(refine Ac (n:=2) (m:=⟨some [7,2,1],some 2,[]⟩) rfl rfl ?_ ?_ ?_<;>first|rfl|(simp[keepT,AV.underL,AV.under,MB.under,AE,AJ,AK,AF,AG,AH,AI,-map_take,-map_replicate,-map_set,AN,Ad];done)|(simp[keepT,AV.underL,AV.under,MB.under,AE,AJ,AK,AF,AG,AH,AI,-map_take,-map_replicate,-map_set,AN,Ad];omega)))
      ·intro i hi hg;obtain⟨k,hk⟩:∃ k,(kids)[i]?=some k:=⟨_,getElem?_eq_getElem hi⟩;have ihk:=fun H=>hfrz k H (mem_of_getElem? hk);have hl8:=AM k;have ht8:=AZ k;cases hn:compG ins k with
       | false=>
         rw[hn]at ihk;rw[show compL ins (kids)=false from Ct (mem_of_getElem? hk) hn];simp +contextual (disch:=omega) only[Tryz.f61,dd61,go_sem,simprocAttr,mu61,↓AD,↓AC,↓AB,↓AA,hk,ihk,hl8,ht8];exact fzEq rfl rfl
       | true=>
         rw[hn]at ihk;simp +contextual (disch:=omega) only[Tryz.f61,dd61,go_sem,simprocAttr,mu61,↓AD,↓AC,↓AB,↓AA,hk,ihk,hl8,ht8];refine⟨fun j q hj hq=>?_,(by first|rfl|(refine Ac (n:=2) (m:=⟨some [7,2,1],some 2,[]⟩) rfl rfl ?_ ?_ ?_<;>first|rfl|(simp[keepT,AV.underL,AV.under,MB.under,AE,AJ,AK,AF,AG,AH,AI,-map_take,-map_replicate,-map_set,AN,Ad];done)|(simp[keepT,AV.underL,AV.under,MB.under,AE,AJ,AK,AF,AG,AH,AI,-map_take,-map_replicate,-map_set,AN,Ad];omega)))⟩;rcases lt_or_ge j i with h|h
         ·exact hg j q h hq
         ·obtain rfl:j=i:=by omega
          rw[hk]at hq;obtain rfl:=Option.some.inj hq;exact hn
      ·intro hg;rw[show compL ins (kids)=true from DN fun j k hj hk=>hg j k hj hk];simp +contextual (disch:=omega) only[Tryz.f61,dd61,go_sem,simprocAttr,mu61,↓AD,↓AC,↓AB,↓AA];exact fzEq rfl rfl
   ·have hop:op=0∨op=1∨op=2∨op=3∨op=11:=by omega
    clear hmain hloop hone h4;rcases hop with rfl|rfl|rfl|rfl|rfl
    all_goals (
     simp +contextual (disch:=omega) only[Tryz.f61,dd61,go_sem,simprocAttr,mu61,↓AD,↓AC,↓AB,↓AA];refine Af (M:=(mskOf (pol1.mask 61) (pol1.gc 61) (pol1.acts 61) 0 12)) rfl (kids).length (fun i=>(⟨61,[(7,I i),(2,.rf 0 1 0 0),(1,.sl false (ins.map I))],[.row 8 [.agg (nodeL _ set (kids) mn mx md n neg)] 0]⟩:St)) (fun i=>∀ j k,j<i->(kids)[j]?=some k->compG ins k=true) ?_ ?_ (fun j k h=>by omega) _ (by first|rfl|(refine Ac (n:=2) (m:=⟨some [7,2,1],some 2,[]⟩) rfl rfl ?_ ?_ ?_<;>first|rfl|(simp[keepT,AV.underL,AV.under,MB.under,AE,AJ,AK,AF,AG,AH,AI,-map_take,-map_replicate,-map_set,AN,Ad];done)|(simp[keepT,AV.underL,AV.under,MB.under,AE,AJ,AK,AF,AG,AH,AI,-map_take,-map_replicate,-map_set,AN,Ad];omega)))
     ·intro i hi hg;obtain⟨k,hk⟩:∃ k,(kids)[i]?=some k:=⟨_,getElem?_eq_getElem hi⟩;have ihk:=fun H=>hfrz k H (mem_of_getElem? hk);have hl8:=AM k;have ht8:=AZ k;cases hn:compG ins k with
      | false=>
        rw[hn]at ihk;rw[show compL ins (kids)=false from Ct (mem_of_getElem? hk) hn];simp +contextual (disch:=omega) only[Tryz.f61,dd61,go_sem,simprocAttr,mu61,↓AD,↓AC,↓AB,↓AA,hk,ihk,hl8,ht8];exact fzEq rfl rfl
      | true=>
        rw[hn]at ihk;simp +contextual (disch:=omega) only[Tryz.f61,dd61,go_sem,simprocAttr,mu61,↓AD,↓AC,↓AB,↓AA,hk,ihk,hl8,ht8];refine⟨fun j q hj hq=>?_,(by first|rfl|(refine Ac (n:=2) (m:=⟨some [7,2,1],some 2,[]⟩) rfl rfl ?_ ?_ ?_<;>first|rfl|(simp[keepT,AV.underL,AV.under,MB.under,AE,AJ,AK,AF,AG,AH,AI,-map_take,-map_replicate,-map_set,AN,Ad];done)|(simp[keepT,AV.underL,AV.under,MB.under,AE,AJ,AK,AF,AG,AH,AI,-map_take,-map_replicate,-map_set,AN,Ad];omega)))⟩;rcases lt_or_ge j i with h|h
        ·exact hg j q h hq
        ·obtain rfl:j=i:=by omega
         rw[hk]at hq;obtain rfl:=Option.some.inj hq;exact hn
     ·intro hg;rw[show compL ins (kids)=true from DN fun j k hj hk=>hg j k hj hk];simp +contextual (disch:=omega) only[Tryz.f61,dd61,go_sem,simprocAttr,mu61,↓AD,↓AC,↓AB,↓AA];exact fzEq rfl rfl)
end
end Go.Ev
