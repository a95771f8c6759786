/- What functions of the program compute; no further conditions. -/
import Derived.Test.YtkolcijbdendhaaGreatF16
set_option linter.unusedVariables false
set_option linter.unusedSimpArgs false
open List (all_append append_nil getElem?_eq_getElem length_append length_eq_zero_iff length_map map_append map_replicate map_set map_take mem_of_getElem? take_length)
open Nat (le_refl lt_or_ge zero_le)
open Go.Proofs Go.RowKit Go.IntWalk
set_option maxHeartbeats 8000000
set_option maxRecDepth 100000
namespace Go.Ev
attribute [local go_sem] evBin AV.cells Ax A8 bndO bnd evEq eqCells not_false_eq_true not_true_eq_false toList_some Array.size_empty tySzE List.head?_drop Nat.mul_one Aj Aq Ag Ak Al Ae
section
attribute [local go_sem] evAppend length_append map_append
theorem DY {caps top op:Int}{set:List (Int×Int)}{kids:List Re}{mn mx md n:Int}{neg:Bool} (h:wholeG caps top (.mk op set kids mn mx md n neg)=true) :
  (∀ k∈kids,wholeG caps top k=true)/\kidsG op kids.length=true/\(op=4->repG mn mx md=true)/\(op=5∨op=6∨op=10->1<=n/\n<=caps)/\0<=op/\op<=11:=by
 rw[wholeG,Bool.and_eq_true,CC]at h;obtain⟨h1,h2⟩:=h;simp only[formedG,Bool.and_eq_true,decide_eq_true_eq]at h1;obtain⟨⟨⟨⟨⟨⟨a1,a2⟩,a3⟩,a4⟩,a5⟩,a6⟩,a7⟩:=h1;refine⟨h2,a3,fun e=>?_,fun e=>?_,a1,a2⟩
 ·rw[if_pos e]at a5;exact a5
 ·rw[if_pos e]at a6;simpa using a6
theorem f133 (b0:MB) (caps top:Int):∀(N:Nat) (r:Re),r.wt<=N->r.wt<=1000000->wholeG caps top r=true->call Pg pol1 40 [.pt (reC r),.rf 1 1 0 0] [b0,.row 1 [.clo 40 [.rf 1 1 0 0]] 0]=some (.bool (nullG r),[b0,.row 1 [.clo 40 [.rf 1 1 0 0]] 0])
 | 0,r,h,_,_=>by have:=r.wt_pos;omega
 | N+1,.mk op set kids mn mx md n neg,h,hN,hw=>by
   have hkl:=Re.wtL_len kids;have hwt:1+set.length+Re.wtL kids=(Re.mk op set kids mn mx md n neg).wt:=by simp[Re.wt]
   obtain⟨hwk,hkd,hrp,_,ho1,ho2⟩:=DY hw;have ih:=fun k (hk:k∈kids)=>f133 b0 caps top N k (by have:=Re.wtL_mem hk;omega) (by have:=Re.wtL_mem hk;omega) (hwk k hk);rw[show (.pt (reC (.mk op set kids mn mx md n neg)):AV)=.pt (nodeL op set kids mn mx md n neg) from congrArg AV.pt Ab];have fr:frzArgs pol1 40 0 [.pt (nodeL op set kids mn mx md n neg),.rf 1 1 0 0] [b0,.row 1 [.clo 40 [.rf 1 1 0 0]] 0]=some ([.pt (nodeL op set kids mn mx md n neg),.rf 1 1 0 0],[b0,.row 1 [.clo 40 [.rf 1 1 0 0]] 0]):=
    AT _ _ _ (by simp[mixOk,show pol1.byref 40 1=true from rfl,AV.plain,AV.plainL,AF,AH])
   have rt:∀ x:Bool,retPol pol1 40 [b0,.row 1 [.clo 40 [.rf 1 1 0 0]] 0] (.bool x) [b0,.row 1 [.clo 40 [.rf 1 1 0 0]] 0]=some (.bool x,[b0,.row 1 [.clo 40 [.rf 1 1 0 0]] 0]):=fun x=>
    Am rfl rfl rfl (by simp[keptOk,MB.beq_refl]) rfl
   refine AX (pol:=pol1) Tryz.func40 rfl rfl rfl rfl fr ?_;have any:∀ r':Bool,r' = nullAny kids->∀ i,i<kids.length->∀ k,kids[i]?=some k->(∀ j q,j<i->kids[j]?=some q->nullG q=false)->nullG k=true->r' = true:=fun r' hr i _ k hk _ hn=>by rw[hr,Cb (mem_of_getElem? hk) hn]
   have hop:op=0∨op=1∨op=2∨op=3∨op=4∨op=5∨op=6∨op=7∨op=8∨op=9∨op=10∨op=11:=by omega
   have hone:op=4∨op=5∨op=9->nullHd kids=nullAny kids:=fun e=>by
    have:kids.length=1:=by rcases e with rfl|rfl|rfl<;>simpa [kidsG] using hkd
    match kids,this with
    | [k],_=>simp[nullHd,nullAny]
   by_cases hloop:op=3∨op=10∨op=5∨op=9∨(op=4/\mn≠0)
   ·have hres:nullG (.mk op set kids mn mx md n neg)=nullAny kids:=by
     rw[nullG];rcases hloop with rfl|rfl|rfl|rfl|⟨rfl,hmn⟩
     ·simp
     ·simp
     ·simp[hone (.inr (.inl rfl))]
     ·simp[hone (.inr (.inr rfl))]
     ·have hr:=hrp rfl;simp only[repG,Bool.and_eq_true,decide_eq_true_eq]at hr;have:¬ mn<=0:=by omega
      simp[hone (.inl rfl),this]
    rw[hres];clear hres hone any;rcases hloop with rfl|rfl|rfl|rfl|⟨rfl,hmn⟩
    all_goals (
     simp +contextual (disch:=omega) only[Tryz.f40,dd40,go_sem,simprocAttr,mu40,↓AE,↓AC,↓AB,↓AA];refine AY (M:=(mskOf (pol1.mask 40) (pol1.gc 40) (pol1.acts 40) 0 25)) rfl kids.length (fun i=>(⟨65,[(53,I i),(52,I kids.length),(1,.rf 1 1 0 0),(0,.pt (nodeL _ set kids mn mx md n neg))],[b0,.row 1 [.clo 40 [.rf 1 1 0 0]] 0]⟩:St)) (fun i=>∀ j k,j<i->kids[j]?=some k->nullG k=false) ?_ ?_ (fun j k h=>by omega) _ rfl
     ·intro i hi hg;obtain⟨k,hk⟩:∃ k,kids[i]?=some k:=⟨_,getElem?_eq_getElem hi⟩;have ihk:=ih k (mem_of_getElem? hk);have hl8:=AK k;have ht8:=AJ k;cases hn:nullG k with
      | true=>
        rw[hn]at ihk;rw[Cb (mem_of_getElem? hk) hn];simp +contextual (disch:=omega) only[Tryz.f40,dd40,go_sem,simprocAttr,mu40,↓AE,↓AC,↓AB,↓AA,hk,ihk,hl8,ht8,rt];repeat' (first|intro _|apply And.intro|(unfold dOk;kernel_rfl)|exact St.beq_refl _|exact AQ|(show altO _ _ _ _=true;kernel_rfl)|(show (_||_)=true;kernel_rfl)|(show (_&&_)=true;kernel_rfl))
      | false=>
        rw[hn]at ihk;simp +contextual (disch:=omega) only[Tryz.f40,dd40,go_sem,simprocAttr,mu40,↓AE,↓AC,↓AB,↓AA,hk,ihk,hl8,ht8];repeat' (first|intro _|apply And.intro|(unfold dOk;kernel_rfl)|exact St.beq_refl _|exact AQ|(show altO _ _ _ _=true;kernel_rfl)|(show (_||_)=true;kernel_rfl)|(show (_&&_)=true;kernel_rfl))
        ·rename_i j q hj hq;rcases lt_or_ge j i with h|h
         ·exact hg j q h hq
         ·obtain rfl:j=i:=by omega
          rw[hk]at hq;obtain rfl:=Option.some.inj hq;exact hn
        ·rfl
     ·intro hg;rw[Cz fun j k hj hk=>hg j k hj hk];simp +contextual (disch:=omega) only[Tryz.f40,dd40,go_sem,simprocAttr,mu40,↓AE,↓AC,↓AB,↓AA,rt])
   ·clear any hone;have hop:op=2∨op=1∨(op=4/\mn=0)∨op=0∨op=6∨op=7∨op=8∨op=11:=by omega
    clear hloop;rcases hop with rfl|hop
    ·rw[nullG,if_neg (by omega),if_pos rfl];simp +contextual (disch:=omega) only[Tryz.f40,dd40,go_sem,simprocAttr,mu40,↓AE,↓AC,↓AB,↓AA];refine AY (M:=(mskOf (pol1.mask 40) (pol1.gc 40) (pol1.acts 40) 0 11)) rfl kids.length (fun i=>(⟨65,[(23,I i),(22,I kids.length),(1,.rf 1 1 0 0),(0,.pt (nodeL _ set kids mn mx md n neg))],[b0,.row 1 [.clo 40 [.rf 1 1 0 0]] 0]⟩:St)) (fun i=>∀ j k,j<i->kids[j]?=some k->nullG k=true) ?_ ?_ (fun j k h=>by omega) _ rfl
     ·intro i hi hg;obtain⟨k,hk⟩:∃ k,kids[i]?=some k:=⟨_,getElem?_eq_getElem hi⟩;have ihk:=ih k (mem_of_getElem? hk);have hl8:=AK k;have ht8:=AJ k;cases hn:nullG k with
      | false=>
        rw[hn]at ihk;rw[C0 (mem_of_getElem? hk) hn];simp +contextual (disch:=omega) only[Tryz.f40,dd40,go_sem,simprocAttr,mu40,↓AE,↓AC,↓AB,↓AA,hk,ihk,hl8,ht8,rt];repeat' (first|intro _|apply And.intro|(unfold dOk;kernel_rfl)|exact St.beq_refl _|exact AQ|(show altO _ _ _ _=true;kernel_rfl)|(show (_||_)=true;kernel_rfl)|(show (_&&_)=true;kernel_rfl))
      | true=>
        rw[hn]at ihk;simp +contextual (disch:=omega) only[Tryz.f40,dd40,go_sem,simprocAttr,mu40,↓AE,↓AC,↓AB,↓AA,hk,ihk,hl8,ht8];repeat' (first|intro _|apply And.intro|(unfold dOk;kernel_rfl)|exact St.beq_refl _|exact AQ|(show altO _ _ _ _=true;kernel_rfl)|(show (_||_)=true;kernel_rfl)|(show (_&&_)=true;kernel_rfl))
        ·rename_i j q hj hq;rcases lt_or_ge j i with h|h
         ·exact hg j q h hq
         ·obtain rfl:j=i:=by omega
          rw[hk]at hq;obtain rfl:=Option.some.inj hq;exact hn
        ·rfl
     ·intro hg;rw[DR fun j k hj hk=>hg j k hj hk];simp +contextual (disch:=omega) only[Tryz.f40,dd40,go_sem,simprocAttr,mu40,↓AE,↓AC,↓AB,↓AA,rt]
    ·have hres:nullG (.mk op set kids mn mx md n neg)=(if op=1 then false else true):=by
      rw[nullG];rcases hop with rfl|⟨rfl,rfl⟩|rfl|rfl|rfl|rfl|rfl<;>simp
     rw[hres];rcases hop with rfl|⟨rfl,rfl⟩|rfl|rfl|rfl|rfl|rfl
     all_goals (
      first|rw[if_pos rfl]|rw[if_neg (by omega)]
      simp +contextual (disch:=omega) only[Tryz.f40,dd40,go_sem,simprocAttr,mu40,↓AE,↓AC,↓AB,↓AA,rt])
theorem f105 (r:Re) (hN:r.wt<=1000000) (caps top:Int) (hw:wholeG caps top r=true) (H:List MB):call Pg pol1 21 [reAV r] H=some (.bool (nullG r),H):=by
 refine AR Tryz.func21 rfl rfl rfl rfl rfl rfl (fun _=>rfl) (by simp[AV.plain,AV.plainL,AO]) rfl ?_ H;have hz:fz (.rf 0 1 0 0) [.row 8 [.agg (reC r)] 0]=some (.pt (reC r),[.row 8 [.agg (reC r)] 1]):=F0 (x:=.agg (reC r)) (k:=8) (z:=0) rfl rfl rfl (AO r);have hc:=fun b0=>f133 b0 caps top r.wt r (le_refl _) hN hw;have hl8:=AK r;have hal:=AP r;simp +contextual (disch:=omega) only[Tryz.f21,dd21,go_sem,simprocAttr,mu21,↓AE,↓AC,↓AB,↓AA,hl8,hz,hc,hal,lookD,look];exact fzEq rfl rfl
end
section
attribute [local go_sem] evAppend length_append map_append
theorem f103 (b0 b3:MB) (pc tc:List AV) (hp:AV.plainL pc=true) (htc:AV.plainL tc=true) (caps top:Int) (ht:top<=1114111) (hpc:pc[8]?=some (I caps)) (htc2:tc=[I top]):∀(N:Nat) (r:Re),r.wt<=N->r.wt<=1000000 ->
  ∀(d s:Nat) (g:Bool),s<=256->d<=1000000 ->
  ∃(ok g':Bool) (s':Nat),call Pg pol1 71 [.pt (reC r),I d,.rf 1 1 0 0,.rf 2 1 0 0,.pt pc,.pt tc,.rf 4 1 0 0]
    [b0,.row 1 [I s] 0,.row 1 [.bool g] 0,b3,.row 1 [.clo 71 [.rf 1 1 0 0,.rf 2 1 0 0,.pt pc,.pt tc,.rf 4 1 0 0]] 0] =
   some (.bool ok,[b0,.row 1 [I s'] 0,.row 1 [.bool g'] 0,b3,.row 1 [.clo 71 [.rf 1 1 0 0,.rf 2 1 0 0,.pt pc,.pt tc,.rf 4 1 0 0]] 0]) /\
   ok=decide (s+r.size<=256/\d+r.depth<=25)/\(ok=true->s' = s+r.size/\g' = (g&&wholeG caps top r))
 | 0,r,h,_,_,_,_,_,_=>by have:=r.wt_pos;omega
 | N+1,.mk op set kids mn mx md n neg,h,hN,d,s,g,hs,hd=>by
   have hkl:=Re.wtL_len kids;have hwt:1+set.length+Re.wtL kids=(Re.mk op set kids mn mx md n neg).wt:=by simp[Re.wt]
   have ih:=fun k (hk:k∈kids)=>f103 b0 b3 pc tc hp htc caps top ht hpc htc2 N k (by have:=Re.wtL_mem hk;omega) (by have:=Re.wtL_mem hk;omega);have f104':=f104 caps top ht op set kids mn mx md n neg (by omega) (by omega);rw[show (.pt (reC (.mk op set kids mn mx md n neg)):AV)=.pt (nodeL op set kids mn mx md n neg) from congrArg AV.pt Ab];have hsz:(Re.mk op set kids mn mx md n neg).size=1+Re.sizeL kids:=by simp[Re.size]
   have hdz:(Re.mk op set kids mn mx md n neg).depth=1+Re.depthL kids:=by simp[Re.depth]
   have hwh:wholeG caps top (.mk op set kids mn mx md n neg)=(formedG caps top (.mk op set kids mn mx md n neg)&&wholeL caps top kids):=by rw[wholeG]
   have fr:∀(s:Int) (g:Bool),frzArgs pol1 71 0 [.pt (nodeL op set kids mn mx md n neg),I d,.rf 1 1 0 0,.rf 2 1 0 0,.pt pc,.pt tc,.rf 4 1 0 0]
     [b0,.row 1 [I s] 0,.row 1 [.bool g] 0,b3,.row 1 [.clo 71 [.rf 1 1 0 0,.rf 2 1 0 0,.pt pc,.pt tc,.rf 4 1 0 0]] 0] =
     some ([.pt (nodeL op set kids mn mx md n neg),I d,.rf 1 1 0 0,.rf 2 1 0 0,.pt pc,.pt tc,.rf 4 1 0 0],[b0,.row 1 [I s] 0,.row 1 [.bool g] 0,b3,.row 1 [.clo 71 [.rf 1 1 0 0,.rf 2 1 0 0,.pt pc,.pt tc,.rf 4 1 0 0]] 0]):=fun s g=>
    AT _ _ _ (by simp[mixOk,show pol1.byref 71 2=true from rfl,show pol1.byref 71 3=true from rfl,show pol1.byref 71 4=true from rfl,show pol1.byref 71 5=true from rfl,show pol1.byref 71 6=true from rfl,AV.plain,AV.plainL,AF,AH])
   have rt:∀(x:Bool) (s s':Int) (g g':Bool),retPol pol1 71 [b0,.row 1 [I s] 0,.row 1 [.bool g] 0,b3,.row 1 [.clo 71 [.rf 1 1 0 0,.rf 2 1 0 0,.pt pc,.pt tc,.rf 4 1 0 0]] 0] (.bool x) [b0,.row 1 [I s'] 0,.row 1 [.bool g'] 0,b3,.row 1 [.clo 71 [.rf 1 1 0 0,.rf 2 1 0 0,.pt pc,.pt tc,.rf 4 1 0 0]] 0] =
     some (.bool x,[b0,.row 1 [I s'] 0,.row 1 [.bool g'] 0,b3,.row 1 [.clo 71 [.rf 1 1 0 0,.rf 2 1 0 0,.pt pc,.pt tc,.rf 4 1 0 0]] 0]):=fun x s s' g g'=>
    Am rfl rfl rfl (by simp[keptOk,MB.beq_refl,MB.under,AV.underL,AV.under]) rfl
   have hs1:((s:Int)+1)=((s+1:Nat):Int):=rfl;subst htc2;by_cases hc:256<s+1∨24<d
   ·refine⟨false,g,s+1,?_,?_,fun h=>by cases h⟩
    ·refine AX (pol:=pol1) Tryz.func71 rfl rfl rfl rfl (fr s g) ?_;have hc':256<s+1∨(¬ 256<s+1/\24<d):=by omega
     rcases hc' with h1|⟨h1,h2⟩
     all_goals (
      simp +contextual (disch:=omega) only[Tryz.f71,dd71,go_sem,simprocAttr,mu71,↓AE,↓AC,↓AB,↓AA,hs1,rt];repeat' (first|intro _|apply And.intro|(unfold dOk;kernel_rfl)|exact St.beq_refl _|exact AQ|(show altO _ _ _ _=true;kernel_rfl)|(show (_||_)=true;kernel_rfl)|(show (_&&_)=true;kernel_rfl)))
    ·rw[hsz,hdz]
     symm;rw[decide_eq_false_iff_not]
     omega
   ·have key:∃ r:AV×List MB,(∃(ok g':Bool) (s':Nat),r=(.bool ok,[b0,.row 1 [I s'] 0,.row 1 [.bool g'] 0,b3,.row 1 [.clo 71 [.rf 1 1 0 0,.rf 2 1 0 0,.pt pc,.pt [I top],.rf 4 1 0 0]] 0]) /\
      ok=decide (s+(Re.mk op set kids mn mx md n neg).size<=256/\d+(Re.mk op set kids mn mx md n neg).depth<=25)/\(ok=true->s' = s+(Re.mk op set kids mn mx md n neg).size/\g' = (g&&wholeG caps top (.mk op set kids mn mx md n neg)))) /\
      call Pg pol1 71 [.pt (nodeL op set kids mn mx md n neg),I d,.rf 1 1 0 0,.rf 2 1 0 0,.pt pc,.pt [I top],.rf 4 1 0 0]
       [b0,.row 1 [I s] 0,.row 1 [.bool g] 0,b3,.row 1 [.clo 71 [.rf 1 1 0 0,.rf 2 1 0 0,.pt pc,.pt [I top],.rf 4 1 0 0]] 0]=some r:=by
     rw[hsz,hdz,hwh];refine ME (pol:=pol1) Tryz.func71 rfl rfl rfl rfl (fr s g) ?_;generalize formedG caps top (.mk op set kids mn mx md n neg)=fg at *;clear hwh hsz hdz;have hd0:d<=24:=by omega
     have hs0:s+1<=256:=by omega
     cases g
     ·simp +contextual (disch:=omega) only[Tryz.f71,dd71,go_sem,simprocAttr,mu71,↓AE,↓AC,↓AB,↓AA,hs1]
      refine AY (M:=(mskOf (pol1.mask 71) (pol1.gc 71) (pol1.acts 71) 0 6)) rfl kids.length (fun i=>(⟨47,[(32,I i),(31,I kids.length),(6,.rf 4 1 0 0),(1,I d),(0,.pt (nodeL op set kids mn mx md n neg))],[b0,.row 1 [I ((s+1+Re.sizeL (kids.take i):Nat):Int)] 0,.row 1 [.bool (false&&wholeL caps top (kids.take i))] 0,b3,.row 1 [.clo 71 [.rf 1 1 0 0,.rf 2 1 0 0,.pt pc,.pt [I top],.rf 4 1 0 0]] 0]⟩:St))
       (fun i=>s+1+Re.sizeL (kids.take i)<=256/\d+1+Re.depthL (kids.take i)<=25) ?_ ?_ ⟨by simp[Re.sizeL];omega,by simp[Re.depthL];omega⟩ _ ?_
      ·rintro i hi ⟨hb1,hb2⟩;obtain⟨k,hk⟩:∃ k,kids[i]?=some k:=⟨_,getElem?_eq_getElem hi⟩;obtain⟨ok,g2,s2,hcall,hok,himp⟩:=ih k (mem_of_getElem? hk) (d+1) (s+1+Re.sizeL (kids.take i)) (false&&wholeL caps top (kids.take i)) (by omega) (by omega);have e1:=Re.sizeL_take hk;have e2:=Re.depthL_take hk;have e3:=DZ (caps:=caps) (top:=top) hk;have e4:=Re.sizeL_le (l:=kids) (i:=i+1);have e5:=Re.depthL_le (l:=kids) (i:=i+1);have hl8:=AK k;have ht8:=AJ k;have hd1:((d:Int)+1)=((d+1:Nat):Int):=rfl;cases ok with
       | false=>
         have hcf:=of_decide_eq_false hok.symm;simp +contextual (disch:=omega) only[Tryz.f71,dd71,go_sem,simprocAttr,mu71,↓AE,↓AC,↓AB,↓AA,hk,hl8,ht8,hd1,hcall];repeat' (first|intro _|apply And.intro|(unfold dOk;kernel_rfl)|exact St.beq_refl _|exact AQ|(show altO _ _ _ _=true;kernel_rfl)|(show (_||_)=true;kernel_rfl)|(show (_&&_)=true;kernel_rfl))
         refine⟨_,⟨false,g2,s2,rfl,?_,fun h=>by cases h⟩,rt false _ _ _ _⟩
         symm;rw[decide_eq_false_iff_not];omega
       | true=>
         have hct:=of_decide_eq_true hok.symm;obtain⟨rfl,rfl⟩:=himp rfl;rw[e1,e2,e3,<- Bool.and_assoc];simp +contextual (disch:=omega) only[Tryz.f71,dd71,go_sem,simprocAttr,mu71,↓AE,↓AC,↓AB,↓AA,hk,hl8,ht8,hd1,hcall];repeat' (first|intro _|apply And.intro|(unfold dOk;kernel_rfl)|exact St.beq_refl _|exact AQ|(show altO _ _ _ _=true;kernel_rfl)|(show (_||_)=true;kernel_rfl)|(show (_&&_)=true;kernel_rfl))
         rw[Nat.add_assoc (s+1)];rfl
      ·rintro⟨hb1,hb2⟩;rw[take_length]at hb1 hb2 |-;simp +contextual (disch:=omega) only[Tryz.f71,dd71,go_sem,simprocAttr,mu71,↓AE,↓AC,↓AB,↓AA];refine⟨_,⟨true,(false&&wholeL caps top kids),s+1+Re.sizeL kids,rfl,?_,fun _=>⟨by omega,by simp⟩⟩,rt true _ _ _ _⟩;rfl
      ·rfl
     ·simp +contextual (disch:=omega) only[Tryz.f71,dd71,go_sem,simprocAttr,mu71,↓AE,↓AC,↓AB,↓AA,hs1,f104',hpc]
      refine AY (M:=(mskOf (pol1.mask 71) (pol1.gc 71) (pol1.acts 71) 0 6)) rfl kids.length (fun i=>(⟨47,[(32,I i),(31,I kids.length),(6,.rf 4 1 0 0),(1,I d),(0,.pt (nodeL op set kids mn mx md n neg))],[b0,.row 1 [I ((s+1+Re.sizeL (kids.take i):Nat):Int)] 0,.row 1 [.bool (fg&&wholeL caps top (kids.take i))] 0,b3,.row 1 [.clo 71 [.rf 1 1 0 0,.rf 2 1 0 0,.pt pc,.pt [I top],.rf 4 1 0 0]] 0]⟩:St))
       (fun i=>s+1+Re.sizeL (kids.take i)<=256/\d+1+Re.depthL (kids.take i)<=25) ?_ ?_ ⟨by simp[Re.sizeL];omega,by simp[Re.depthL];omega⟩ _ ?_
      ·rintro i hi ⟨hb1,hb2⟩;obtain⟨k,hk⟩:∃ k,kids[i]?=some k:=⟨_,getElem?_eq_getElem hi⟩;obtain⟨ok,g2,s2,hcall,hok,himp⟩:=ih k (mem_of_getElem? hk) (d+1) (s+1+Re.sizeL (kids.take i)) (fg&&wholeL caps top (kids.take i)) (by omega) (by omega);have e1:=Re.sizeL_take hk;have e2:=Re.depthL_take hk;have e3:=DZ (caps:=caps) (top:=top) hk;have e4:=Re.sizeL_le (l:=kids) (i:=i+1);have e5:=Re.depthL_le (l:=kids) (i:=i+1);have hl8:=AK k;have ht8:=AJ k;have hd1:((d:Int)+1)=((d+1:Nat):Int):=rfl;cases ok with
       | false=>
         have hcf:=of_decide_eq_false hok.symm;simp +contextual (disch:=omega) only[Tryz.f71,dd71,go_sem,simprocAttr,mu71,↓AE,↓AC,↓AB,↓AA,hk,hl8,ht8,hd1,hcall];repeat' (first|intro _|apply And.intro|(unfold dOk;kernel_rfl)|exact St.beq_refl _|exact AQ|(show altO _ _ _ _=true;kernel_rfl)|(show (_||_)=true;kernel_rfl)|(show (_&&_)=true;kernel_rfl))
         refine⟨_,⟨false,g2,s2,rfl,?_,fun h=>by cases h⟩,rt false _ _ _ _⟩
         symm;rw[decide_eq_false_iff_not];omega
       | true=>
         have hct:=of_decide_eq_true hok.symm;obtain⟨rfl,rfl⟩:=himp rfl;rw[e1,e2,e3,<- Bool.and_assoc];simp +contextual (disch:=omega) only[Tryz.f71,dd71,go_sem,simprocAttr,mu71,↓AE,↓AC,↓AB,↓AA,hk,hl8,ht8,hd1,hcall];repeat' (first|intro _|apply And.intro|(unfold dOk;kernel_rfl)|exact St.beq_refl _|exact AQ|(show altO _ _ _ _=true;kernel_rfl)|(show (_||_)=true;kernel_rfl)|(show (_&&_)=true;kernel_rfl))
         rw[Nat.add_assoc (s+1)];rfl
      ·rintro⟨hb1,hb2⟩;rw[take_length]at hb1 hb2 |-;simp +contextual (disch:=omega) only[Tryz.f71,dd71,go_sem,simprocAttr,mu71,↓AE,↓AC,↓AB,↓AA];refine⟨_,⟨true,(fg&&wholeL caps top kids),s+1+Re.sizeL kids,rfl,?_,fun _=>⟨by omega,by simp⟩⟩,rt true _ _ _ _⟩;rfl
      ·rw[show (fg&&wholeL caps top (List.take 0 kids))=fg by simp[wholeL]];rfl
    obtain⟨r,⟨ok,g',s',rfl,h1,h2⟩,h3⟩:=key;exact⟨ok,g',s',h3,h1,h2⟩
structure Pat where
 re:Re
 caps:Int
 runes:Bool
abbrev patC (p:Pat):List AV:=reC p.re++[I p.caps,.bool p.runes]
abbrev patAV (p:Pat):AV:=.agg (patC p)
theorem Av (p:Pat):AV.plainL (patC p)=true:=by
 rw[Gh];intro x hx;rcases List.mem_append.1 hx with h|h
 ·exact(Gh _).1 (AO p.re) x h
 ·simp at h;rcases h with rfl|rfl<;>rfl
def topI (r:Bool):Int:=if r then 1114111 else 255
theorem Eg (r:Bool):topI r<=1114111:=by cases r<;>simp[topI]
def validP (p:Pat):Int:=if 256<p.re.size∨24<p.re.depth then 4 else if p.caps<0∨9<p.caps∨wholeG p.caps (topI p.runes) p.re=false then 1 else 0
theorem f48 (p:Pat) (hw:p.re.wt<=1000000) (H:List MB):call Pg pol1 46 [patAV p] H=some (I (validP p),H):=by
 obtain⟨re,caps,runes⟩:=p;simp only at hw;refine AR Tryz.func46 rfl rfl rfl rfl rfl rfl (fun _=>rfl) (by simp[AV.plainL,AV.plain];exact Av _) rfl ?_ H;have hl8:=AK re;have hpl:=Av ⟨re,caps,runes⟩;have hget8:(reC re++[I caps,.bool runes])[8]?=some (I caps):=by rw[List.getElem?_append_right (by omega),hl8];rfl
 have hget9:(reC re++[I caps,.bool runes])[9]?=some (.bool runes):=by rw[List.getElem?_append_right (by omega),hl8];rfl
 have hz:fz (.rf 0 1 0 0) [.row 10 [.agg (reC re++[I caps,.bool runes])] 0]=some (.pt (reC re++[I caps,.bool runes]),[.row 10 [.agg (reC re++[I caps,.bool runes])] 1]):=
  F0 (x:=.agg (reC re++[I caps,.bool runes])) (k:=10) (z:=0) rfl rfl rfl hpl
 have hlen:(reC re).length+(0+1+1)=10:=by omega
 have h102:=f102 runes;have hall:=AP re;have hz2:∀(b0 b1 b2:MB) (t:Int),fz (.rf 3 1 0 0) [b0,b1,b2,.row 1 [I t] 0]=some (.pt [I t],[b0,b1,b2,.row 1 [I t] 1]):=fun b0 b1 b2 t=>F0 (x:=I t) (k:=1) (z:=0) rfl rfl rfl rfl;have htk8:∀ l,List.take 8 (reC re++l)=reC re:=fun l=>by
  rw[List.take_append_of_le_length (by omega)];exact List.take_of_length_le (by omega)
 rw[show (if runes=true then(1114111:Int) else 255)=topI runes from rfl]at h102;have ht:=Eg runes;have h103:=fun(b0 b3:MB) (g:Bool)=>f103 b0 b3 (reC re++[I caps,.bool runes]) [I (topI runes)] hpl rfl caps (topI runes) ht hget8 rfl re.wt re (le_refl _) hw 1 0 g (by omega) (by omega);unfold validP;simp only;have hcp:(0<=caps/\caps<=9)∨(0<=caps/\¬ caps<=9)∨¬ 0<=caps:=by omega
 generalize topI runes=top at *;rcases hcp with ⟨hc1,hc2⟩|⟨hc1,hc2⟩|hc1
 ·obtain⟨ok,g',s',hcall,hok,himp⟩:=h103 (.row 10 [.agg (reC re++[I caps,.bool runes])] 1) (.row 1 [I top] 1) true;rw[show ((1:Nat):Int)=1 from rfl,show ((0:Nat):Int)=0 from rfl]at hcall;cases ok with
  | false=>
    have hcf:=of_decide_eq_false hok.symm;rw[if_pos (by omega)];simp +contextual (disch:=omega) only[Tryz.f46,dd46,go_sem,simprocAttr,mu46,↓AE,↓AC,↓AB,↓AA,hl8,hget8,hget9,hz,hz2,h102,hall,htk8,hcall,all_append,lookD,look];exact fzEq rfl rfl
  | true=>
    have hct:=of_decide_eq_true hok.symm;obtain⟨_,hg'⟩:=himp rfl;rw[if_neg (by omega)];cases hwg:wholeG caps top re with
    | true=>
      rw[if_neg (by simp;omega)];rw[hwg]at hg';simp only[Bool.and_true]at hg';subst hg';simp +contextual (disch:=omega) only[Tryz.f46,dd46,go_sem,simprocAttr,mu46,↓AE,↓AC,↓AB,↓AA,hl8,hget8,hget9,hz,hz2,h102,hall,htk8,hcall,all_append,lookD,look];exact fzEq rfl rfl
    | false=>
      rw[if_pos (by simp)];rw[hwg]at hg';simp only[Bool.and_false]at hg';subst hg';simp +contextual (disch:=omega) only[Tryz.f46,dd46,go_sem,simprocAttr,mu46,↓AE,↓AC,↓AB,↓AA,hl8,hget8,hget9,hz,hz2,h102,hall,htk8,hcall,all_append,lookD,look];exact fzEq rfl rfl
 ·obtain⟨ok,g',s',hcall,hok,himp⟩:=h103 (.row 10 [.agg (reC re++[I caps,.bool runes])] 1) (.row 1 [I top] 1) false;rw[show ((1:Nat):Int)=1 from rfl,show ((0:Nat):Int)=0 from rfl]at hcall;cases ok with
  | false=>
    have hcf:=of_decide_eq_false hok.symm;rw[if_pos (by omega)];simp +contextual (disch:=omega) only[Tryz.f46,dd46,go_sem,simprocAttr,mu46,↓AE,↓AC,↓AB,↓AA,hl8,hget8,hget9,hz,hz2,h102,hall,htk8,hcall,all_append,lookD,look];exact fzEq rfl rfl
  | true=>
    have hct:=of_decide_eq_true hok.symm;obtain⟨_,hg'⟩:=himp rfl;rw[if_neg (by omega)];rw[if_pos (by omega)];simp only[Bool.false_and]at hg';subst hg';simp +contextual (disch:=omega) only[Tryz.f46,dd46,go_sem,simprocAttr,mu46,↓AE,↓AC,↓AB,↓AA,hl8,hget8,hget9,hz,hz2,h102,hall,htk8,hcall,all_append,lookD,look];exact fzEq rfl rfl
 ·obtain⟨ok,g',s',hcall,hok,himp⟩:=h103 (.row 10 [.agg (reC re++[I caps,.bool runes])] 1) (.row 1 [I top] 1) false;rw[show ((1:Nat):Int)=1 from rfl,show ((0:Nat):Int)=0 from rfl]at hcall;cases ok with
  | false=>
    have hcf:=of_decide_eq_false hok.symm;rw[if_pos (by omega)];simp +contextual (disch:=omega) only[Tryz.f46,dd46,go_sem,simprocAttr,mu46,↓AE,↓AC,↓AB,↓AA,hl8,hget8,hget9,hz,hz2,h102,hall,htk8,hcall,all_append,lookD,look];exact fzEq rfl rfl
  | true=>
    have hct:=of_decide_eq_true hok.symm;obtain⟨_,hg'⟩:=himp rfl;rw[if_neg (by omega)];rw[if_pos (by omega)];simp only[Bool.false_and]at hg';subst hg';simp +contextual (disch:=omega) only[Tryz.f46,dd46,go_sem,simprocAttr,mu46,↓AE,↓AC,↓AB,↓AA,hl8,hget8,hget9,hz,hz2,h102,hall,htk8,hcall,all_append,lookD,look];exact fzEq rfl rfl
end
section
attribute [local go_sem] evAppend length_append map_append
theorem f150 (op:Int) (H:List MB):call Pg pol1 116 [I op] H =
  some (.tup [I (if op=2∨op=3 then 2 else if op=4∨op=5∨op=7∨op=8∨op=9 then 1 else if op=10 then 2 else 0),I (if op=2∨op=3 then -1 else if op=4∨op=5∨op=7∨op=8∨op=9 then 1 else if op=10 then 2 else 0)],H):=by
 refine AR Tryz.func116 rfl rfl rfl rfl rfl rfl (fun _=>rfl) rfl rfl ?_ H;by_cases h1:op=2∨op=3
 ·rw[if_pos h1,if_pos h1];rcases h1 with rfl|rfl
  all_goals (
   simp +contextual (disch:=omega) only[Tryz.f116,Mm,go_sem,simprocAttr,MX,↓AE,↓AC,↓AB,↓AA];exact fzEq rfl rfl)
 ·rw[if_neg h1,if_neg h1];by_cases h2:op=4∨op=5∨op=7∨op=8∨op=9
  ·rw[if_pos h2];rcases h2 with rfl|rfl|rfl|rfl|rfl
   all_goals (
    simp +contextual (disch:=omega) only[Tryz.f116,Mm,go_sem,simprocAttr,MX,↓AE,↓AC,↓AB,↓AA];exact fzEq rfl rfl)
  ·rw[if_neg h2];by_cases h3:op=10
   ·rw[if_pos h3];subst h3;simp +contextual (disch:=omega) only[Tryz.f116,Mm,go_sem,simprocAttr,MX,↓AE,↓AC,↓AB,↓AA];exact fzEq rfl rfl
   ·rw[if_neg h3];simp +contextual (disch:=omega) only[Tryz.f116,Mm,go_sem,simprocAttr,MX,↓AE,↓AC,↓AB,↓AA];exact fzEq rfl rfl
theorem f151 (l:List (Int×Int)) (top:Int) (ht:top<=1114111) (hl:l.length<=1000000) (H:List MB):call Pg pol1 117 [.sl false (l.map spanAV),I top] H=some (.bool (spansG l top),H):=by
 refine AR Tryz.func117 rfl rfl rfl rfl rfl rfl (fun _=>rfl) (by simp[AV.plain,AV.plainL,AF]) rfl ?_ H;by_cases h64:64<l.length
 ·rw[Fl h64];simp +contextual (disch:=omega) only[Tryz.f117,HV,go_sem,simprocAttr,Gv,↓AE,↓AC,↓AB,↓AA];exact fzEq rfl rfl
 ·simp +contextual (disch:=omega) only[Tryz.f117,HV,go_sem,simprocAttr,Gv,↓AE,↓AC,↓AB,↓AA];refine AY (M:=(mskOf (pol1.mask 117) (pol1.gc 117) (pol1.acts 117) 0 4)) rfl l.length (fun i=>(⟨62,[(5,I i),(1,I top),(0,.sl false (l.map spanAV))],[]⟩:St)) (fun i=>∀ k,k<i->badS l top k=false) ?_ ?_ (fun k h=>by omega) _ (by first|rfl|(refine BV (n:=0) (m:=⟨some [5,1,0],some 0,[]⟩) rfl rfl ?_ ?_ ?_<;>first|rfl|(simp[keepT,AV.underL,AV.under,MB.under,AD,AI,AW,AG,AF,AL,AM,-map_take,-map_replicate,-map_set];done)|(simp[keepT,AV.underL,AV.under,MB.under,AD,AI,AW,AG,AF,AL,AM,-map_take,-map_replicate,-map_set];omega)))
  ·intro i hlt hg;obtain⟨p,hp⟩:∃ p,l[i]?=some p:=⟨_,getElem?_eq_getElem hlt⟩;have ext:badS l top i=false->∀ k,k<i+1->badS l top k=false:=fun h k hk=>by
    rcases lt_or_ge k i with h1|h1
    ·exact hg k h1
    ·obtain rfl:k=i:=by omega
     exact h
   by_cases hgd:p.1<0∨p.2<p.1∨top<p.2
   ·rw[DK hlt (My hp hgd)];have hgd':p.1<0∨(¬ p.1<0/\p.2<p.1)∨(¬ p.1<0/\¬ p.2<p.1/\top<p.2):=by omega
    rcases hgd' with h|⟨h,h'⟩|⟨h,h',h''⟩
    all_goals (
     simp +contextual (disch:=omega) only[Tryz.f117,HV,go_sem,simprocAttr,Gv,↓AE,↓AC,↓AB,↓AA,hp,spanAV];repeat' (first|intro _|apply And.intro|(unfold dOk;kernel_rfl)|exact St.beq_refl _|exact AQ|(show altO _ _ _ _=true;kernel_rfl)|(show (_||_)=true;kernel_rfl)|(show (_&&_)=true;kernel_rfl))
     all_goals exact fzEq rfl rfl)
   ·rcases i with _|i
    ·simp +contextual (disch:=omega) only[Tryz.f117,HV,go_sem,simprocAttr,Gv,↓AE,↓AC,↓AB,↓AA,hp,spanAV];repeat' (first|intro _|apply And.intro|(unfold dOk;kernel_rfl)|exact St.beq_refl _|exact AQ|(show altO _ _ _ _=true;kernel_rfl)|(show (_||_)=true;kernel_rfl)|(show (_&&_)=true;kernel_rfl))
     ·exact ext (JJ hp hgd) _ ‹_›
     ·exact(by first|rfl|(refine BV (n:=0) (m:=⟨some [5,1,0],some 0,[]⟩) rfl rfl ?_ ?_ ?_<;>first|rfl|(simp[keepT,AV.underL,AV.under,MB.under,AD,AI,AW,AG,AF,AL,AM,-map_take,-map_replicate,-map_set];done)|(simp[keepT,AV.underL,AV.under,MB.under,AD,AI,AW,AG,AF,AL,AM,-map_take,-map_replicate,-map_set];omega)))
    ·obtain⟨q,hq⟩:∃ q,l[i]?=some q:=⟨_,getElem?_eq_getElem (by omega)⟩;have hqb:=J7 hq (hg i (by omega));have hb:=Fh hp hq hgd;by_cases h2:p.1<q.2+2
     ·rw[DK hlt (by rw[hb];simp[h2])];simp +contextual (disch:=omega) only[Tryz.f117,HV,go_sem,simprocAttr,Gv,↓AE,↓AC,↓AB,↓AA,hp,hq,spanAV];repeat' (first|intro _|apply And.intro|(unfold dOk;kernel_rfl)|exact St.beq_refl _|exact AQ|(show altO _ _ _ _=true;kernel_rfl)|(show (_||_)=true;kernel_rfl)|(show (_&&_)=true;kernel_rfl))
      all_goals exact fzEq rfl rfl
     ·simp +contextual (disch:=omega) only[Tryz.f117,HV,go_sem,simprocAttr,Gv,↓AE,↓AC,↓AB,↓AA,hp,hq,spanAV];repeat' (first|intro _|apply And.intro|(unfold dOk;kernel_rfl)|exact St.beq_refl _|exact AQ|(show altO _ _ _ _=true;kernel_rfl)|(show (_||_)=true;kernel_rfl)|(show (_&&_)=true;kernel_rfl))
      ·exact ext (by rw[hb];simp[h2]) _ ‹_›
      ·exact(by first|rfl|(refine BV (n:=0) (m:=⟨some [5,1,0],some 0,[]⟩) rfl rfl ?_ ?_ ?_<;>first|rfl|(simp[keepT,AV.underL,AV.under,MB.under,AD,AI,AW,AG,AF,AL,AM,-map_take,-map_replicate,-map_set];done)|(simp[keepT,AV.underL,AV.under,MB.under,AD,AI,AW,AG,AF,AL,AM,-map_take,-map_replicate,-map_set];omega)))
  ·intro hg;rw[Db (by omega) hg];simp +contextual (disch:=omega) only[Tryz.f117,HV,go_sem,simprocAttr,Gv,↓AE,↓AC,↓AB,↓AA];exact fzEq rfl rfl
theorem f135 (caps top:Int) (ht:top<=1114111) (op:Int) (set:List (Int×Int)) (kids:List Re) (mn mx md n:Int) (neg:Bool) (hs:set.length<=1000000) (hk:kids.length<=1000000) (H:List MB) :
  call Pg pol1 94 [.agg (nodeL op set kids mn mx md n neg),I caps,I top] H=some (.bool (formedG caps top (.mk op set kids mn mx md n neg)),H):=by
 refine AR Tryz.func94 rfl rfl rfl rfl rfl rfl (fun _=>rfl) (by simp[AV.plain,AV.plainL,AF,AH]) rfl ?_ H;have h151:=f151 set top ht hs;have h150:=f150 op;by_cases h0:op<0∨11<op
 ·have e:formedG caps top (.mk op set kids mn mx md n neg)=false:=by
   have:¬ (0<=op/\op<=11):=by omega
   simp only[formedG,Bool.and_eq_false_iff,decide_eq_false_iff_not];omega
  rw[e];have h0':op<0∨(¬ op<0/\11<op):=by omega
  rcases h0' with h|⟨h,h'⟩
  all_goals (
   simp +contextual (disch:=omega) only[Tryz.f94,dd94,go_sem,simprocAttr,mu94,↓AE,↓AC,↓AB,↓AA,h150];repeat' (first|intro _|apply And.intro|(unfold dOk;kernel_rfl)|exact St.beq_refl _|exact AQ|(show altO _ _ _ _=true;kernel_rfl)|(show (_||_)=true;kernel_rfl)|(show (_&&_)=true;kernel_rfl))
   all_goals exact fzEq rfl rfl)
 have hop:op=1∨op=4∨op=0∨op=2∨op=3∨op=5∨op=6∨op=7∨op=8∨op=9∨op=10∨op=11:=by omega
 clear h0;rcases hop with rfl|rfl|rfl|rfl|rfl|rfl|rfl|rfl|rfl|rfl|rfl|rfl
 ·cases hsp:spansG set top
  all_goals (
   rw[hsp]at h151;simp at h150;cases neg <;>
   simp +contextual (disch:=omega) only[Tryz.f94,dd94,go_sem,simprocAttr,mu94,↓AE,↓AC,↓AB,↓AA,h150,h151];repeat' (first|intro _|apply And.intro|(unfold dOk;kernel_rfl)|exact St.beq_refl _|exact AQ|(show altO _ _ _ _=true;kernel_rfl)|(show (_||_)=true;kernel_rfl)|(show (_&&_)=true;kernel_rfl))
   all_goals (clear h151 h150;refine fzEq rfl (congrArg AV.bool ?_);first|(simp_all [formedG,kidsG,repG,-length_eq_zero_iff];done)|(simp_all [formedG,kidsG,repG,-length_eq_zero_iff];omega)))
 all_goals (
  simp at h150;cases neg <;>
  simp +contextual (disch:=omega) only[Tryz.f94,dd94,go_sem,simprocAttr,mu94,↓AE,↓AC,↓AB,↓AA,h150];repeat' (first|intro _|apply And.intro|(unfold dOk;kernel_rfl)|exact St.beq_refl _|exact AQ|(show altO _ _ _ _=true;kernel_rfl)|(show (_||_)=true;kernel_rfl)|(show (_&&_)=true;kernel_rfl))
  all_goals (clear h151 h150;refine fzEq rfl (congrArg AV.bool ?_);first|(simp_all [formedG,kidsG,repG,-length_eq_zero_iff];done)|(simp_all [formedG,kidsG,repG,-length_eq_zero_iff];omega)))
end
section
attribute [local go_sem] evAppend length_append map_append
theorem f114 (caps top:Int) (ht:top<=1114111):∀(N:Nat) (r:Re),r.wt<=N->r.wt<=1000000->∀ H,call Pg pol1 59 [reAV r,I caps,I top] H=some (.bool (wholeG caps top r),H)
 | 0,r,h,_,_=>by have:=r.wt_pos;omega
 | N+1,.mk op set kids mn mx md n neg,h,hN,H=>by
   have hkl:=Re.wtL_len kids;have hwt:1+set.length+Re.wtL kids=(Re.mk op set kids mn mx md n neg).wt:=by simp[Re.wt]
   have ih:=fun k (hk:k∈kids)=>f114 caps top ht N k (by have:=Re.wtL_mem hk;omega) (by have:=Re.wtL_mem hk;omega);have h135:=f135 caps top ht op set kids mn mx md n neg (by omega) (by omega);rw[show reAV (.mk op set kids mn mx md n neg)=.agg (nodeL op set kids mn mx md n neg) from congrArg AV.agg Ab];refine AR Tryz.func59 rfl rfl rfl rfl rfl rfl (fun _=>rfl) (by simp[AV.plain,AV.plainL,AF,AH]) rfl ?_ H;rw[wholeG];cases hfg:formedG caps top (.mk op set kids mn mx md n neg) with
   | false=>
     rw[hfg]at h135;simp +contextual (disch:=omega) only[Tryz.f59,dd59,go_sem,simprocAttr,mu59,↓AE,↓AC,↓AB,↓AA,h135];exact fzEq rfl rfl
   | true=>
     rw[hfg]at h135;simp +contextual (disch:=omega) only[Tryz.f59,dd59,go_sem,simprocAttr,mu59,↓AE,↓AC,↓AB,↓AA,h135];refine AY (M:=(mskOf (pol1.mask 59) (pol1.gc 59) (pol1.acts 59) 0 4)) rfl kids.length (fun i=>(⟨29,[(7,I i),(3,.rf 0 1 0 0),(2,I top),(1,I caps)],[.row 8 [.agg (nodeL op set kids mn mx md n neg)] 0]⟩:St)) (fun i=>wholeL caps top (kids.take i)=true) ?_ ?_ (by simp[wholeL]) _ (by first|rfl|(refine BV (n:=1) (m:=⟨some [7,3,2,1],some 1,[]⟩) rfl rfl ?_ ?_ ?_<;>first|rfl|(simp[keepT,AV.underL,AV.under,MB.under,AD,AI,AW,AG,AF,AL,AM,-map_take,-map_replicate,-map_set,AH];done)|(simp[keepT,AV.underL,AV.under,MB.under,AD,AI,AW,AG,AF,AL,AM,-map_take,-map_replicate,-map_set,AH];omega)))
     ·intro i hi hg;obtain⟨k,hk⟩:∃ k,kids[i]?=some k:=⟨_,getElem?_eq_getElem hi⟩;have ihk:=ih k (mem_of_getElem? hk);have hl8:=AK k;have ht8:=AJ k;have e3:=DZ (caps:=caps) (top:=top) hk;cases hn:wholeG caps top k with
      | false=>
        rw[hn]at ihk;have hf:wholeL caps top kids=false:=by
         rw[Bool.eq_false_iff];intro hw;rw[CC]at hw;have:=hw k (mem_of_getElem? hk);rw[hn]at this;cases this
        rw[hf];simp +contextual (disch:=omega) only[Tryz.f59,dd59,go_sem,simprocAttr,mu59,↓AE,↓AC,↓AB,↓AA,hk,ihk,hl8,ht8];exact fzEq rfl rfl
      | true=>
        rw[hn]at ihk;rw[e3,hg,hn];simp +contextual (disch:=omega) only[Tryz.f59,dd59,go_sem,simprocAttr,mu59,↓AE,↓AC,↓AB,↓AA,hk,ihk,hl8,ht8];exact(by first|rfl|(refine BV (n:=1) (m:=⟨some [7,3,2,1],some 1,[]⟩) rfl rfl ?_ ?_ ?_<;>first|rfl|(simp[keepT,AV.underL,AV.under,MB.under,AD,AI,AW,AG,AF,AL,AM,-map_take,-map_replicate,-map_set,AH];done)|(simp[keepT,AV.underL,AV.under,MB.under,AD,AI,AW,AG,AF,AL,AM,-map_take,-map_replicate,-map_set,AH];omega)))
     ·intro hg;rw[take_length]at hg;rw[hg];simp +contextual (disch:=omega) only[Tryz.f59,dd59,go_sem,simprocAttr,mu59,↓AE,↓AC,↓AB,↓AA];exact fzEq rfl rfl
theorem f52 (p:Pat) (hw:p.re.wt<=1000000) (H:List MB):call Pg pol1 30 [patAV p] H=some (I (validP p),H):=by
 obtain⟨re,caps,runes⟩:=p;simp only at hw;refine AR Tryz.func30 rfl rfl rfl rfl rfl rfl (fun _=>rfl) (by simp[AV.plainL,AV.plain];exact Av _) rfl ?_ H;have hl8:=AK re;have hget8:(reC re++[I caps,.bool runes])[8]?=some (I caps):=by rw[List.getElem?_append_right (by omega),hl8];rfl
 have hget9:(reC re++[I caps,.bool runes])[9]?=some (.bool runes):=by rw[List.getElem?_append_right (by omega),hl8];rfl
 have htk8:∀ l,List.take 8 (reC re++l)=reC re:=fun l=>by
  rw[List.take_append_of_le_length (by omega)];exact List.take_of_length_le (by omega)
 have hall:=AP re;have h112:=f112 re.wt re (le_refl _) (by omega);have h113:=f113 re.wt re (le_refl _) (by omega);have h114:=f114 caps (topI runes) (Eg runes) re.wt re (le_refl _) hw;have hsw:=re.size_wt;cases runes
 ·rw[show topI false=255 from rfl]at h114;by_cases h1:256<re.size
  ·rw[show validP ⟨re,caps,false⟩=4 from if_pos (.inl h1)];simp +contextual (disch:=omega) only[Tryz.f30,dd30,go_sem,simprocAttr,mu30,↓AE,↓AC,↓AB,↓AA,hl8,hget8,hget9,h112,h113,hall,htk8,all_append];repeat' (first|intro _|apply And.intro|(unfold dOk;kernel_rfl)|exact St.beq_refl _|exact AQ|(show altO _ _ _ _=true;kernel_rfl)|(show (_||_)=true;kernel_rfl)|(show (_&&_)=true;kernel_rfl))
   all_goals exact fzEq rfl rfl
  by_cases h2:24<re.depth
  ·rw[show validP ⟨re,caps,false⟩=4 from if_pos (.inr h2)];simp +contextual (disch:=omega) only[Tryz.f30,dd30,go_sem,simprocAttr,mu30,↓AE,↓AC,↓AB,↓AA,hl8,hget8,hget9,h112,h113,hall,htk8,all_append];repeat' (first|intro _|apply And.intro|(unfold dOk;kernel_rfl)|exact St.beq_refl _|exact AQ|(show altO _ _ _ _=true;kernel_rfl)|(show (_||_)=true;kernel_rfl)|(show (_&&_)=true;kernel_rfl))
   all_goals exact fzEq rfl rfl
  have hno:¬ (256<re.size∨24<re.depth):=by omega
  have hcp:(caps<0)∨(¬ caps<0/\9<caps)∨(¬ caps<0/\¬ 9<caps):=by omega
  rcases hcp with h3|⟨h3,h4⟩|⟨h3,h4⟩
  ·rw[show validP ⟨re,caps,false⟩=1 from(if_neg hno).trans (if_pos (.inl h3))];simp +contextual (disch:=omega) only[Tryz.f30,dd30,go_sem,simprocAttr,mu30,↓AE,↓AC,↓AB,↓AA,hl8,hget8,hget9,h112,h113,hall,htk8,all_append];repeat' (first|intro _|apply And.intro|(unfold dOk;kernel_rfl)|exact St.beq_refl _|exact AQ|(show altO _ _ _ _=true;kernel_rfl)|(show (_||_)=true;kernel_rfl)|(show (_&&_)=true;kernel_rfl))
   all_goals exact fzEq rfl rfl
  ·rw[show validP ⟨re,caps,false⟩=1 from(if_neg hno).trans (if_pos (.inr (.inl h4)))];simp +contextual (disch:=omega) only[Tryz.f30,dd30,go_sem,simprocAttr,mu30,↓AE,↓AC,↓AB,↓AA,hl8,hget8,hget9,h112,h113,hall,htk8,all_append];repeat' (first|intro _|apply And.intro|(unfold dOk;kernel_rfl)|exact St.beq_refl _|exact AQ|(show altO _ _ _ _=true;kernel_rfl)|(show (_||_)=true;kernel_rfl)|(show (_&&_)=true;kernel_rfl))
   all_goals exact fzEq rfl rfl
  ·cases hwg:wholeG caps 255 re with
   | true=>
     rw[hwg]at h114;rw[show validP ⟨re,caps,false⟩=0 from(if_neg hno).trans (if_neg (by simp only[topI,Bool.false_eq_true,if_false,if_true,hwg];simp;omega))];simp +contextual (disch:=omega) only[Tryz.f30,dd30,go_sem,simprocAttr,mu30,↓AE,↓AC,↓AB,↓AA,hl8,hget8,hget9,h112,h113,h114,hall,htk8,all_append];repeat' (first|intro _|apply And.intro|(unfold dOk;kernel_rfl)|exact St.beq_refl _|exact AQ|(show altO _ _ _ _=true;kernel_rfl)|(show (_||_)=true;kernel_rfl)|(show (_&&_)=true;kernel_rfl))
     all_goals exact fzEq rfl rfl
   | false=>
     rw[hwg]at h114;rw[show validP ⟨re,caps,false⟩=1 from(if_neg hno).trans (if_pos (.inr (.inr hwg)))];simp +contextual (disch:=omega) only[Tryz.f30,dd30,go_sem,simprocAttr,mu30,↓AE,↓AC,↓AB,↓AA,hl8,hget8,hget9,h112,h113,h114,hall,htk8,all_append];repeat' (first|intro _|apply And.intro|(unfold dOk;kernel_rfl)|exact St.beq_refl _|exact AQ|(show altO _ _ _ _=true;kernel_rfl)|(show (_||_)=true;kernel_rfl)|(show (_&&_)=true;kernel_rfl))
     all_goals exact fzEq rfl rfl
 ·rw[show topI true=1114111 from rfl]at h114;by_cases h1:256<re.size
  ·rw[show validP ⟨re,caps,true⟩=4 from if_pos (.inl h1)];simp +contextual (disch:=omega) only[Tryz.f30,dd30,go_sem,simprocAttr,mu30,↓AE,↓AC,↓AB,↓AA,hl8,hget8,hget9,h112,h113,hall,htk8,all_append];repeat' (first|intro _|apply And.intro|(unfold dOk;kernel_rfl)|exact St.beq_refl _|exact AQ|(show altO _ _ _ _=true;kernel_rfl)|(show (_||_)=true;kernel_rfl)|(show (_&&_)=true;kernel_rfl))
   all_goals exact fzEq rfl rfl
  by_cases h2:24<re.depth
  ·rw[show validP ⟨re,caps,true⟩=4 from if_pos (.inr h2)];simp +contextual (disch:=omega) only[Tryz.f30,dd30,go_sem,simprocAttr,mu30,↓AE,↓AC,↓AB,↓AA,hl8,hget8,hget9,h112,h113,hall,htk8,all_append];repeat' (first|intro _|apply And.intro|(unfold dOk;kernel_rfl)|exact St.beq_refl _|exact AQ|(show altO _ _ _ _=true;kernel_rfl)|(show (_||_)=true;kernel_rfl)|(show (_&&_)=true;kernel_rfl))
   all_goals exact fzEq rfl rfl
  have hno:¬ (256<re.size∨24<re.depth):=by omega
  have hcp:(caps<0)∨(¬ caps<0/\9<caps)∨(¬ caps<0/\¬ 9<caps):=by omega
  rcases hcp with h3|⟨h3,h4⟩|⟨h3,h4⟩
  ·rw[show validP ⟨re,caps,true⟩=1 from(if_neg hno).trans (if_pos (.inl h3))];simp +contextual (disch:=omega) only[Tryz.f30,dd30,go_sem,simprocAttr,mu30,↓AE,↓AC,↓AB,↓AA,hl8,hget8,hget9,h112,h113,hall,htk8,all_append];repeat' (first|intro _|apply And.intro|(unfold dOk;kernel_rfl)|exact St.beq_refl _|exact AQ|(show altO _ _ _ _=true;kernel_rfl)|(show (_||_)=true;kernel_rfl)|(show (_&&_)=true;kernel_rfl))
   all_goals exact fzEq rfl rfl
  ·rw[show validP ⟨re,caps,true⟩=1 from(if_neg hno).trans (if_pos (.inr (.inl h4)))];simp +contextual (disch:=omega) only[Tryz.f30,dd30,go_sem,simprocAttr,mu30,↓AE,↓AC,↓AB,↓AA,hl8,hget8,hget9,h112,h113,hall,htk8,all_append];repeat' (first|intro _|apply And.intro|(unfold dOk;kernel_rfl)|exact St.beq_refl _|exact AQ|(show altO _ _ _ _=true;kernel_rfl)|(show (_||_)=true;kernel_rfl)|(show (_&&_)=true;kernel_rfl))
   all_goals exact fzEq rfl rfl
  ·cases hwg:wholeG caps 1114111 re with
   | true=>
     rw[hwg]at h114;rw[show validP ⟨re,caps,true⟩=0 from(if_neg hno).trans (if_neg (by simp only[topI,Bool.false_eq_true,if_false,if_true,hwg];simp;omega))];simp +contextual (disch:=omega) only[Tryz.f30,dd30,go_sem,simprocAttr,mu30,↓AE,↓AC,↓AB,↓AA,hl8,hget8,hget9,h112,h113,h114,hall,htk8,all_append];repeat' (first|intro _|apply And.intro|(unfold dOk;kernel_rfl)|exact St.beq_refl _|exact AQ|(show altO _ _ _ _=true;kernel_rfl)|(show (_||_)=true;kernel_rfl)|(show (_&&_)=true;kernel_rfl))
     all_goals exact fzEq rfl rfl
   | false=>
     rw[hwg]at h114;rw[show validP ⟨re,caps,true⟩=1 from(if_neg hno).trans (if_pos (.inr (.inr hwg)))];simp +contextual (disch:=omega) only[Tryz.f30,dd30,go_sem,simprocAttr,mu30,↓AE,↓AC,↓AB,↓AA,hl8,hget8,hget9,h112,h113,h114,hall,htk8,all_append];repeat' (first|intro _|apply And.intro|(unfold dOk;kernel_rfl)|exact St.beq_refl _|exact AQ|(show altO _ _ _ _=true;kernel_rfl)|(show (_||_)=true;kernel_rfl)|(show (_&&_)=true;kernel_rfl))
     all_goals exact fzEq rfl rfl
end
section
theorem sf68 {H:List MB}{id n:Nat}{O:Spans}{p:Int×Int} (hr:H[id]?=some (.row 2 (O.map spanAV) 0)) (hn:O.length=n) (h0:0<n) (hl:n<=1000000000) (hO:∀ q∈O,q.2<=1114111) (hp:0<=p.1/\p.1<=p.2/\p.2<=1114111) (hq:∀ q∈O,0<=q.2) :
  call Pg pol1 51 [.ms id 2 n 0 n,.agg [I p.1,I p.2]] H=some (.ms id 2 (addI O p).length 0 (addI O p).length,H.set id (.row 2 ((addI O p).map spanAV) 0)++[.row 2 [spanAV p] 0]):=by
 have hlt:=(List.getElem?_eq_some_iff.1 hr).1;have fr:frzArgs pol1 51 0 [.ms id 2 n 0 n,.agg [I p.1,I p.2]] H=some ([.ms id 2 n 0 n,.agg [I p.1,I p.2]],H):=AT _ _ _ rfl;refine AX (pol:=pol1) Tryz.func51 rfl rfl rfl rfl fr ?_;have rp:∀ H1 r H,retPol pol1 51 H1 r H=some (r,H):=fun H1 r H=>rfl;rcases List.eq_nil_or_concat O with rfl|⟨O',q,rfl⟩
 ·simp at hn;omega
 ·rw[List.concat_eq_append]at *;have hgq:=hO q (by simp);have hgq0:=hq q (by simp);obtain rfl:n=O'.length+1:=by simpa using hn.symm
  have hg1:∀ x:MB,(H++[x])[id]?=some (.row 2 ((O'++[q]).map spanAV) 0):=fun x=>by rw[List.getElem?_append_left hlt];exact hr
  have hs1:∀ x y:MB,(H++[x]).set id y=H.set id y++[x]:=fun x y=>List.set_append_left _ _ hlt;have hgl:=fun x:MB=>Bt H x;rw[CP];have hget:((O'++[q]).map spanAV)[O'.length]?=some (spanAV q):=by simp
  have hlen:((O'++[q]).map spanAV).length=O'.length+1:=by simp
  by_cases hm:p.1<=q.2+1
  ·rw[if_pos hm];have hmx:(if p.2 > q.2 then p.2 else q.2)=max q.2 p.2:=by split<;>omega
   have hst:((O'++[q]).map spanAV).set O'.length (.agg [I q.1,I (max q.2 p.2)])=(O'++[(q.1,max q.2 p.2)]).map spanAV:=by simp[List.set_append]
   have hlen2:(O'++[(q.1,max q.2 p.2)]).length=O'.length+1:=by simp
   generalize hE:(O'++[q]).map spanAV=E at *;simp +contextual (disch:=omega) only[Tryz.f51,dd51,go_sem,simprocAttr,evAppend,length_append,map_append,mu51,↓AE,↓AC,↓AB,↓AA,hg1,hs1,hgl,hget,hlen,evMax,hmx];repeat' (first|intro _|apply And.intro|(unfold dOk;kernel_rfl)|exact St.beq_refl _|exact AQ|(show altO _ _ _ _=true;kernel_rfl)|(show (_||_)=true;kernel_rfl)|(show (_&&_)=true;kernel_rfl))
   rw[hst,rp];simp
  ·rw[if_neg hm];have a1:=fun(x:MB) (t:Bool)=>MK (H:=H++[x]) (i:=id) (p:=p) (t:=t) (by unfold getRow;rw[hg1]) (zero_le _) (show (O'++[q]).length=O'.length+1 by simp) (by omega);simp only[hs1]at a1;have hlen2:(O'++[q]++[p]).length=O'.length+1+1:=by simp
   generalize hE:(O'++[q]).map spanAV=E at *;simp +contextual (disch:=omega) only[Tryz.f51,dd51,go_sem,simprocAttr,length_append,map_append,mu51,↓AE,↓AC,↓AB,↓AA,hg1,hs1,hgl,hget,hlen,a1];repeat' (first|intro _|apply And.intro|(unfold dOk;kernel_rfl)|exact St.beq_refl _|exact AQ|(show altO _ _ _ _=true;kernel_rfl)|(show (_||_)=true;kernel_rfl)|(show (_&&_)=true;kernel_rfl))
   rw[rp]
theorem SK (H:List MB) (p:Int×Int) :
  call Pg pol1 51 [.sl true [],.agg [I p.1,I p.2]] H=some (.ms (H.length+1) 2 1 0 1,H++[.row 2 [spanAV p] 0]++[.row 2 [spanAV p] 0]):=by
 have fr:frzArgs pol1 51 0 [.sl true [],.agg [I p.1,I p.2]] H=some ([.sl true [],.agg [I p.1,I p.2]],H):=AT _ _ _ rfl;refine AX (pol:=pol1) Tryz.func51 rfl rfl rfl rfl fr ?_;have rp:∀ H1 r H,retPol pol1 51 H1 r H=some (r,H):=fun H1 r H=>rfl;have hgl:=fun x:MB=>Bt H x;simp +contextual (disch:=omega) only[Tryz.f51,dd51,go_sem,simprocAttr,evAppend,length_append,map_append,mu51,↓AE,↓AC,↓AB,↓AA,hgl];repeat' (first|intro _|apply And.intro|(unfold dOk;kernel_rfl)|exact St.beq_refl _|exact AQ|(show altO _ _ _ _=true;kernel_rfl)|(show (_||_)=true;kernel_rfl)|(show (_&&_)=true;kernel_rfl))
 rw[rp]
theorem Pe {H:List MB}{i n z:Nat}{rs:List (Int×Int)}{p:Int×Int}{t:Bool} (hi:getRow H i=some (2,rs.map el2,z)) (hz:z<=n) (hn:rs.length=n) (hr:n+1<=4000000000) :
  evAppend Pg H 87 87 (.ms i 2 n 0 n) (.sl t [.agg [I p.1,I p.2]])=some (.ms i 2 (n+1) 0 (n+1),H.set i (.row 2 ((rs++[p]).map el2) z)):=by
 have hs:srcElems Pg H 93 (.sl t [.agg [I p.1,I p.2]])=some [.agg [I p.1,I p.2]]:=rfl;rw[Ai (e:=93) (by kernel_rfl) (by kernel_rfl) (k:=2) (by kernel_rfl) (by_:=16) (by kernel_rfl) (ze:=.agg [I 0,I 0]) (by kernel_rfl) rfl (by omega) hs (by simp[AV.cells,AV.ok]) hi (by rw[length_map];exact hn) hz (Ae (by simp;omega) (by omega))];rw[map_append];rfl
theorem Br (l:List (Int×Int)):AV.plainL (l.map el2)=true:=by
 induction l with
 | nil=>rfl
 | cons a l ih=>simp[AV.plainL,ih];rfl
theorem HR (top:Int) (s:Spans):∀(L:List Spans) (i:Nat),endsP top i (L++[s])=endsP top i L++endS top (i+L.length) s
 | [],i=>by simp[endsP]
 | t::L,i=>by simp[endsP,HR top s L (i+1),Nat.add_comm,Nat.add_left_comm]
theorem L5 {top:Int}{L:List Spans}{i:Nat}{s:Spans} (h:L[i]?=some s):endsP top 0 (L.take (i+1))=endsP top 0 (L.take i)++endS top i s:=by
 have hlt:=(List.getElem?_eq_some_iff.1 h).1;rw[List.take_add_one,h,Option.toList_some,HR,Nat.zero_add,List.length_take_of_le (Nat.le_of_lt hlt)]
theorem Nh {top:Int}{i k:Nat}{s:Spans}{p:Int×Int} (h:s[k]?=some p):endS top i (s.take (k+1))=endS top i (s.take k)++((if p.1<=top then [(p.1,(i:Int))] else [])++(if p.2+1<=top then [(p.2+1,(i:Int))] else [])):=by
 rw[List.take_add_one,h];simp[endS]
theorem HN {top:Int}{L:List Spans} (htp:top<=1114111) (hs:∀ s∈L,SetV s):∀ x∈endsP top 0 L,Small x:=fun x hx=>by
 obtain⟨_,s,hs',p,hp,h1,h2⟩:=D3 hx;have:=(hs s hs').good p hp;unfold Small;omega
theorem sf67 (L:List Spans) (top:Int) (h0:0<=top) (htp:top<=1114111) (hs:∀ s∈L,SetV s) (hl:L.length<=8192) (hsl:∀ s∈L,s.length<=64) (H:List MB) :
  call Pg pol1 50 [.sl false (L.map setAV),I top] H=some (.sl false ((sortE (endsP top 0 L)).map el2),H):=by
 have hpl:=AS L;refine AR Tryz.func50 rfl rfl rfl rfl rfl rfl (fun _=>rfl) (by simp[AV.plain,AV.plainL,hpl]) (by simp[AV.plain,Br]) ?_ H;simp +contextual (disch:=omega) only[Tryz.f50,dd50,go_sem,simprocAttr,evAppend,length_append,map_append,mu50,↓AE,↓AC,↓AB,↓AA];refine AY (M:=(mskOf (pol1.mask 50) (pol1.gc 50) (pol1.acts 50) 0 3)) rfl L.length (fun i=>(⟨52,[(12,I i),(11,I L.length),(10,.sl false (L.map setAV)),(5,.ms 0 2 (endsP top 0 (L.take i)).length 0 (endsP top 0 (L.take i)).length),(1,I top)],[.row 2 ((endsP top 0 (L.take i)).map el2) 0]⟩:St)) (fun i=>True) ?_ ?_ trivial _ (by first|rfl|(refine AN rfl (by rfl) (by rfl) (by rfl) ?_ ?_<;>simp[AV.underL,AV.under,MB.under,AD,AI,AG,AF,AL,AM,-map_take,AS,Br]))
 ·intro i hi _;obtain⟨s,hsi⟩:∃ s,L[i]?=some s:=⟨_,getElem?_eq_getElem hi⟩;have hsi':(L.map setAV)[i]?=some (setAV s):=by simp[hsi]
  have hm:=mem_of_getElem? hsi;have hv:=hs s hm;have hsl1:=hsl s hm;have hst:=L5 (top:=top) hsi;have hln:=D4 (top:=top) (L:=L.take i) (i:=0) (fun s hs=>hsl s (List.mem_of_mem_take hs));have l1:=List.length_take_le i L;generalize endsP top 0 (L.take i)=l at *;simp +contextual (disch:=omega) only[Tryz.f50,dd50,go_sem,simprocAttr,evAppend,length_append,map_append,mu50,↓AE,↓AC,↓AB,↓AA,hsi'];refine AY (M:=(mskOf (pol1.mask 50) (pol1.gc 50) (pol1.acts 50) 0 6)) rfl s.length (fun k=>(⟨52,[(19,I k),(18,I s.length),(17,.sl false (s.map spanAV)),(12,I i),(11,I L.length),(10,.sl false (L.map setAV)),(6,I i),(5,.ms 0 2 (l++endS top i (s.take k)).length 0 (l++endS top i (s.take k)).length),(1,I top)],[.row 2 ((l++endS top i (s.take k)).map el2) 0]⟩:St)) (fun i=>True) ?_ ?_ trivial _ ?_
  ·intro k hk _;obtain⟨p,hp⟩:∃ p,s[k]?=some p:=⟨_,getElem?_eq_getElem hk⟩;have hp':(s.map spanAV)[k]?=some (spanAV p):=by simp[hp]
   have hg:=hv.good p (mem_of_getElem? hp);have hst2:=Nh (top:=top) (i:=i) hp;have hln2:=Kz top i (s.take k);have l3:=List.length_take_le k s;have hw:IntKind.i64.wrap (p.2+1)=p.2+1:=by rw[i64_in];omega
   have hlen3:(l++endS top i (s.take k)).length<=4000000:=by rw[length_append];omega
   have hst3:l++endS top i (s.take (k+1))=(l++endS top i (s.take k))++((if p.1<=top then [(p.1,(i:Int))] else [])++(if p.2+1<=top then [(p.2+1,(i:Int))] else [])):=by rw[hst2,List.append_assoc]
   generalize l++endS top i (s.take (k+1))=l2 at *;generalize l++endS top i (s.take k)=l1 at *;have a1:=fun(x:MB) (t:Bool)=>Pe (H:=[MB.row 2 (l1.map el2) 0,x]) (i:=0) (p:=(p.1,(i:Int))) (t:=t) rfl (zero_le _) rfl (by omega);have a2:=fun(x:MB) (t:Bool)=>Pe (H:=[MB.row 2 (l1.map el2) 0,x]) (i:=0) (p:=(p.2+1,(i:Int))) (t:=t) rfl (zero_le _) rfl (by omega);have a3:=fun(x:MB) (t:Bool)=>Pe (H:=[MB.row 2 ((l1++[(p.1,(i:Int))]).map el2) 0,x]) (i:=0) (n:=l1.length+1) (p:=(p.2+1,(i:Int))) (t:=t) rfl (zero_le _) (by simp) (by omega);simp only[List.set_cons_zero]at a1 a2 a3;by_cases h1:p.1<=top
   ·by_cases h2:p.2+1<=top
    ·rw[if_pos h1,if_pos h2]at hst3;have e1:l2=l1++[(p.1,(i:Int))]++[(p.2+1,(i:Int))]:=by rw[hst3];simp
     have e2:l2.length=l1.length+1+1:=by rw[e1];simp
     rw[<- e1]at a3;rw[e2];simp +contextual (disch:=omega) only[Tryz.f50,dd50,go_sem,simprocAttr,mu50,↓AE,↓AC,↓AB,↓AA,hp',hw,a1,a3];exact(by first|rfl|(refine AN rfl (by rfl) (by rfl) (by rfl) ?_ ?_<;>simp[AV.underL,AV.under,MB.under,AD,AI,AG,AF,AL,AM,-map_take,AS,Br]))
    ·rw[if_pos h1,if_neg h2,append_nil]at hst3;have e2:l2.length=l1.length+1:=by rw[hst3];simp
     rw[<- hst3]at a1;rw[e2];simp +contextual (disch:=omega) only[Tryz.f50,dd50,go_sem,simprocAttr,mu50,↓AE,↓AC,↓AB,↓AA,hp',hw,a1];exact(by first|rfl|(refine AN rfl (by rfl) (by rfl) (by rfl) ?_ ?_<;>simp[AV.underL,AV.under,MB.under,AD,AI,AG,AF,AL,AM,-map_take,AS,Br]))
   ·rw[if_neg h1,if_neg (by omega),append_nil,append_nil]at hst3;have h2:¬ p.2+1<=top:=by omega
    rw[hst3];simp +contextual (disch:=omega) only[Tryz.f50,dd50,go_sem,simprocAttr,mu50,↓AE,↓AC,↓AB,↓AA,hp',hw];exact(by first|rfl|(refine AN rfl (by rfl) (by rfl) (by rfl) ?_ ?_<;>simp[AV.underL,AV.under,MB.under,AD,AI,AG,AF,AL,AM,-map_take,AS,Br]))
  ·intro _;rw[take_length,<- hst];simp +contextual (disch:=omega) only[Tryz.f50,dd50,go_sem,simprocAttr,mu50,↓AE,↓AC,↓AB,↓AA];exact(by first|rfl|(refine AN rfl (by rfl) (by rfl) (by rfl) ?_ ?_<;>simp[AV.underL,AV.under,MB.under,AD,AI,AG,AF,AL,AM,-map_take,AS,Br]))
  ·rw[List.take_zero,show endS top i []=[] from rfl,append_nil];exact(by first|rfl|(refine AN rfl (by rfl) (by rfl) (by rfl) ?_ ?_<;>simp[AV.underL,AV.under,MB.under,AD,AI,AG,AF,AL,AM,-map_take,AS,Br]))
 ·intro _;rw[take_length];have hln:=D4 (top:=top) (L:=L) (i:=0) hsl;have hsm:=HN htp hs;have hse:=DO hsm;generalize endsP top 0 L=l at *;obtain⟨H',h1,h2⟩:=Lb hsm (n:=l.length) rfl (by omega) (H:=[.row 2 (l.map el2) 0]) (id:=0) rfl;have h102:call Pg pol1 76 [.ms 0 2 l.length 0 l.length,.clo 77 []] [.row 2 (l.map el2) 0]=some (.tup [],H'):=by
   rw[BR];unfold evStep;rw[if_neg (show ¬ pol1.pure 76=true by decide)];exact h1
  simp +contextual (disch:=omega) only[Tryz.f50,dd50,go_sem,simprocAttr,mu50,↓AE,↓AC,↓AB,↓AA,h102];exact⟨_,Az h2 (by rw[length_map];exact hse) (Br _)⟩
end
section
attribute [local go_sem] length_append map_append
theorem SB (p:Int×Int) (hg:goodS p) (H:List MB):call Pg pol1 75 [.agg [I p.1,I p.2]] H=some (.bool true,H):=by
 obtain⟨h1,h2,h3⟩:=hg;refine AR Tryz.func75 rfl rfl rfl rfl rfl rfl (fun _=>rfl) (by simp[AV.plain,AV.plainL]) (by simp[AV.plain]) ?_ H;simp +contextual (disch:=omega) only[Tryz.f75,dd75,go_sem,simprocAttr,evAppend,mu75,↓AE,↓AC,↓AB,↓AA,h1,h2,h3];exact fzEq rfl rfl
theorem f168 (O:List (Int×Int)) (hl:O.length<=1000000000) (H:List MB):call Pg pol1 130 [.sl false (O.map spanAV)] H=some (if 64<O.length then .tup [.sl false [],I 4] else .tup [.sl false (O.map spanAV),I 0],H):=by
 have hpl:=AF O;by_cases c:64<O.length
 ·rw[if_pos c];refine AR Tryz.func130 rfl rfl rfl rfl rfl rfl (fun _=>rfl) (by simp[AV.plain,AV.plainL,hpl]) (by simp[AV.plain,AV.plainL]) ?_ H;simp +contextual (disch:=omega) only[Tryz.f130,RW,go_sem,simprocAttr,evAppend,RP,↓AE,↓AC,↓AB,↓AA];exact⟨_,rfl⟩
 ·rw[if_neg c];refine AR Tryz.func130 rfl rfl rfl rfl rfl rfl (fun _=>rfl) (by simp[AV.plain,AV.plainL,hpl]) (by simp[AV.plain,AV.plainL,hpl]) ?_ H;simp +contextual (disch:=omega) only[Tryz.f130,RW,go_sem,simprocAttr,evAppend,RP,↓AE,↓AC,↓AB,↓AA];exact fzEq (by simp[AV.plain,AV.plainL,hpl]) rfl
theorem RV (b:MB) (O:List (Int×Int)) (m:Nat) (hm:O.length=m) (hl:m<=1000000000) :
  call Pg pol1 130 [.ms 1 2 m 0 m] [b,.row 2 (O.map spanAV) 0]=some (if 64<O.length then .tup [.sl false [],I 4] else .tup [.sl false (O.map spanAV),I 0],[b,.row 2 (O.map spanAV) m]):=by
 have hz:=Az (id:=1) (k:=2) (tot:=m) (z:=0) (H:=[b,.row 2 (O.map spanAV) 0]) (els:=O.map spanAV) rfl (by rw[length_map];exact hm) (AF O);have hm2:mark [b,.row 2 (O.map spanAV) 0] 1 m=[b,.row 2 (O.map spanAV) m]:=by simp[mark,getRow]
 rw[hm2]at hz;have hby:pol1.byref 130 0=false:=rfl;rw[BB (P:=Pg) (pol:=pol1) (f:=130) (l:=[.sl false (O.map spanAV)]) (H1:=[b,.row 2 (O.map spanAV) m]) rfl (by simp only[frzArgs,hby,Bool.false_eq_true,if_false,hz]) (by simp[AV.plainL,AV.plain,AF])];exact f168 O (by omega) _
theorem f90e {H:List MB}{id:Nat}{p:Int×Int} (hr:H[id]?=some (.row 2 [] 0)) :
  call Pg pol1 51 [.ms id 2 0 0 0,.agg [I p.1,I p.2]] H=some (.ms id 2 1 0 1,H.set id (.row 2 [spanAV p] 0)++[.row 2 [spanAV p] 0]):=by
 have hlt:=(List.getElem?_eq_some_iff.1 hr).1;have fr:frzArgs pol1 51 0 [.ms id 2 0 0 0,.agg [I p.1,I p.2]] H=some ([.ms id 2 0 0 0,.agg [I p.1,I p.2]],H):=AT _ _ _ rfl;refine AX (pol:=pol1) Tryz.func51 rfl rfl rfl rfl fr ?_;have rp:∀ H1 r H,retPol pol1 51 H1 r H=some (r,H):=fun H1 r H=>rfl;have hg1:∀ x:MB,(H++[x])[id]?=some (.row 2 [] 0):=fun x=>by rw[List.getElem?_append_left hlt];exact hr
 have hs1:∀ x y:MB,(H++[x]).set id y=H.set id y++[x]:=fun x y=>List.set_append_left _ _ hlt;have hgl:=fun x:MB=>Bt H x;have a1:=fun(x:MB) (t:Bool)=>MK (H:=H++[x]) (i:=id) (n:=0) (rs:=[]) (p:=p) (t:=t) (by unfold getRow;rw[hg1];rfl) (zero_le _) rfl (by omega);simp only[hs1]at a1;simp +contextual (disch:=omega) only[Tryz.f51,dd51,go_sem,simprocAttr,mu51,↓AE,↓AC,↓AB,↓AA,hg1,hs1,hgl,a1];repeat' (first|intro _|apply And.intro|(unfold dOk;kernel_rfl)|exact St.beq_refl _|exact AQ|(show altO _ _ _ _=true;kernel_rfl)|(show (_||_)=true;kernel_rfl)|(show (_&&_)=true;kernel_rfl))
 rw[rp]
theorem NA {g:Nat}{xs:List (Int×Int)} (h:∀ x∈xs,Small x) {n:Nat} (hn:xs.length=n) (h0:0<n) (hl:n<=4000000000) {H:List MB}{id:Nat} (hr:getRow H id=some (2,xs.map el2,0)) :
  sort2Ext Sml g srtE [.ms id 2 n 0 n,.clo g []] H=some (.tup [],H.set id (.row 2 ((sortE xs).map el2) 0)):=by
 subst hn;have hu:=Sml.unL_map xs (smlL xs) (FD h);have hlen:(smlL xs).length=xs.length:=by have:=congrArg List.length (Em h);simpa using this
 simp only[sort2Ext];rw[if_neg (by rintro⟨h,_⟩;omega)];simp only[hr,hu];rw[if_pos ⟨trivial,hlen.symm,hlen.symm,by omega,by omega⟩];unfold sortE;rw[List.map_map];rfl
theorem c156 (l:List (Int×Int)) (h0:0<l.length) (hl:l.length<=1000000000):call Pg pol1 78 [.sl false (l.map spanAV)] []=some (.ms 0 2 l.length 0 l.length,[.row 2 (l.map spanAV) 0]):=by
 cases l with
 | nil=>simp at h0
 | cons x l=>
   rw[BR];unfold evStep;have ha:(((x::l).map spanAV).all fun y=>decide (y.cells.length=2)&&y.cells.all AV.ok)=true:=by
    rw[List.all_eq_true];intro y hy;obtain⟨i,_,rfl⟩:=List.mem_map.1 hy;rfl
   have hx:cloneExt 2 16 [.sl false ((x::l).map spanAV)] []=some (.ms 0 2 (x::l).length 0 (x::l).length,[.row 2 ((x::l).map spanAV) 0]):=by
    simp only[cloneExt,elemsOf];rw[if_pos ⟨ha,Ae (by rw[length_map];omega) (by omega),AF _⟩];simp
   rw[if_neg (show ¬ pol1.pure 78=true by decide)];exact hx
theorem f115 (s:List (Int×Int)) (hg:∀ p∈s,goodS p) (h0:0<s.length) (hl:s.length<=400000000) (H:List MB) :
  call Pg pol1 110 [.sl false (s.map spanAV)] H=some (if 64<(normL s).length then .tup [.sl false [],I 4] else .tup [.sl false ((normL s).map spanAV),I 0],H):=by
 have hsm:=G9 hg;have hperm:=DN hsm;have hsorted:=DM s;have hok:=Kq hsorted (fun p hp=>hg p (hperm.mem_iff.1 hp));have hSl:(sortE s).length=s.length:=hperm.length_eq;have hSg:∀ p∈sortE s,goodS p:=fun p hp=>hg p (hperm.mem_iff.1 hp);have h166:∀(n:Nat),s.length=n->call Pg pol1 128 [.ms 0 2 n 0 n,.clo 129 []] [.row 2 (s.map spanAV) 0]=some (.tup [],[.row 2 ((sortE s).map spanAV) 0]):=fun n hn=>by
  rw[BR];unfold evStep;rw[if_neg (show ¬ pol1.pure 128=true by decide)];exact NA (g:=129) hsm hn (by omega) (by omega) (H:=[.row 2 (s.map el2) 0]) (id:=0) rfl
 have h156:=c156 s h0 (by omega);have hrp:AV.plain (if 64<(normL s).length then .tup [.sl false [],I 4] else .tup [.sl false ((normL s).map spanAV),I 0])=true:=by split<;>simp[AV.plain,AV.plainL,AF]
 refine AR Tryz.func110 rfl rfl rfl rfl rfl rfl (fun _=>rfl) (by simp[AV.plain,AV.plainL,AF]) hrp ?_ H;have h166n:=h166 s.length rfl;simp +contextual (disch:=omega) only[Tryz.f110,E7,go_sem,simprocAttr,evAppend,Ey,↓AE,↓AC,↓AB,↓AA];refine AY (M:=(mskOf (pol1.mask 110) (pol1.gc 110) (pol1.acts 110) 0 2)) rfl s.length (fun i=>(⟨38,[(12,I i),(11,I s.length),(10,.sl false (s.map spanAV)),(0,.sl false (s.map spanAV))],[]⟩:St)) (fun i=>True) ?_ ?_ trivial _ (by first|rfl|(refine AN rfl (by rfl) (by rfl) (by rfl) ?_ ?_<;>simp[AV.underL,AV.under,MB.under,AD,AI,AG,AF,AL,AM,-map_take]))
 ·intro i hi _;obtain⟨p,hp⟩:∃ p,s[i]?=some p:=⟨_,getElem?_eq_getElem hi⟩;have hp':(s.map spanAV)[i]?=some (spanAV p):=by simp[hp]
  have h136:=SB p (hg p (mem_of_getElem? hp));simp +contextual (disch:=omega) only[Tryz.f110,E7,go_sem,simprocAttr,evAppend,Ey,↓AE,↓AC,↓AB,↓AA,hp',h136,spanAV];exact(by first|rfl|(refine AN rfl (by rfl) (by rfl) (by rfl) ?_ ?_<;>simp[AV.underL,AV.under,MB.under,AD,AI,AG,AF,AL,AM,-map_take]))
 ·intro _;unfold normL;generalize sortE s=S at *;simp +contextual (disch:=omega) only[Tryz.f110,E7,go_sem,simprocAttr,evAppend,Ey,↓AE,↓AC,↓AB,↓AA,h156,h166n];refine AY (M:=(mskOf (pol1.mask 110) (pol1.gc 110) (pol1.acts 110) 0 11)) rfl s.length (fun i=>(⟨38,[(26,I i),(25,I s.length),(24,.ms 0 2 s.length 0 s.length),(7,.ms 1 2 (foldI (S.take i)).length 0 (foldI (S.take i)).length)],[.row 2 (S.map spanAV) 0,.row 2 ((foldI (S.take i)).map spanAV) 0]⟩:St)) (fun i=>True) ?_ ?_ trivial _ ?_
  ·intro i hi _;obtain⟨p,hp⟩:∃ p,S[i]?=some p:=⟨_,getElem?_eq_getElem (by omega)⟩;have hp':(S.map spanAV)[i]?=some (spanAV p):=by simp[hp]
   have hgp:=hSg p (mem_of_getElem? hp);have hoi:=hok i (by omega);have hol:=hoi.len;rw[List.length_take]at hol;rw[Lt hp];have hO:=hoi.good;generalize foldI (S.take i)=O at *;obtain⟨g1,g2,g3⟩:=hgp;have h90:∀ b c:MB,call Pg pol1 51 [.ms 1 2 O.length 0 O.length,.agg [I p.1,I p.2]] [b,.row 2 (O.map spanAV) 0,c]=some (.ms 1 2 (addI O p).length 0 (addI O p).length,[b,.row 2 ((addI O p).map spanAV) 0,c,.row 2 [spanAV p] 0]):=fun b c=>by
    rcases Nat.eq_zero_or_pos O.length with h|h
    ·have:O=[]:=length_eq_zero_iff.1 h;subst this;exact f90e (H:=[b,.row 2 [] 0,c]) rfl
    ·exact sf68 (H:=[b,.row 2 (O.map spanAV) 0,c]) rfl rfl h (by omega) (fun q hq=>(hO q hq).2.2) ⟨g1,g2,g3⟩ (fun q hq=>by have:=hO q hq;unfold goodS at this;omega)
   generalize addI O p=O2 at *;simp +contextual (disch:=omega) only[Tryz.f110,E7,go_sem,simprocAttr,evAppend,Ey,↓AE,↓AC,↓AB,↓AA,hp',h90,hSl,spanAV];exact(by first|rfl|(refine AN rfl (by rfl) (by rfl) (by rfl) ?_ ?_<;>simp[AV.underL,AV.under,MB.under,AD,AI,AG,AF,AL,AM,-map_take]))
  ·intro _;rw[List.take_of_length_le (by omega)];have hoi:=(hok S.length (le_refl _)).len;rw[take_length]at hoi;have h168:=fun b=>RV b (foldI S) _ rfl (by omega);by_cases c:64<(foldI S).length
   ·rw[if_pos c]at h168 |-;simp +contextual (disch:=omega) only[Tryz.f110,E7,go_sem,simprocAttr,evAppend,Ey,↓AE,↓AC,↓AB,↓AA,h168];exact fzEq rfl rfl
   ·rw[if_neg c]at h168 |-;simp +contextual (disch:=omega) only[Tryz.f110,E7,go_sem,simprocAttr,evAppend,Ey,↓AE,↓AC,↓AB,↓AA,h168];exact fzEq (by simp[AV.plain,AV.plainL,AF]) rfl
  ·exact(by first|rfl|(refine AN rfl (by rfl) (by rfl) (by rfl) ?_ ?_<;>simp[AV.underL,AV.under,MB.under,AD,AI,AG,AF,AL,AM,-map_take]))
end
end Go.Ev
