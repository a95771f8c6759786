/- Functions of the program, each with what it computes; no further conditions. -/
import Derived.Test.YtmfpcondongbjaaGreatO07
import Derived.Test.YtmfpcondongbjaaGreatO13
set_option linter.unusedVariables false
set_option linter.unusedSimpArgs false
namespace Go.Ev
attribute [local go_sem] evAppend evBin evBuild AV.cells splice List.length_append List.map_append
section
attribute [local go_sem] tySzE List.head?_drop Nat.mul_one zAP zAU zAN zAQ zAR zAX
open Go.Proofs Go.RowKit Go.IntWalk
set_option maxRecDepth 100000
set_option maxHeartbeats 8000000
theorem zDk:∀ {l:List Re} {k:Re},k∈l→nullG k=false→nullAll l=false
 | x::l,k,h,hk=>by
   rcases List.mem_cons.1 h with e|e
   ·rw[← e];simp[nullAll,hk]
   ·simp[nullAll,zDk e hk]
theorem zD0:∀ {l:List Re},(∀(i:Nat) (k:Re),i < l.length→l[i]?=some k→nullG k=true)→nullAll l=true
 | [],_=>by simp[nullAll]
 | x::l,h=>by
   simp only[nullAll,Bool.and_eq_true]
   exact⟨h 0 x (by simp) rfl,zD0 fun i k hi hk=>h (i+1) k (by simp;omega) (by simpa using hk)⟩
theorem zDP:∀ {l:List Re} {k:Re},k∈l→nullG k=true→nullAny l=true
 | x::l,k,h,hk=>by
   rcases List.mem_cons.1 h with e|e
   ·rw[← e];simp[nullAny,hk]
   ·simp[nullAny,zDP e hk]
theorem zDj:∀ {l:List Re},(∀(i:Nat) (k:Re),i < l.length→l[i]?=some k→nullG k=false)→nullAny l=false
 | [],_=>by simp[nullAny]
 | x::l,h=>by
   simp only[nullAny,Bool.or_eq_false_iff]
   exact⟨h 0 x (by simp) rfl,zDj fun i k hi hk=>h (i+1) k (by simp;omega) (by simpa using hk)⟩
theorem f20:∀(N:Nat) (r:Re),r.wt≤N→r.wt≤1000000→∀ H,call Tryz.prog pol1 96 [reAV r] H=some (.bool (nullG r),H)
 | 0,r,h,_,_=>by have:=r.wt_pos;omega
 | N+1,.mk op set kids mn mx md n neg,h,hN,H=>by
   have hkl:=Re.wtL_len kids
   have hwt:1+set.length+Re.wtL kids=(Re.mk op set kids mn mx md n neg).wt:=by simp[Re.wt]
   have ih:=fun k (hk:k∈kids)=>f20 N k (by have:=Re.wtL_mem hk;omega) (by have:=Re.wtL_mem hk;omega)
   rw[show reAV (.mk op set kids mn mx md n neg)=.agg (nodeL op set kids mn mx md n neg) from congrArg AV.agg zCc]
   refine zAS Tryz.func96 rfl rfl rfl rfl rfl rfl (fun _=>rfl) (by simp[AV.plain,AV.plainL,zAG,zAL]) rfl ?_ H
   rw[nullG]
   by_cases h1:op=1
   ·subst h1
    rw[if_pos rfl]
    simp +contextual (disch:=omega) only[Tryz.f96,dd96,go_sem,simprocAttr,mu96,↓zAD,↓zAC,↓zAB,↓zAA]
    exact fzEq rfl rfl
   rw[if_neg h1]
   by_cases h2:op=2
   ·subst h2
    rw[if_pos rfl]
    simp +contextual (disch:=omega) only[Tryz.f96,dd96,go_sem,simprocAttr,mu96,↓zAD,↓zAC,↓zAB,↓zAA]
    refine zAd (M:=(mskOf (pol1.mask 96) (pol1.gc 96) (pol1.acts 96) 0 6)) rfl kids.length (fun i=>(⟨73,[(3,I i),(1,.rf 0 1 0 0)],[.row 8 [.agg (nodeL 2 set kids mn mx md n neg)] 0]⟩:St)) (fun i=>∀ j k,j < i→kids[j]?=some k→nullG k=true) ?_ ?_ (fun j k h=>by omega) _ (by first|rfl|(refine zAa (n:=1) (m:=⟨some [3,1],some 1,[]⟩) rfl rfl ?_ ?_ ?_<;>first|rfl|(simp[keepT,AV.underL,AV.under,MB.under,zAF,zAJ,zAK,zAE,zAG,zAH,zAI,-List.map_take,-List.map_replicate,-List.map_set,zAL];done)|(simp[keepT,AV.underL,AV.under,MB.under,zAF,zAJ,zAK,zAE,zAG,zAH,zAI,-List.map_take,-List.map_replicate,-List.map_set,zAL];omega)))
    ·intro i hi hg
     obtain⟨k,hk⟩:∃ k,kids[i]?=some k:=⟨_,List.getElem?_eq_getElem hi⟩
     have ihk:=ih k (List.mem_of_getElem? hk)
     have hl8:=zAM k
     have ht8:=zAT k
     cases hn:nullG k with
     | false=>
       rw[hn]at ihk
       rw[zDk (List.mem_of_getElem? hk) hn]
       simp +contextual (disch:=omega) only[Tryz.f96,dd96,go_sem,simprocAttr,mu96,↓zAD,↓zAC,↓zAB,↓zAA,hk,ihk,hl8,ht8]
       exact fzEq rfl rfl
     | true=>
       rw[hn]at ihk
       simp +contextual (disch:=omega) only[Tryz.f96,dd96,go_sem,simprocAttr,mu96,↓zAD,↓zAC,↓zAB,↓zAA,hk,ihk,hl8,ht8]
       refine⟨fun j q hj hq=>?_,(by first|rfl|(refine zAa (n:=1) (m:=⟨some [3,1],some 1,[]⟩) rfl rfl ?_ ?_ ?_<;>first|rfl|(simp[keepT,AV.underL,AV.under,MB.under,zAF,zAJ,zAK,zAE,zAG,zAH,zAI,-List.map_take,-List.map_replicate,-List.map_set,zAL];done)|(simp[keepT,AV.underL,AV.under,MB.under,zAF,zAJ,zAK,zAE,zAG,zAH,zAI,-List.map_take,-List.map_replicate,-List.map_set,zAL];omega)))⟩
       rcases Nat.lt_or_ge j i with h|h
       ·exact hg j q h hq
       ·obtain rfl:j=i:=by omega
        rw[hk]at hq;obtain rfl:=Option.some.inj hq
        exact hn
    ·intro hg
     rw[zD0 fun j k hj hk=>hg j k hj hk]
     simp +contextual (disch:=omega) only[Tryz.f96,dd96,go_sem,simprocAttr,mu96,↓zAD,↓zAC,↓zAB,↓zAA]
     exact fzEq rfl rfl
   rw[if_neg h2]
   by_cases h3:op=3∨op=10
   ·rw[if_pos h3]
    rcases h3 with rfl|rfl
    all_goals (
     simp +contextual (disch:=omega) only[Tryz.f96,dd96,go_sem,simprocAttr,mu96,↓zAD,↓zAC,↓zAB,↓zAA]
     refine zAd (M:=(mskOf (pol1.mask 96) (pol1.gc 96) (pol1.acts 96) 0 14)) rfl kids.length (fun i=>(⟨73,[(4,I i),(1,.rf 0 1 0 0)],[.row 8 [.agg (nodeL _ set kids mn mx md n neg)] 0]⟩:St)) (fun i=>∀ j k,j < i→kids[j]?=some k→nullG k=false) ?_ ?_ (fun j k h=>by omega) _ (by first|rfl|(refine zAa (n:=1) (m:=⟨some [4,1],some 1,[]⟩) rfl rfl ?_ ?_ ?_<;>first|rfl|(simp[keepT,AV.underL,AV.under,MB.under,zAF,zAJ,zAK,zAE,zAG,zAH,zAI,-List.map_take,-List.map_replicate,-List.map_set,zAL];done)|(simp[keepT,AV.underL,AV.under,MB.under,zAF,zAJ,zAK,zAE,zAG,zAH,zAI,-List.map_take,-List.map_replicate,-List.map_set,zAL];omega)))
     ·intro i hi hg
      obtain⟨k,hk⟩:∃ k,kids[i]?=some k:=⟨_,List.getElem?_eq_getElem hi⟩
      have ihk:=ih k (List.mem_of_getElem? hk)
      have hl8:=zAM k
      have ht8:=zAT k
      cases hn:nullG k with
      | true=>
        rw[hn]at ihk
        rw[zDP (List.mem_of_getElem? hk) hn]
        simp +contextual (disch:=omega) only[Tryz.f96,dd96,go_sem,simprocAttr,mu96,↓zAD,↓zAC,↓zAB,↓zAA,hk,ihk,hl8,ht8]
        exact fzEq rfl rfl
      | false=>
        rw[hn]at ihk
        simp +contextual (disch:=omega) only[Tryz.f96,dd96,go_sem,simprocAttr,mu96,↓zAD,↓zAC,↓zAB,↓zAA,hk,ihk,hl8,ht8]
        refine⟨fun j q hj hq=>?_,(by first|rfl|(refine zAa (n:=1) (m:=⟨some [4,1],some 1,[]⟩) rfl rfl ?_ ?_ ?_<;>first|rfl|(simp[keepT,AV.underL,AV.under,MB.under,zAF,zAJ,zAK,zAE,zAG,zAH,zAI,-List.map_take,-List.map_replicate,-List.map_set,zAL];done)|(simp[keepT,AV.underL,AV.under,MB.under,zAF,zAJ,zAK,zAE,zAG,zAH,zAI,-List.map_take,-List.map_replicate,-List.map_set,zAL];omega)))⟩
        rcases Nat.lt_or_ge j i with h|h
        ·exact hg j q h hq
        ·obtain rfl:j=i:=by omega
         rw[hk]at hq;obtain rfl:=Option.some.inj hq
         exact hn
     ·intro hg
      rw[zDj fun j k hj hk=>hg j k hj hk]
      simp +contextual (disch:=omega) only[Tryz.f96,dd96,go_sem,simprocAttr,mu96,↓zAD,↓zAC,↓zAB,↓zAA]
      exact fzEq rfl rfl)
   rw[if_neg h3]
   by_cases h4:op=4
   ·subst h4
    rw[if_pos rfl]
    by_cases hm:mn≤0
    ·simp +contextual (disch:=omega) only[Tryz.f96,dd96,go_sem,simprocAttr,mu96,↓zAD,↓zAC,↓zAB,↓zAA]
     exact fzEq rfl (by simp[hm])
    ·cases kids with
     | nil=>
       simp +contextual (disch:=omega) only[Tryz.f96,dd96,go_sem,simprocAttr,mu96,↓zAD,↓zAC,↓zAB,↓zAA]
       exact fzEq rfl (by simp[hm,nullHd])
     | cons k ks=>
       have ihk:=ih k (List.mem_cons_self ..)
       have hl8:=zAM k
       have ht8:=zAT k
       simp only[List.length_cons]at hkl
       simp +contextual (disch:=omega) only[Tryz.f96,dd96,go_sem,simprocAttr,mu96,↓zAD,↓zAC,↓zAB,↓zAA,ihk,hl8,ht8]
       exact fzEq rfl (by simp[hm,nullHd])
   rw[if_neg h4]
   by_cases h5:op=5∨op=9
   ·rw[if_pos h5]
    rcases h5 with rfl|rfl
    all_goals (
     cases kids with
     | nil=>
       simp +contextual (disch:=omega) only[Tryz.f96,dd96,go_sem,simprocAttr,mu96,↓zAD,↓zAC,↓zAB,↓zAA]
       exact fzEq rfl (by simp[nullHd])
     | cons k ks=>
       have ihk:=ih k (List.mem_cons_self ..)
       have hl8:=zAM k
       have ht8:=zAT k
       simp only[List.length_cons]at hkl
       simp +contextual (disch:=omega) only[Tryz.f96,dd96,go_sem,simprocAttr,mu96,↓zAD,↓zAC,↓zAB,↓zAA,ihk,hl8,ht8]
       exact fzEq rfl (by simp[nullHd]))
   rw[if_neg h5]
   simp +contextual (disch:=omega) only[Tryz.f96,dd96,go_sem,simprocAttr,mu96,↓zAD,↓zAC,↓zAB,↓zAA]
   exact fzEq rfl rfl
end
section
attribute [local go_sem] tySzE List.head?_drop Nat.mul_one zAP zAU zAN zAQ zAR zAX
open Go.Proofs Go.RowKit Go.IntWalk
set_option maxRecDepth 100000
set_option maxHeartbeats 8000000
theorem zAv {caps top op:Int} {set:List (Int×Int)} {kids:List Re} {mn mx md n:Int} {neg:Bool} (h:wholeG caps top (.mk op set kids mn mx md n neg)=true) :
  (∀ k∈kids,wholeG caps top k=true)∧kidsG op kids.length=true∧(op=4→repG mn mx md=true)∧(op=5∨op=6∨op=10→1≤n∧n≤caps)∧0≤op∧op≤11:=by
 rw[wholeG,Bool.and_eq_true,zFE]at h
 obtain⟨h1,h2⟩:=h
 simp only[formedG,Bool.and_eq_true,decide_eq_true_eq]at h1
 obtain⟨⟨⟨⟨⟨⟨a1,a2⟩,a3⟩,a4⟩,a5⟩,a6⟩,a7⟩:=h1
 refine⟨h2,a3,fun e=>?_,fun e=>?_,a1,a2⟩
 ·rw[if_pos e]at a5;exact a5
 ·rw[if_pos e]at a6;simpa using a6
theorem f133 (b0:MB) (caps top:Int):∀(N:Nat) (r:Re),r.wt≤N→r.wt≤1000000→wholeG caps top r=true→call Tryz.prog pol1 114 [.pt (reC r),.rf 1 1 0 0] [b0,.row 1 [.clo 114 [.rf 1 1 0 0]] 0]=some (.bool (nullG r),[b0,.row 1 [.clo 114 [.rf 1 1 0 0]] 0])
 | 0,r,h,_,_=>by have:=r.wt_pos;omega
 | N+1,.mk op set kids mn mx md n neg,h,hN,hw=>by
   have hkl:=Re.wtL_len kids
   have hwt:1+set.length+Re.wtL kids=(Re.mk op set kids mn mx md n neg).wt:=by simp[Re.wt]
   obtain⟨hwk,hkd,hrp,_,ho1,ho2⟩:=zAv hw
   have ih:=fun k (hk:k∈kids)=>f133 b0 caps top N k (by have:=Re.wtL_mem hk;omega) (by have:=Re.wtL_mem hk;omega) (hwk k hk)
   rw[show (.pt (reC (.mk op set kids mn mx md n neg)):AV)=.pt (nodeL op set kids mn mx md n neg) from congrArg AV.pt zCc]
   have fr:frzArgs pol1 114 0 [.pt (nodeL op set kids mn mx md n neg),.rf 1 1 0 0] [b0,.row 1 [.clo 114 [.rf 1 1 0 0]] 0]=some ([.pt (nodeL op set kids mn mx md n neg),.rf 1 1 0 0],[b0,.row 1 [.clo 114 [.rf 1 1 0 0]] 0]):=
    zAO _ _ _ (by simp[mixOk,show pol1.byref 114 1=true from rfl,AV.plain,AV.plainL,zAG,zAL])
   have rt:∀ x:Bool,retPol pol1 114 [b0,.row 1 [.clo 114 [.rf 1 1 0 0]] 0] (.bool x) [b0,.row 1 [.clo 114 [.rf 1 1 0 0]] 0]=some (.bool x,[b0,.row 1 [.clo 114 [.rf 1 1 0 0]] 0]):=fun x=>
    zBB rfl rfl rfl (by simp[keptOk,MB.beq_refl]) rfl
   refine zAY (pol:=pol1) Tryz.func114 rfl rfl rfl rfl fr ?_
   have any:∀ r':Bool,r' = nullAny kids→∀ i,i < kids.length→∀ k,kids[i]?=some k→(∀ j q,j < i→kids[j]?=some q→nullG q=false)→nullG k=true→r' = true:=fun r' hr i _ k hk _ hn=>by rw[hr,zDP (List.mem_of_getElem? hk) hn]
   have hop:op=0∨op=1∨op=2∨op=3∨op=4∨op=5∨op=6∨op=7∨op=8∨op=9∨op=10∨op=11:=by omega
   have hone:op=4∨op=5∨op=9→nullHd kids=nullAny kids:=fun e=>by
    have:kids.length=1:=by rcases e with rfl|rfl|rfl<;>simpa [kidsG] using hkd
    match kids,this with
    | [k],_=>simp[nullHd,nullAny]
   by_cases hloop:op=3∨op=10∨op=5∨op=9∨(op=4∧mn≠0)
   ·have hres:nullG (.mk op set kids mn mx md n neg)=nullAny kids:=by
     rw[nullG]
     rcases hloop with rfl|rfl|rfl|rfl|⟨rfl,hmn⟩
     ·simp
     ·simp
     ·simp[hone (.inr (.inl rfl))]
     ·simp[hone (.inr (.inr rfl))]
     ·have hr:=hrp rfl
      simp only[repG,Bool.and_eq_true,decide_eq_true_eq]at hr
      have:¬ mn≤0:=by omega
      simp[hone (.inl rfl),this]
    rw[hres]
    clear hres hone any
    rcases hloop with rfl|rfl|rfl|rfl|⟨rfl,hmn⟩
    all_goals (
     simp +contextual (disch:=omega) only[Tryz.f114,zIL,go_sem,simprocAttr,zHn,↓zAD,↓zAC,↓zAB,↓zAA]
     refine zAd (M:=(mskOf (pol1.mask 114) (pol1.gc 114) (pol1.acts 114) 0 25)) rfl kids.length (fun i=>(⟨65,[(53,I i),(52,I kids.length),(1,.rf 1 1 0 0),(0,.pt (nodeL _ set kids mn mx md n neg))],[b0,.row 1 [.clo 114 [.rf 1 1 0 0]] 0]⟩:St)) (fun i=>∀ j k,j < i→kids[j]?=some k→nullG k=false) ?_ ?_ (fun j k h=>by omega) _ rfl
     ·intro i hi hg
      obtain⟨k,hk⟩:∃ k,kids[i]?=some k:=⟨_,List.getElem?_eq_getElem hi⟩
      have ihk:=ih k (List.mem_of_getElem? hk)
      have hl8:=zAM k
      have ht8:=zAT k
      cases hn:nullG k with
      | true=>
        rw[hn]at ihk
        rw[zDP (List.mem_of_getElem? hk) hn]
        simp +contextual (disch:=omega) only[Tryz.f114,zIL,go_sem,simprocAttr,zHn,↓zAD,↓zAC,↓zAB,↓zAA,hk,ihk,hl8,ht8,rt]
        repeat' (first|intro _|apply And.intro|(unfold dOk;kernel_rfl)|exact St.beq_refl _|(show altO _ _ _ _=true;kernel_rfl)|(show (_ || _)=true;kernel_rfl)|(show (_ && _)=true;kernel_rfl))
      | false=>
        rw[hn]at ihk
        simp +contextual (disch:=omega) only[Tryz.f114,zIL,go_sem,simprocAttr,zHn,↓zAD,↓zAC,↓zAB,↓zAA,hk,ihk,hl8,ht8]
        repeat' (first|intro _|apply And.intro|(unfold dOk;kernel_rfl)|exact St.beq_refl _|(show altO _ _ _ _=true;kernel_rfl)|(show (_ || _)=true;kernel_rfl)|(show (_ && _)=true;kernel_rfl))
        ·rename_i j q hj hq
         rcases Nat.lt_or_ge j i with h|h
         ·exact hg j q h hq
         ·obtain rfl:j=i:=by omega
          rw[hk]at hq;obtain rfl:=Option.some.inj hq
          exact hn
        ·rfl
     ·intro hg
      rw[zDj fun j k hj hk=>hg j k hj hk]
      simp +contextual (disch:=omega) only[Tryz.f114,zIL,go_sem,simprocAttr,zHn,↓zAD,↓zAC,↓zAB,↓zAA,rt])
   ·clear any hone
    have hop:op=2∨op=1∨(op=4∧mn=0)∨op=0∨op=6∨op=7∨op=8∨op=11:=by omega
    clear hloop
    rcases hop with rfl|hop
    ·rw[nullG,if_neg (by omega),if_pos rfl]
     simp +contextual (disch:=omega) only[Tryz.f114,zIL,go_sem,simprocAttr,zHn,↓zAD,↓zAC,↓zAB,↓zAA]
     refine zAd (M:=(mskOf (pol1.mask 114) (pol1.gc 114) (pol1.acts 114) 0 11)) rfl kids.length (fun i=>(⟨65,[(23,I i),(22,I kids.length),(1,.rf 1 1 0 0),(0,.pt (nodeL _ set kids mn mx md n neg))],[b0,.row 1 [.clo 114 [.rf 1 1 0 0]] 0]⟩:St)) (fun i=>∀ j k,j < i→kids[j]?=some k→nullG k=true) ?_ ?_ (fun j k h=>by omega) _ rfl
     ·intro i hi hg
      obtain⟨k,hk⟩:∃ k,kids[i]?=some k:=⟨_,List.getElem?_eq_getElem hi⟩
      have ihk:=ih k (List.mem_of_getElem? hk)
      have hl8:=zAM k
      have ht8:=zAT k
      cases hn:nullG k with
      | false=>
        rw[hn]at ihk
        rw[zDk (List.mem_of_getElem? hk) hn]
        simp +contextual (disch:=omega) only[Tryz.f114,zIL,go_sem,simprocAttr,zHn,↓zAD,↓zAC,↓zAB,↓zAA,hk,ihk,hl8,ht8,rt]
        repeat' (first|intro _|apply And.intro|(unfold dOk;kernel_rfl)|exact St.beq_refl _|(show altO _ _ _ _=true;kernel_rfl)|(show (_ || _)=true;kernel_rfl)|(show (_ && _)=true;kernel_rfl))
      | true=>
        rw[hn]at ihk
        simp +contextual (disch:=omega) only[Tryz.f114,zIL,go_sem,simprocAttr,zHn,↓zAD,↓zAC,↓zAB,↓zAA,hk,ihk,hl8,ht8]
        repeat' (first|intro _|apply And.intro|(unfold dOk;kernel_rfl)|exact St.beq_refl _|(show altO _ _ _ _=true;kernel_rfl)|(show (_ || _)=true;kernel_rfl)|(show (_ && _)=true;kernel_rfl))
        ·rename_i j q hj hq
         rcases Nat.lt_or_ge j i with h|h
         ·exact hg j q h hq
         ·obtain rfl:j=i:=by omega
          rw[hk]at hq;obtain rfl:=Option.some.inj hq
          exact hn
        ·rfl
     ·intro hg
      rw[zD0 fun j k hj hk=>hg j k hj hk]
      simp +contextual (disch:=omega) only[Tryz.f114,zIL,go_sem,simprocAttr,zHn,↓zAD,↓zAC,↓zAB,↓zAA,rt]
    ·have hres:nullG (.mk op set kids mn mx md n neg)=(if op=1 then false else true):=by
      rw[nullG]
      rcases hop with rfl|⟨rfl,rfl⟩|rfl|rfl|rfl|rfl|rfl<;>simp
     rw[hres]
     rcases hop with rfl|⟨rfl,rfl⟩|rfl|rfl|rfl|rfl|rfl
     all_goals (
      first|rw[if_pos rfl]|rw[if_neg (by omega)]
      simp +contextual (disch:=omega) only[Tryz.f114,zIL,go_sem,simprocAttr,zHn,↓zAD,↓zAC,↓zAB,↓zAA,rt])
theorem f105z (r:Re) (hN:r.wt≤1000000) (caps top:Int) (hw:wholeG caps top r=true) (H:List MB):call Tryz.prog pol1 87 [reAV r] H=some (.bool (nullG r),H):=by
 refine zAS Tryz.func87 rfl rfl rfl rfl rfl rfl (fun _=>rfl) (by simp[AV.plain,AV.plainL,zAb]) rfl ?_ H
 have hz:fz (.rf 0 1 0 0) [.row 8 [.agg (reC r)] 0]=some (.pt (reC r),[.row 8 [.agg (reC r)] 1]):=zJ4 (x:=.agg (reC r)) (k:=8) (z:=0) rfl rfl rfl (zAb r)
 have hc:=fun b0=>f133 b0 caps top r.wt r (Nat.le_refl _) hN hw
 have hl8:=zAM r
 have hal:=zAs r
 simp +contextual (disch:=omega) only[Tryz.f87,dd87,go_sem,simprocAttr,mu87,↓zAD,↓zAC,↓zAB,↓zAA,hl8,hz,hc,hal,lookD,look]
 exact fzEq rfl rfl
end
section
attribute [local go_sem] tySzE List.head?_drop Nat.mul_one zAP zAU zAN zAQ zAR zAX
open Go.Proofs Go.RowKit Go.IntWalk
set_option maxRecDepth 100000
set_option maxHeartbeats 8000000
mutual
def lenG:Re→Nat
 | .mk op set kids mn mx md n neg=>
   if op=1∨op=11 then 1 else if op=3 then lenL kids+2 * (kids.length - 1) else if op=5 then lenL kids+2
   else if op=4 then(if mx = -1 then(mn.toNat+1) * lenL kids+2 else mx.toNat * lenL kids+(mx.toNat - mn.toNat)) else lenL kids
def lenL:List Re→Nat
 | []=>0
 | k::ks=>lenG k+lenL ks
end
theorem zEe:∀(a b:List Re),lenL (a++b)=lenL a+lenL b
 | [],b=>by simp[lenL]
 | k::ks,b=>by simp[lenL,zEe ks b,Nat.add_assoc]
theorem zE3 {l:List Re} {i:Nat} {k:Re} (h:l[i]?=some k):lenL (l.take (i+1))=lenL (l.take i)+lenG k:=by
 rw[List.take_add_one,h,zEe];simp[lenL]
theorem f50 (caps top:Int):∀(N:Nat) (r:Re),r.wt≤N→r.wt≤1000000→wholeG caps top r=true→∀ H,call Tryz.prog pol1 55 [.pt (reC r)] H=some (I ((min (lenG r) 8193:Nat):Int),H)
 | 0,r,h,_,_,_=>by have:=r.wt_pos;omega
 | N+1,.mk op set kids mn mx md n neg,h,hN,hw,H=>by
   have hkl:=Re.wtL_len kids
   have hwt:1+set.length+Re.wtL kids=(Re.mk op set kids mn mx md n neg).wt:=by simp[Re.wt]
   obtain⟨hwk,hkd,hrp,_,ho1,ho2⟩:=zAv hw
   have ih:=fun k (hk:k∈kids)=>f50 caps top N k (by have:=Re.wtL_mem hk;omega) (by have:=Re.wtL_mem hk;omega) (hwk k hk)
   rw[show (.pt (reC (.mk op set kids mn mx md n neg)):AV)=.pt (nodeL op set kids mn mx md n neg) from congrArg AV.pt zCc]
   refine zAS Tryz.func55 rfl rfl rfl rfl rfl rfl (fun _=>rfl) (by simp[AV.plain,AV.plainL,zAG,zAL]) rfl ?_ H
   simp +contextual (disch:=omega) only[Tryz.f55,dd55,go_sem,simprocAttr,mu55,↓zAD,↓zAC,↓zAB,↓zAA]
   refine zAd (M:=(mskOf (pol1.mask 55) (pol1.gc 55) (pol1.acts 55) 0 3)) rfl kids.length (fun i=>(⟨81,[(11,I i),(10,I kids.length),(3,I ((min (lenL (kids.take i)) 8193:Nat):Int)),(0,.pt (nodeL op set kids mn mx md n neg))],[]⟩:St)) (fun _=>True) ?_ ?_ trivial _ (by first|rfl|(simp[keepT,AV.underL,AV.under,MB.under,zAF,zAJ,zAK,zAE,zAG,zAH,zAI,-List.map_take,-List.map_replicate,-List.map_set,lenL,zAL];done))
   ·intro i hi _
    obtain⟨k,hk⟩:∃ k,kids[i]?=some k:=⟨_,List.getElem?_eq_getElem hi⟩
    have ihk:=ih k (List.mem_of_getElem? hk)
    have hl8:=zAM k
    have ht8:=zAT k
    have e1:=zE3 hk
    have hm:(if(8193:Int) < ((min (lenL (kids.take i)) 8193:Nat):Int)+((min (lenG k) 8193:Nat):Int) then(8193:Int) else((min (lenL (kids.take i)) 8193:Nat):Int)+((min (lenG k) 8193:Nat):Int))=((min (lenL (kids.take (i+1))) 8193:Nat):Int):=by
     rw[e1];split<;>omega
    simp +contextual (disch:=omega) only[Tryz.f55,dd55,go_sem,simprocAttr,mu55,↓zAD,↓zAC,↓zAB,↓zAA,hk,ihk,evMin,hm,hl8,ht8]
    exact(by first|rfl|(simp[keepT,AV.underL,AV.under,MB.under,zAF,zAJ,zAK,zAE,zAG,zAH,zAI,-List.map_take,-List.map_replicate,-List.map_set,zAL];done))
   ·intro _
    rw[List.take_length]
    have hop:op=0∨op=1∨op=2∨op=3∨op=4∨op=5∨op=6∨op=7∨op=8∨op=9∨op=10∨op=11:=by omega
    rw[lenG]
    generalize lenL kids=L at *
    by_cases h1:op=1∨op=11
    ·rw[if_pos h1]
     rcases h1 with rfl|rfl
     all_goals (
      simp +contextual (disch:=omega) only[Tryz.f55,dd55,go_sem,simprocAttr,mu55,↓zAD,↓zAC,↓zAB,↓zAA,evMin]
      exact fzEq rfl rfl)
    rw[if_neg h1]
    by_cases h3:op=3
    ·subst h3
     rw[if_pos rfl]
     have hk2:2≤kids.length:=by simpa [kidsG] using hkd
     have hw1:IntKind.i64.wrap (((kids.length:Nat):Int) - 1)=((kids.length - 1:Nat):Int):=zAB ⟨by omega,by omega⟩
     simp +contextual (disch:=omega) only[Tryz.f55,dd55,go_sem,simprocAttr,mu55,↓zAD,↓zAC,↓zAB,↓zAA,evMin]
     refine fzEq rfl (congrArg (AV.int .i64) ?_)
     split<;>omega
    rw[if_neg h3]
    by_cases h5:op=5
    ·subst h5
     rw[if_pos rfl]
     simp +contextual (disch:=omega) only[Tryz.f55,dd55,go_sem,simprocAttr,mu55,↓zAD,↓zAC,↓zAB,↓zAA,evMin]
     refine fzEq rfl (congrArg (AV.int .i64) ?_)
     split<;>omega
    rw[if_neg h5]
    by_cases h4:op=4
    ·subst h4
     rw[if_pos rfl]
     have hr:=hrp rfl
     simp only[repG,Bool.and_eq_true,Bool.or_eq_true,decide_eq_true_eq,beq_iff_eq]at hr
     obtain⟨mn',rfl⟩:∃ m:Nat,mn=m:=⟨mn.toNat,by omega⟩
     have hmn:mn'≤32:=by omega
     have hmul:∀ a:Nat,a≤33→a * (min L 8193)≤33 * 8193:=fun a ha=>Nat.mul_le_mul ha (by omega)
     have hml:=hmul mn' (by omega)
     have hc1:(mn':Int) * ((min L 8193:Nat):Int)=((mn' * min L 8193:Nat):Int):=by simp
     by_cases hmx:mx = -1
     ·subst hmx
      rw[if_pos rfl]
      simp +contextual (disch:=omega) only[Tryz.f55,dd55,go_sem,simprocAttr,mu55,↓zAD,↓zAC,↓zAB,↓zAA,evMin,hc1]
      refine fzEq rfl (congrArg (AV.int .i64) ?_)
      rw[Nat.succ_mul]
      by_cases hL:L≤8193
      ·rw[Nat.min_eq_left hL]at *
       split<;>omega
      ·have hle:L≤mn' * L+L:=Nat.le_add_left _ _
       rw[Nat.min_eq_right (by omega)]at *
       split<;>omega
     ·rw[if_neg hmx]
      obtain⟨mx',rfl⟩:∃ m:Nat,mx=m:=⟨mx.toNat,by omega⟩
      obtain⟨e,rfl⟩:∃ e,mx' = mn' + e:=⟨mx' - mn',by omega⟩
      have hsub:((mn' + e:Nat):Int) - (mn':Int)=(e:Int):=by omega
      have hme:e * (min L 8193+1)≤33 * 8194:=Nat.mul_le_mul (by omega) (by omega)
      have hc2:(e:Int) * ((min L 8193+1:Nat):Int)=((e * (min L 8193+1):Nat):Int):=by simp
      have hnn:mn' + e - mn' = e:=by omega
      simp +contextual (disch:=omega) only[Tryz.f55,dd55,go_sem,simprocAttr,mu55,↓zAD,↓zAC,↓zAB,↓zAA,evMin,hc1,hc2,hnn,hsub]
      refine⟨by unfold dOk;kernel_rfl,?_⟩
      refine fzEq rfl (congrArg (AV.int .i64) ?_)
      rw[Nat.mul_add,Nat.add_mul,Nat.mul_one]at *
      by_cases hL:L≤8193
      ·rw[Nat.min_eq_left hL]at *
       split<;>omega
      ·rw[Nat.min_eq_right (by omega)]at *
       have h1:mn' = 0∨L≤mn' * L:=by
        rcases Nat.eq_zero_or_pos mn' with h|h
        ·exact .inl h
        ·exact .inr (Nat.le_mul_of_pos_left _ h)
       have h2:e=0∨L≤e * L:=by
        rcases Nat.eq_zero_or_pos e with h|h
        ·exact .inl h
        ·exact .inr (Nat.le_mul_of_pos_left _ h)
       split<;>omega
    rw[if_neg h4]
    simp +contextual (disch:=omega) only[Tryz.f55,dd55,go_sem,simprocAttr,mu55,↓zAD,↓zAC,↓zAB,↓zAA,evMin]
    refine fzEq rfl (congrArg (AV.int .i64) ?_)
    split<;>omega
end
section
open Go.Proofs Go.RowKit Go.IntWalk
set_option maxRecDepth 100000
set_option maxHeartbeats 4000000
theorem zK2 (l:List Int):((l.map I).all fun y=>decide (y.cells.length=1) && y.cells.all AV.ok)=true:=by
 simp only[List.all_eq_true,List.mem_map,Bool.and_eq_true,decide_eq_true_eq]
 rintro _ ⟨i,_,rfl⟩
 exact⟨rfl,fun x hx=>by
  simp only[AV.cells,List.mem_singleton]at hx
  rw[hx];rfl⟩
end
section
attribute [local go_sem] tySzE List.head?_drop Nat.mul_one zAP zAU zAN zAQ zAR zAX
open Go.Proofs Go.RowKit Go.IntWalk
set_option maxRecDepth 100000
set_option maxHeartbeats 4000000
def capP (a b:Int):Int×Int:=if a = -1∨b = -1 then(-1,-1) else(a,b)
def capsN (regs:List Int) (n:Nat):List (Int×Int):=(List.range n).map fun k=>capP (regs.getD (2 * k) 0) (regs.getD (2 * k+1) 0)
theorem zLR (regs:List Int) (n:Nat):capsN regs (n+1)=capsN regs n++[capP (regs.getD (2 * n) 0) (regs.getD (2 * n+1) 0)]:=by
 simp[capsN,List.range_succ]
theorem zEB (regs:List Int) (n:Nat):(capsN regs n).length=n:=by simp[capsN]
def matAV (s e:Int) (caps:List (Int×Int)):AV:=.agg [I s,I e,.sl false (caps.map spanAV)]
theorem zE1 (s e:Int) (caps:List (Int×Int)):AV.plain (matAV s e caps)=true:=by simp[matAV,AV.plain,AV.plainL,zAG]
end
structure Way where
 pc:Nat
 at_:Nat
 regs:List Int
inductive Out where
 | done
 | ways (l:List Way)
structure Prog1 where
 ins:Nat→Option Ins
 has:List (Int×Int)→Nat→Bool
 holds:Int→Nat→Bool
def stepW (p:Prog1) (w:Way):Out:=
 match p.ins w.pc with
 | none=>.ways []
 | some i=>
   if i.op=0 then .done
   else if i.op=1 then(if p.has i.set w.at_ then .ways [⟨w.pc+1,w.at_+1,w.regs⟩] else .ways [])
   else if i.op=2 then .ways [⟨i.x.toNat,w.at_,w.regs⟩,⟨i.y.toNat,w.at_,w.regs⟩]
   else if i.op=3 then .ways [⟨i.x.toNat,w.at_,w.regs⟩]
   else if i.op=4 then .ways [⟨w.pc+1,w.at_,w.regs.set i.n.toNat w.at_⟩]
   else(if p.holds i.n w.at_ then .ways [⟨w.pc+1,w.at_,w.regs⟩] else .ways [])
def runW (p:Prog1) (most:Int):Nat→List Way→List Way→Option (List Way)
 | fuel,todo,out=>
   match todo with
   | []=>some out
   | w::rest=>
     if(out.length:Int)=most then some out
     else
      match fuel with
      | 0=>none
      | fuel+1=>
        match stepW p w with
        | .done=>runW p most fuel rest (out++[w])
        | .ways l=>runW p most fuel (l++rest) out
def Way.like (a b:Way):Prop:=a.pc=b.pc∧a.at_=b.at_
def likeL:List Way→List Way→Prop
 | [],[]=>True
 | a::l,b::m=>a.like b∧likeL l m
 | _,_=>False
theorem zFc:∀ {a b c d:List Way},likeL a b→likeL c d→likeL (a++c) (b++d)
 | [],[],_,_,_,h=>h
 | _::_,_::_,_,_,h1,h2=>⟨h1.1,zFc h1.2 h2⟩
 | [],_::_,_,_,h,_=>h.elim
 | _::_,[],_,_,h,_=>h.elim
def likeO:Out→Out→Prop
 | .done,.done=>True
 | .ways l,.ways m=>likeL l m
 | _,_=>False
theorem zFG (p:Prog1) {a b:Way} (h:a.like b):likeO (stepW p a) (stepW p b):=by
 obtain⟨h1,h2⟩:=h
 unfold stepW
 rw[h1,h2]
 cases p.ins b.pc with
 | none=>exact trivial
 | some i=>
   simp only[]
   repeat' split
   all_goals first|exact trivial|exact⟨⟨rfl,rfl⟩,trivial⟩|exact⟨⟨rfl,rfl⟩,⟨rfl,rfl⟩,trivial⟩
inductive Reach (p:Prog1):Way→Way→List Way→Nat→Nat→Prop where
 | refl (w:Way):Reach p w w [] 0 0
 | on {w0 w w':Way} {E l:List Way} {d m:Nat} (h:Reach p w0 w E d m) (hs:stepW p w=.ways (w'::l)):Reach p w0 w' (l++E) d (m+1)
 | pop {w0 w e:Way} {E:List Way} {d m:Nat} (h:Reach p w0 w (e::E) d m) (hs:stepW p w=.ways []):Reach p w0 e E d (m+1)
 | found {w0 w e:Way} {E:List Way} {d m:Nat} (h:Reach p w0 w (e::E) d m) (hs:stepW p w=.done):Reach p w0 e E (d+1) (m+1)
theorem Reach.like {p:Prog1} {w0 w:Way} {E:List Way} {d m:Nat} (h:Reach p w0 w E d m) {v0:Way} (hv:w0.like v0):∃ v F,w.like v∧likeL E F∧Reach p v0 v F d m:=by
 induction h with
 | refl=>exact⟨v0,[],hv,trivial,.refl v0⟩
 | on h hs ih=>
   obtain⟨v,F,h1,h2,h3⟩:=ih
   have h4:=zFG p h1
   rw[hs]at h4
   cases hq:stepW p v with
   | done=>rw[hq]at h4;exact h4.elim
   | ways l2=>
     rw[hq]at h4
     cases l2 with
     | nil=>exact h4.elim
     | cons a l2=>exact⟨a,l2++F,h4.1,zFc h4.2 h2,.on h3 hq⟩
 | pop h hs ih=>
   obtain⟨v,F,h1,h2,h3⟩:=ih
   have h4:=zFG p h1
   rw[hs]at h4
   cases hq:stepW p v with
   | done=>rw[hq]at h4;exact h4.elim
   | ways l2=>
     rw[hq]at h4
     cases l2 with
     | nil=>
       cases F with
       | nil=>exact h2.elim
       | cons f F=>exact⟨f,F,h2.1,h2.2,.pop h3 hq⟩
     | cons a l2=>exact h4.elim
 | found h hs ih=>
   obtain⟨v,F,h1,h2,h3⟩:=ih
   have h4:=zFG p h1
   rw[hs]at h4
   cases hq:stepW p v with
   | done=>
     cases F with
     | nil=>exact h2.elim
     | cons f F=>exact⟨f,F,h2.1,h2.2,.found h3 hq⟩
   | ways l2=>rw[hq]at h4;exact h4.elim
theorem zCt {p:Prog1} {most:Int} {fuel:Nat} {w:Way} {rest out:List Way} (h:¬ (out.length:Int)=most) :
  runW p most (fuel+1) (w::rest) out=match stepW p w with
   | .done=>runW p most fuel rest (out++[w])
   | .ways l=>runW p most fuel (l++rest) out:=by
 conv=>lhs;unfold runW
 simp only[h,if_false]
theorem zEt {p:Prog1} {most:Int} {w:Way} {rest out:List Way} (h:¬ (out.length:Int)=most):runW p most 0 (w::rest) out=none:=by
 unfold runW
 simp only[h,if_false]
theorem Reach.run {p:Prog1} {most:Int} {w0 w:Way} {E:List Way} {d m:Nat} (h:Reach p w0 w E d m) (S out:List Way) (hm:most = -1∨(d=0∧¬ (out.length:Int)=most)) (fuel:Nat) :
  ∃ out',out'.length=out.length+d∧runW p most (m+fuel) (w0::S) out=runW p most fuel (w::(E++S)) out':=by
 induction h generalizing fuel with
 | refl=>exact⟨out,rfl,by rw[Nat.zero_add];rfl⟩
 | @on w w' E l d m h hs ih=>
   obtain⟨out',h1,h2⟩:=ih hm (fuel+1)
   refine⟨out',h1,?_⟩
   rw[show m+1+fuel=m+(fuel+1) by omega,h2,zCt (by rcases hm with h|⟨h,h'⟩<;>omega),hs]
   simp only[List.cons_append,List.append_assoc]
 | @pop w e E d m h hs ih=>
   obtain⟨out',h1,h2⟩:=ih hm (fuel+1)
   refine⟨out',h1,?_⟩
   rw[show m+1+fuel=m+(fuel+1) by omega,h2,zCt (by rcases hm with h|⟨h,h'⟩<;>omega),hs]
   rfl
 | @found w e E d m h hs ih=>
   rcases hm with hm|hm
   ·obtain⟨out',h1,h2⟩:=ih (.inl hm) (fuel+1)
    refine⟨out'++[w],by simp;omega,?_⟩
    rw[show m+1+fuel=m+(fuel+1) by omega,h2,zCt (by omega),hs]
    rfl
   ·omega
theorem Reach.short {p:Prog1} {most:Int} {w0 w:Way} {E:List Way} {d m:Nat} (h:Reach p w0 w E d m) (S out:List Way) (hm:most = -1∨(d=0∧¬ (out.length:Int)=most)) (fuel:Nat) (hf:fuel < m) :
  runW p most fuel (w0::S) out=none:=by
 induction h generalizing fuel with
 | refl=>omega
 | @on w w' E l d m h hs ih=>
   rcases Nat.lt_or_ge fuel m with h1|h1
   ·exact ih hm fuel h1
   ·obtain rfl:fuel=m:=by omega
    obtain⟨out',h2,h3⟩:=h.run S out hm 0
    rw[Nat.add_zero]at h3
    rw[h3,zEt (by rcases hm with h|⟨h,h'⟩<;>omega)]
 | @pop w e E d m h hs ih=>
   rcases Nat.lt_or_ge fuel m with h1|h1
   ·exact ih hm fuel h1
   ·obtain rfl:fuel=m:=by omega
    obtain⟨out',h2,h3⟩:=h.run S out hm 0
    rw[Nat.add_zero]at h3
    rw[h3,zEt (by rcases hm with h|⟨h,h'⟩<;>omega)]
 | @found w e E d m h hs ih=>
   rcases hm with hm|hm
   ·rcases Nat.lt_or_ge fuel m with h1|h1
    ·exact ih (.inl hm) fuel h1
    ·obtain rfl:fuel=m:=by omega
     obtain⟨out',h2,h3⟩:=h.run S out (.inl hm) 0
     rw[Nat.add_zero]at h3
     rw[h3,zEt (by omega)]
   ·omega
theorem circle {p:Prog1} {most:Int} {w0 w:Way} {E:List Way} {d m:Nat} (h:Reach p w0 w E d (m+1)) (hl:w0.like w):∀(fuel:Nat) (v0:Way) (S out:List Way),w0.like v0→(most = -1∨(d=0∧¬ (out.length:Int)=most)) →
  runW p most fuel (v0::S) out=none:=by
 intro fuel
 induction fuel using Nat.strongRecOn with
 | ind fuel ih=>
   intro v0 S out hv hm
   obtain⟨v,F,h1,h2,h3⟩:=h.like hv
   rcases Nat.lt_or_ge fuel (m+1) with hf|hf
   ·exact h3.short S out hm fuel hf
   ·obtain⟨out',o1,o2⟩:=h3.run S out hm (fuel - (m+1))
    rw[show m+1+(fuel - (m+1))=fuel by omega]at o2
    rw[o2]
    refine ih _ (by omega) v (F++S) out' ⟨hl.1.trans h1.1,hl.2.trans h1.2⟩ ?_
    rcases hm with hm|⟨hm,hm'⟩
    ·exact .inl hm
    ·exact .inr ⟨hm,by omega⟩
structure WayI where
 w:Way
 idle:Nat
 found:Nat
theorem zDe {p:Prog1} {most:Int}:∀(fuel:Nat) (todo out out':List Way),out.length=out'.length→runW p most fuel todo out=none→runW p most fuel todo out' = none
 | fuel,[],out,out',_,h=>by unfold runW at h;simp at h
 | 0,w::todo,out,out',hl,h=>by
   by_cases ho:(out.length:Int)=most
   ·unfold runW at h;simp only[ho,if_true]at h;cases h
   ·exact zEt (by rw[← hl];exact ho)
 | fuel+1,w::todo,out,out',hl,h=>by
   by_cases ho:(out.length:Int)=most
   ·unfold runW at h;simp only[ho,if_true]at h;cases h
   ·rw[zCt ho]at h
    rw[zCt (by rw[← hl];exact ho)]
    cases hs:stepW p w with
    | done=>rw[hs]at h;exact zDe fuel todo _ _ (by simp[hl]) h
    | ways l=>rw[hs]at h;exact zDe fuel _ _ _ hl h
structure Ghost where
 e:WayI
 hs:List Way
def Chain (p:Prog1) (found outN:Nat):List Way→Prop
 | []=>True
 | a::l=>(∀ b∈l,∃ E d m,Reach p b a E d (m+1)∧found+d≤outN)∧Chain p found outN l
theorem Chain.mono {p:Prog1} {f n n':Nat} (h:n≤n'):∀ {l:List Way},Chain p f n l→Chain p f n' l
 | [],_=>trivial
 | a::l,⟨h1,h2⟩=>⟨fun b hb=>by
    obtain⟨E,d,m,r,hd⟩:=h1 b hb
    exact⟨E,d,m,r,by omega⟩,Chain.mono h h2⟩
structure Hist (p:Prog1) (n outN:Nat) (t:Ghost) (rest:List Ghost):Prop where
 idle:∀ g∈t::rest,g.hs.length=g.e.idle∧g.e.found≤outN
 at_:∀ g∈t::rest,g.e.w.pc < n∧∀ h∈g.hs,h.at_=g.e.w.at_∧h.pc < n
 chain:∀ g∈t::rest,Chain p g.e.found outN g.hs
 reach:∀ i g,(t::rest)[i]?=some g→∀ h∈g.hs,∃ E S d m,rest.map (·.e.w)=E++S∧i≤E.length∧Reach p h t.e.w E d (m+1)∧g.e.found+d≤outN
theorem zKm:∀(n:Nat) (L:List Nat),(∀ x∈L,x < n)→L.Nodup→L.length≤n
 | 0,[],_,_=>Nat.le_refl _
 | 0,x::_,h,_=>absurd (h x (List.mem_cons_self ..)) (Nat.not_lt_zero _)
 | n+1,L,h,hd=>by
   have h1:(L.erase n).length≤n:=zKm n (L.erase n) (fun x hx=>by
    have h2:=(List.Nodup.mem_erase_iff hd).1 hx
    have h3:=h x h2.2
    have h4:=h2.1
    omega) (hd.erase n)
   rw[List.length_erase]at h1
   split at h1<;>omega
theorem zJZ {p:Prog1} {f N:Nat}:∀(L:List Way),Chain p f N L→¬ (L.map (·.pc)).Nodup→∃ a∈L,∃ b∈L,b.pc=a.pc∧∃ E d m,Reach p b a E d (m+1)∧f+d≤N
 | [],_,h=>absurd List.nodup_nil h
 | a::l,⟨h1,h2⟩,h=>by
   by_cases hb:∃ b∈l,b.pc=a.pc
   ·obtain⟨b,b1,b2⟩:=hb
    exact⟨a,List.mem_cons_self ..,b,List.mem_cons_of_mem _ b1,b2,h1 b b1⟩
   ·have:¬ (l.map (·.pc)).Nodup:=fun hn=>h (by
     rw[List.map_cons,List.nodup_cons]
     refine⟨fun hm=>?_,hn⟩
     obtain⟨b,b1,b2⟩:=List.mem_map.1 hm
     exact hb ⟨b,b1,b2⟩)
    obtain⟨x,x1,y,y1,r⟩:=zJZ l h2 this
    exact⟨x,List.mem_cons_of_mem _ x1,y,List.mem_cons_of_mem _ y1,r⟩
theorem Hist.now {p:Prog1} {n outN:Nat} {t:Ghost} {rest:List Ghost} (h:Hist p n outN t rest):Chain p t.e.found outN (t.e.w::t.hs):=
 ⟨fun b hb=>by
   obtain⟨E,S,d,m,_,_,r,hd⟩:=h.reach 0 t rfl b hb
   exact⟨E,d,m,r,hd⟩,h.chain t (List.mem_cons_self ..)⟩
theorem Hist.circle {p:Prog1} {n:Nat} {t:Ghost} {rest:List Ghost} {out:List Way} (h:Hist p n out.length t rest) (hn:n≤t.e.idle) {most:Int} (hm:most = -1∨t.e.found=out.length) (ho:¬ (out.length:Int)=most) (fuel:Nat) :
  runW p most fuel (t.e.w::rest.map (·.e.w)) out=none:=by
 have h0:=h.now
 have hat:=h.at_ t (List.mem_cons_self ..)
 have hid:=h.idle t (List.mem_cons_self ..)
 have hlen:¬ ((t.e.w::t.hs).map (·.pc)).Nodup:=fun hd=>by
  have:=zKm n _ (fun x hx=>by
   obtain⟨b,b1,rfl⟩:=List.mem_map.1 hx
   rcases List.mem_cons.1 b1 with e|e
   ·rw[e];exact hat.1
   ·exact(hat.2 b e).2) hd
  rw[List.length_map,List.length_cons,hid.1]at this
  omega
 obtain⟨a,a1,b,b1,hpc,E,d,m,r,hd⟩:=zJZ _ h0 hlen
 have hlike:b.like a:=by
  refine⟨hpc,?_⟩
  have:∀ c∈t.e.w::t.hs,c.at_=t.e.w.at_:=fun c hc=>by
   rcases List.mem_cons.1 hc with e|e
   ·rw[e]
   ·exact(hat.2 c e).1
  rw[this b b1,this a a1]
 have hd0:most = -1∨d=0:=by
  rcases hm with h|h
  ·exact .inl h
  ·exact .inr (by omega)
 rcases List.mem_cons.1 a1 with e|e
 ·subst e
  refine Go.Ev.circle r hlike fuel t.e.w _ out hlike ?_
  rcases hd0 with h|h
  ·exact .inl h
  ·exact .inr ⟨h,ho⟩
 ·obtain⟨E2,S2,d2,m2,hr,_,r2,hd2⟩:=h.reach 0 t rfl a e
  have hlen0:(out.take (out.length - d2)).length+d2=out.length:=by simp;omega
  have hq:most = -1∨(d2=0∧¬ ((out.take (out.length - d2)).length:Int)=most):=by
   rcases hm with h|h
   ·exact .inl h
   ·refine .inr ⟨by omega,?_⟩
    have:d2=0:=by omega
    subst this
    simpa using ho
  obtain⟨out',o1,o2⟩:=r2.run S2 (out.take (out.length - d2)) hq fuel
  have hn:=Go.Ev.circle r hlike (m2+1+fuel) a S2 (out.take (out.length - d2)) hlike (by
   rcases hd0 with h|h
   ·exact .inl h
   ·rcases hq with g|g
    ·exact .inl g
    ·exact .inr ⟨h,g.2⟩)
  rw[hn]at o2
  rw[hr]
  exact zDe fuel _ out' out (by omega) o2.symm
theorem Hist.step {p:Prog1} {n outN:Nat} {t:Ghost} {rest:List Ghost} (h:Hist p n outN t rest) (hcl:∀ w l,w.pc < n→stepW p w=.ways l→∀ v∈l,v.pc < n)
  {hs:List Way} {found:Nat} (hh:(hs=t.e.w::t.hs∧found=t.e.found)∨(hs=[t.e.w]∧found=outN)) {v:Way} {l:List Way} (hs1:stepW p t.e.w=.ways (v::l)) :
  ∃ t' rest',Hist p n outN t' rest'∧t'.e::rest'.map (·.e)=(v::l).map (fun v=>if v.at_=t.e.w.at_ then⟨v,hs.length,found⟩ else⟨v,0,outN⟩)++rest.map (·.e):=by
 have hat:=h.at_ t (List.mem_cons_self ..)
 have hid:=h.idle t (List.mem_cons_self ..)
 have hf:found≤outN:=by rcases hh with ⟨_,h⟩|⟨_,h⟩<;>omega
 have hhs:∀ b∈hs,b.at_=t.e.w.at_∧b.pc < n:=fun b hb=>by
  rcases hh with ⟨e,_⟩|⟨e,_⟩
  ·rw[e]at hb
   rcases List.mem_cons.1 hb with e|e
   ·rw[e];exact⟨rfl,hat.1⟩
   ·exact hat.2 b e
  ·rw[e]at hb
   rw[List.mem_singleton.1 hb];exact⟨rfl,hat.1⟩
 have hch:Chain p found outN hs:=by
  rcases hh with ⟨e,e'⟩|⟨e,e'⟩
  ·rw[e,e'];exact h.now
  ·rw[e];exact⟨fun b hb=>by simp at hb,trivial⟩
 have hre:∀ b∈hs,∃ E S d m,rest.map (·.e.w)=E++S∧Reach p b v (l++E) d (m+1)∧found+d≤outN:=fun b hb=>by
  have self:∃ E S d m,rest.map (·.e.w)=E++S∧Reach p t.e.w v (l++E) d (m+1)∧found+d≤outN:=⟨[],_,0,0,rfl,.on (.refl _) hs1,by omega⟩
  rcases hh with ⟨e,e'⟩|⟨e,_⟩
  ·rw[e]at hb
   rcases List.mem_cons.1 hb with e|e
   ·rw[e];exact self
   ·obtain⟨E,S,d,m,r1,r2,r3,r4⟩:=h.reach 0 t rfl b e
    exact⟨E,S,d,m+1,r1,.on r3 hs1,by omega⟩
  ·rw[e]at hb
   rw[List.mem_singleton.1 hb];exact self
 let gh:Way→Ghost:=fun v=>if v.at_=t.e.w.at_ then⟨⟨v,hs.length,found⟩,hs⟩ else⟨⟨v,0,outN⟩,[]⟩
 have hgh:∀ v,(gh v).e.w=v:=fun v=>by simp only[gh];split<;>rfl
 have hghe:∀ v,(gh v).e=if v.at_=t.e.w.at_ then⟨v,hs.length,found⟩ else⟨v,0,outN⟩:=fun v=>by simp only[gh];split<;>rfl
 have hghs:∀ v,(gh v).hs=hs∧(gh v).e.found=found∨(gh v).hs=[]:=fun v=>by
  simp only[gh];split
  ·exact .inl ⟨rfl,rfl⟩
  ·exact .inr rfl
 have hpc:=hcl t.e.w (v::l) hat.1 hs1
 refine⟨gh v,l.map gh++rest,⟨fun g hg=>?_,fun g hg=>?_,fun g hg=>?_,fun i g hg b hb=>?_⟩,?_⟩
 ·have hcase:g∈(v::l).map gh∨g∈rest:=by simpa [or_assoc] using hg
  rcases hcase with hg|hg
  ·obtain⟨u,_,rfl⟩:=List.mem_map.1 hg
   simp only[gh];split
   ·exact⟨rfl,hf⟩
   ·exact⟨rfl,Nat.le_refl _⟩
  ·exact h.idle g (List.mem_cons_of_mem _ hg)
 ·have hcase:g∈(v::l).map gh∨g∈rest:=by simpa [or_assoc] using hg
  rcases hcase with hg|hg
  ·obtain⟨u,hu,rfl⟩:=List.mem_map.1 hg
   refine⟨by rw[hgh];exact hpc u hu,?_⟩
   simp only[gh];split
   ·rename_i e
    intro b hb
    rw[e];exact hhs b hb
   ·intro b hb;simp at hb
  ·exact h.at_ g (List.mem_cons_of_mem _ hg)
 ·have hcase:g∈(v::l).map gh∨g∈rest:=by simpa [or_assoc] using hg
  rcases hcase with hg|hg
  ·obtain⟨u,_,rfl⟩:=List.mem_map.1 hg
   simp only[gh];split
   ·exact hch
   ·exact trivial
  ·exact h.chain g (List.mem_cons_of_mem _ hg)
 ·have hmap:(l.map gh++rest).map (·.e.w)=l++rest.map (·.e.w):=by
   rw[List.map_append,List.map_map]
   congr 1
   rw[show ((fun x:Ghost=>x.e.w) ∘ gh)=id from funext hgh,List.map_id]
  rw[hmap,hgh]
  by_cases hi:i < (v::l).length
  ·have hg':((v::l).map gh)[i]?=some g:=by
    rw[show gh v::(l.map gh++rest)=(v::l).map gh++rest from rfl,List.getElem?_append_left (by simpa using hi)]at hg
    exact hg
   obtain⟨u,_,rfl⟩:=List.mem_map.1 (List.mem_of_getElem? hg')
   rcases hghs u with ⟨e1,e2⟩|e1
   ·rw[e1]at hb
    obtain⟨E,S,d,m,r1,r2,r3⟩:=hre b hb
    exact⟨l++E,S,d,m,by rw[r1,List.append_assoc],by simp at hi ⊢;omega,r2,by rw[e2];exact r3⟩
   ·rw[e1]at hb;simp at hb
  ·rw[show gh v::(l.map gh++rest)=(v::l).map gh++rest from rfl,List.getElem?_append_right (by simp at hi ⊢;omega)]at hg
   simp only[List.length_map]at hg
   obtain⟨E,S,d,m,r1,r2,r3,r4⟩:=h.reach (i - (v::l).length+1) g (by simpa using hg) b hb
   refine⟨l++E,S,d,m+1,by rw[r1,List.append_assoc],?_,.on r3 hs1,r4⟩
   simp at hi r2 ⊢;omega
 ·simp only[List.map_cons,List.map_append,List.map_map,List.cons_append,List.cons.injEq]
  exact⟨hghe v,by congr 1;exact List.map_congr_left fun u _=>hghe u⟩
theorem Hist.pop {p:Prog1} {n outN:Nat} {t e:Ghost} {rest:List Ghost} (h:Hist p n outN t (e::rest)) {k:Nat} (hs:(stepW p t.e.w=.ways []∧k=0)∨(stepW p t.e.w=.done∧k=1)):Hist p n (outN+k) e rest:=by
 refine⟨fun g hg=>?_,fun g hg=>h.at_ g (List.mem_cons_of_mem _ hg),fun g hg=>(h.chain g (List.mem_cons_of_mem _ hg)).mono (by omega),fun i g hg b hb=>?_⟩
 ·have:=h.idle g (List.mem_cons_of_mem _ hg)
  exact⟨this.1,by omega⟩
 ·obtain⟨E,S,d,m,r1,r2,r3,r4⟩:=h.reach (i+1) g (by simpa using hg) b hb
  cases E with
  | nil=>simp at r2
  | cons x E=>
    simp only[List.map_cons,List.cons_append,List.cons.injEq]at r1
    obtain⟨rfl,r1⟩:=r1
    rcases hs with ⟨hs,rfl⟩|⟨hs,rfl⟩
    ·exact⟨E,S,d,m+1,r1,by simpa using r2,.pop r3 hs,r4⟩
    ·exact⟨E,S,d+1,m+1,r1,by simpa using r2,.found r3 hs,by omega⟩
end Go.Ev
namespace Go.Ev
attribute [local go_sem] evAppend evBin evBuild AV.cells splice List.length_append List.map_append
section
open Go.Proofs Go.RowKit Go.IntWalk
set_option maxRecDepth 100000
set_option maxHeartbeats 4000000
theorem f120 (g:Prg) (n:Int) (b:MB) (hl:g.ins.length≤1000000) :
  call Tryz.prog pol1 136 [.int .i64 n,.rf 0 1 0 0] [.row 3 [.agg [.sl false (g.ins.map insAV),I g.caps,.bool g.runes]] 0,b] =
   some (.bool (decide (0≤n∧n < g.ins.length)),[.row 3 [.agg [.sl false (g.ins.map insAV),I g.caps,.bool g.runes]] 0,b]):=by
 refine zAY Tryz.func136 rfl rfl rfl rfl (by rfl) ?_
 by_cases h:0≤n
 ·by_cases h2:n < g.ins.length
  all_goals
   simp +contextual (disch:=omega) only[Tryz.f136,dd136,go_sem,simprocAttr,zOd,↓zAD,↓zAC,↓zAB,↓zAA]
   refine(zBB rfl rfl rfl ?_ rfl).trans ?_
   ·simp[keptOk,MB.beq_refl]
   ·simp[h,h2]
 ·simp +contextual (disch:=omega) only[Tryz.f136,dd136,go_sem,simprocAttr,zOd,↓zAD,↓zAC,↓zAB,↓zAA]
  refine(zBB rfl rfl rfl ?_ rfl).trans ?_
  ·simp[keptOk,MB.beq_refl]
  ·simp[h]
theorem zHg {l:List (Int×Int)} (h:refSpans l=0) {p:Int×Int} (hp:l[l.length - 1]?=some p):p.2≤1114111:=by
 have hl:l.length - 1 < l.length:=(List.getElem?_eq_some_iff.1 hp).1
 cases hb:badAt l (l.length - 1) with
 | true=>rw[zDv hl hb]at h;cases h
 | false=>
   simp only[badAt,hp,Bool.or_eq_false_iff,Bool.not_eq_false',decide_eq_true_eq]at hb
   exact hb.1.2.2
theorem f69 (g:Prg) (i:Ins) (hc:0≤g.caps∧g.caps≤9) (hl:g.ins.length≤1000000) (hs:i.set.length≤1000000) (H:List MB) :
  call Tryz.prog pol1 103 [.agg [.sl false (g.ins.map insAV),I g.caps,.bool g.runes],.pt [I i.op,I i.x,I i.y,I i.n,.sl false (i.set.map spanAV)]] H=some (.bool (okIns g.ins.length g.caps g.runes i),H):=by
 refine zAS Tryz.func103 rfl rfl rfl rfl rfl rfl (fun _=>rfl) (by simp[AV.plain,AV.plainL,zAE,zAG,zAH,zAI]) (by simp[AV.plain,AV.plainL,zAE,zAG,zAH,zAI]) ?_ H
 obtain⟨op,x,y,n,set⟩:=i
 simp only[]at hs
 by_cases h1:op=1
 ·subst h1
  rcases Nat.eq_zero_or_pos set.length with hz|hz
  ·obtain rfl:set=[]:=List.length_eq_zero_iff.1 hz
   have ht:=f121 [] (by simp)
   have e:refSpans []=0:=by decide
   rw[e,List.map_nil]at ht
   cases hr:g.runes
   all_goals
    simp +contextual (disch:=omega) only[Tryz.f103,zJV,go_sem,simprocAttr,zI2,↓zAD,↓zAC,↓zAB,↓zAA,prgAV,ht,hr]
    repeat' (first|intro _|apply And.intro|refine fzEq rfl (congrArg AV.bool ?_)|(unfold dOk;kernel_rfl)|(show (_ && _)=true;kernel_rfl)|(show (_ || _)=true;kernel_rfl))
    all_goals (try rw[Bool.eq_iff_iff];try simp_all [okIns,lastOk];try omega)
  ·obtain⟨p,hp⟩:∃ p,set[set.length - 1]?=some p:=⟨_,List.getElem?_eq_getElem (by omega)⟩
   have ht:=f121 set hs
   have hq:refSpans set=0→p.2≤1114111:=fun h=>zHg h hp
   cases hr:g.runes
   all_goals
    simp +contextual (disch:=omega) only[Tryz.f103,zJV,go_sem,simprocAttr,zI2,↓zAD,↓zAC,↓zAB,↓zAA,prgAV,ht,hr,hp,spanAV]
    repeat' (first|intro _|apply And.intro|refine fzEq rfl (congrArg AV.bool ?_)|(unfold dOk;kernel_rfl)|(show (_ && _)=true;kernel_rfl)|(show (_ || _)=true;kernel_rfl))
    all_goals (try rw[Bool.eq_iff_iff];try simp_all [okIns,lastOk];try omega)
 by_cases h0:op=0
 ·subst h0
  simp +contextual (disch:=omega) only[Tryz.f103,zJV,go_sem,simprocAttr,zI2,↓zAD,↓zAC,↓zAB,↓zAA,prgAV]
  repeat' (first|intro _|apply And.intro|refine fzEq rfl (congrArg AV.bool ?_)|(unfold dOk;kernel_rfl)|(show (_ && _)=true;kernel_rfl)|(show (_ || _)=true;kernel_rfl))
  all_goals (try rw[Bool.eq_iff_iff];try simp_all [okIns,-List.length_eq_zero_iff];try omega)
 by_cases h2:op=2
 ·subst h2
  simp +contextual (disch:=omega) only[Tryz.f103,zJV,go_sem,simprocAttr,zI2,↓zAD,↓zAC,↓zAB,↓zAA,prgAV,f120,hl]
  repeat' (first|intro _|apply And.intro|refine fzEq rfl (congrArg AV.bool ?_)|(unfold dOk;kernel_rfl)|(show (_ && _)=true;kernel_rfl)|(show (_ || _)=true;kernel_rfl))
  all_goals (try rw[Bool.eq_iff_iff];try simp_all [okIns,-List.length_eq_zero_iff];try omega)
 by_cases h3:op=3
 ·subst h3
  simp +contextual (disch:=omega) only[Tryz.f103,zJV,go_sem,simprocAttr,zI2,↓zAD,↓zAC,↓zAB,↓zAA,prgAV,f120,hl]
  repeat' (first|intro _|apply And.intro|refine fzEq rfl (congrArg AV.bool ?_)|(unfold dOk;kernel_rfl)|(show (_ && _)=true;kernel_rfl)|(show (_ || _)=true;kernel_rfl))
  all_goals (try rw[Bool.eq_iff_iff];try simp_all [okIns,-List.length_eq_zero_iff];try omega)
 by_cases h4:op=4
 ·subst h4
  simp +contextual (disch:=omega) only[Tryz.f103,zJV,go_sem,simprocAttr,zI2,↓zAD,↓zAC,↓zAB,↓zAA,prgAV]
  repeat' (first|intro _|apply And.intro|refine fzEq rfl (congrArg AV.bool ?_)|(unfold dOk;kernel_rfl)|(show (_ && _)=true;kernel_rfl)|(show (_ || _)=true;kernel_rfl))
  all_goals (try rw[Bool.eq_iff_iff];try simp_all [okIns,-List.length_eq_zero_iff];try omega)
 by_cases h5:op=5
 ·subst h5
  simp +contextual (disch:=omega) only[Tryz.f103,zJV,go_sem,simprocAttr,zI2,↓zAD,↓zAC,↓zAB,↓zAA,prgAV]
  repeat' (first|intro _|apply And.intro|refine fzEq rfl (congrArg AV.bool ?_)|(unfold dOk;kernel_rfl)|(show (_ && _)=true;kernel_rfl)|(show (_ || _)=true;kernel_rfl))
  all_goals (try rw[Bool.eq_iff_iff];try simp_all [okIns,-List.length_eq_zero_iff];try omega)
 simp +contextual (disch:=omega) only[Tryz.f103,zJV,go_sem,simprocAttr,zI2,↓zAD,↓zAC,↓zAB,↓zAA,prgAV]
 repeat' (first|intro _|apply And.intro|refine fzEq rfl (congrArg AV.bool ?_)|(unfold dOk;kernel_rfl)|(show (_ && _)=true;kernel_rfl)|(show (_ || _)=true;kernel_rfl))
 all_goals (try rw[Bool.eq_iff_iff];try simp_all [okIns,-List.length_eq_zero_iff];try omega)
end
section
attribute [local go_sem] tySzE List.head?_drop Nat.mul_one zAP zAU zAN zAQ zAR zAX
open Go.Proofs Go.RowKit Go.IntWalk
set_option maxRecDepth 100000
set_option maxHeartbeats 4000000
theorem f30 (g:Prg) (hb:PrgB g) (H:List MB):call Tryz.prog pol1 72 [.agg [.sl false (g.ins.map insAV),I g.caps,.bool g.runes]] H=some (I (validG g),H):=by
 obtain⟨hl,hs⟩:=hb
 refine zAS Tryz.func72 rfl rfl rfl rfl rfl rfl (fun _=>rfl) (by simp[AV.plain,AV.plainL,zAE,zAG,zAH,zAI]) (by simp[AV.plain,AV.plainL,zAE,zAG,zAH,zAI]) ?_ H
 by_cases h1:8192 < g.ins.length
 ·have e:validG g=4:=by simp[validG,h1]
  rw[e]
  simp +contextual (disch:=omega) only[Tryz.f72,dd72,go_sem,simprocAttr,mu72,↓zAD,↓zAC,↓zAB,↓zAA]
  exact fzEq rfl rfl
 by_cases h2:g.ins.length=0∨g.caps < 0∨9 < g.caps
 ·have e:validG g=1:=by unfold validG;rw[if_neg h1,if_pos h2]
  rw[e]
  simp +contextual (disch:=omega) only[Tryz.f72,dd72,go_sem,simprocAttr,mu72,↓zAD,↓zAC,↓zAB,↓zAA]
  repeat' (first|intro _|apply And.intro|exact fzEq rfl rfl)
  all_goals (exfalso;omega)
 simp +contextual (disch:=omega) only[Tryz.f72,dd72,go_sem,simprocAttr,mu72,↓zAD,↓zAC,↓zAB,↓zAA]
 refine zAd (M:=(mskOf (pol1.mask 72) (pol1.gc 72) (pol1.acts 72) 0 6)) rfl g.ins.length (fun i=>(⟨49,[(25,I i),(24,I g.ins.length),(1,.rf 0 1 0 0)],[.row 3 [prgAV g] 0]⟩:St))
  (fun i=>∀ k p,k < i→g.ins[k]?=some p→okIns g.ins.length g.caps g.runes p=true) ?_ ?_ (fun k p h=>by omega) _ (by first|rfl|(refine zA7 rfl (by rfl) (by rfl) (by rfl) ?_ ?_<;>simp[AV.underL,AV.under,MB.under,zAF,zAJ,zAE,zAG,zAH,zAI,-List.map_take]))
 ·intro i hi hg
  obtain⟨p,hp⟩:∃ p,g.ins[i]?=some p:=⟨_,List.getElem?_eq_getElem hi⟩
  have hsp:=hs p (List.mem_of_getElem? hp)
  have hf:=f69 g p (by omega) hl hsp
  cases hok:okIns g.ins.length g.caps g.runes p
  ·rw[hok]at hf
   simp +contextual (disch:=omega) only[Tryz.f72,dd72,go_sem,simprocAttr,mu72,↓zAD,↓zAC,↓zAB,↓zAA,hp,hf]
   refine⟨by unfold dOk;kernel_rfl,fzEq rfl ?_⟩
   rw[zK4 h1 hp hok]
  ·rw[hok]at hf
   simp +contextual (disch:=omega) only[Tryz.f72,dd72,go_sem,simprocAttr,mu72,↓zAD,↓zAC,↓zAB,↓zAA,hp,hf]
   refine⟨by unfold dOk;kernel_rfl,fun k q hk hq=>?_,(by first|rfl|(refine zA7 rfl (by rfl) (by rfl) (by rfl) ?_ ?_<;>simp[AV.underL,AV.under,MB.under,zAF,zAJ,zAE,zAG,zAH,zAI,-List.map_take]))⟩
   rcases Nat.lt_or_ge k i with h|h
   ·exact hg k q h hq
   ·obtain rfl:k=i:=by omega
    rw[hp]at hq
    obtain rfl:=Option.some.inj hq
    exact hok
 ·intro hg
  rw[zJi h1 h2 (fun k p hk hp=>hg k p hk hp)]
  obtain⟨p,hp⟩:∃ p,g.ins[g.ins.length - 1]?=some p:=⟨_,List.getElem?_eq_getElem (by omega)⟩
  have e:lastGood g=(p.op == 0 || p.op == 2 || p.op == 3):=by simp[lastGood,hp]
  rw[e]
  simp +contextual (disch:=omega) only[Tryz.f72,dd72,go_sem,simprocAttr,mu72,↓zAD,↓zAC,↓zAB,↓zAA,hp]
  repeat' (first|intro _|apply And.intro|refine fzEq rfl ?_)
  all_goals (congr 1<;>simp<;>omega)
end
section
attribute [local go_sem] tySzE List.head?_drop Nat.mul_one zAP zAU zAN zAQ zAR zAX
open Go.Proofs Go.RowKit Go.IntWalk
set_option maxRecDepth 100000
set_option maxHeartbeats 4000000
abbrev M3:=Int×Int×List (Int×Int)
abbrev mA (m:M3):AV:=matAV m.1 m.2.1 m.2.2
end
end Go.Ev
namespace Go.Ev
open Go.Proofs Go.RowKit Go.IntWalk
set_option maxRecDepth 100000
set_option maxHeartbeats 4000000
structure Okay (g:Prg):Prop where
 len:1≤g.ins.length∧g.ins.length≤8192
 caps:0≤g.caps∧g.caps≤9
 ok:∀ i∈g.ins,okIns g.ins.length g.caps g.runes i=true
 last:lastGood g=true
theorem zL3 {g:Prg} (h:validG g=0):Okay g:=by
 unfold validG at h
 split at h
 ·cases h
 ·split at h
  ·cases h
  ·split at h
   ·rename_i h1 h2 h3
    simp only[Bool.and_eq_true,List.all_eq_true]at h3
    exact⟨by omega,by omega,h3.1,h3.2⟩
   ·cases h
theorem Okay.next {g:Prg} (h:Okay g) {pc:Nat} {i:Ins} (hi:g.ins[pc]?=some i) (ho:¬ (i.op=0∨i.op=2∨i.op=3)):pc+1 < g.ins.length:=by
 have hlt:=(List.getElem?_eq_some_iff.1 hi).1
 rcases Nat.lt_or_ge (pc+1) g.ins.length with hh|hh
 ·exact hh
 ·have hl:=h.last
  have:g.ins.length - 1=pc:=by omega
  simp only[lastGood,this,hi]at hl
  simp at hl
  omega
end Go.Ev
namespace Go.Ev
attribute [local go_sem] evAppend evBin evBuild AV.cells splice List.length_append List.map_append
section
attribute [local go_sem] tySzE List.head?_drop Nat.mul_one zAP zAU zAN zAQ zAR zAX
open Go.Proofs Go.RowKit Go.IntWalk
set_option maxRecDepth 100000
set_option maxHeartbeats 8000000
theorem zNM {P:Program} {pol:Pol} {f:Nat} {args l:List AV} {H H1:List MB} (hp:pol.pure f=true) (h:frzArgs pol f 0 args H=some (l,H1)) (ha:AV.plainL l=true) :
  call P pol f args H=call P pol f l H1:=by
 have hf:∀(l:List AV) (i:Nat),AV.plainL l=true→frzArgs pol f i l H1=some (l,H1):=by
  intro l
  induction l with
  | nil=>intro i _;rfl
  | cons x l ih=>
    intro i h
    simp only[AV.plainL,Bool.and_eq_true]at h
    simp only[frzArgs,zAf H1 h.1,ih (i+1) h.2]
    split<;>simp_all
 rw[zA5,zA5]
 unfold evStep
 simp only[hp,if_true,h,hf l 0 ha]
end
end Go.Ev
