/- Functions of the program, each with what it computes; no further conditions. -/
import Derived.Test.YtmfpcondongbjaaGreatA07
import Derived.Test.YtmfpcondongbjaaGreatA16
import Derived.Test.YtmfpcondongbjaaGreatA13
set_option linter.unusedVariables false
set_option linter.unusedSimpArgs false
namespace Go.Ev
attribute [local go_sem] zAm evAppend evBin evBuild AV.cells splice List.length_append List.map_append
section
attribute [local go_sem] tySzE List.head?_drop Nat.mul_one zAO zAT zAN zAP zAQ zAZ
open Go.Proofs Go.RowKit Go.IntWalk
set_option maxRecDepth 100000
set_option maxHeartbeats 8000000
theorem f112:∀(N:Nat) (r:Re),r.wt≤N→r.wt≤1000000→∀ H,call Tryz.prog pol1 173 [reAV r] H=some (I r.size,H)
 | 0,r,h,_,_=>by have:=r.wt_pos;omega
 | N+1,.mk op set kids mn mx md n neg,h,hN,H=>by
   have hkl:=Re.wtL_len kids
   have hwt:1+set.length+Re.wtL kids=(Re.mk op set kids mn mx md n neg).wt:=by simp[Re.wt]
   have ih:=fun k (hk:k∈kids)=>f112 N k (by have:=Re.wtL_mem hk;omega) (by have:=Re.wtL_mem hk;omega)
   have hsz:=Re.sizeL_wt kids
   rw[show reAV (.mk op set kids mn mx md n neg)=.agg (nodeL op set kids mn mx md n neg) from congrArg AV.agg zCm]
   refine zAS Tryz.func173 rfl rfl rfl rfl rfl rfl (fun _=>rfl) (by simp[AV.plain,AV.plainL,zAG,zAL]) rfl ?_ H
   simp +contextual (disch:=omega) only[Tryz.f173,dd173,go_sem,simprocAttr,mu173,↓zAD,↓zAC,↓zAB,↓zAA]
   refine zAe (M:=(mskOf (pol1.mask 173) (pol1.gc 173) (pol1.acts 173) 0 3)) rfl kids.length (fun i=>(⟨21,[(4,I i),(3,I ((1+Re.sizeL (kids.take i):Nat):Int)),(1,.rf 0 1 0 0)],[.row 8 [.agg (nodeL op set kids mn mx md n neg)] 0]⟩:St)) (fun _=>True) ?_ ?_ trivial _ (by first|rfl|(refine zAX (n:=1) (m:=⟨some [4,3,1],some 1,[]⟩) rfl rfl ?_ ?_ ?_<;>first|rfl|(simp[keepT,AV.underL,AV.under,MB.under,zAF,zAJ,zAK,zAE,zAG,zAH,zAI,-List.map_take,-List.map_replicate,-List.map_set,Re.sizeL,zAL];done)|(simp[keepT,AV.underL,AV.under,MB.under,zAF,zAJ,zAK,zAE,zAG,zAH,zAI,-List.map_take,-List.map_replicate,-List.map_set,Re.sizeL,zAL];omega)))
   ·intro i hi _
    obtain⟨k,hk⟩:∃ k,kids[i]?=some k:=⟨_,List.getElem?_eq_getElem hi⟩
    have hkm:=List.mem_of_getElem? hk
    have ihk:=ih k hkm
    have hle:=Re.sizeL_take hk
    have hle2:=Re.sizeL_le (l:=kids) (i:=i+1)
    have hadd:((1+Re.sizeL (kids.take i):Nat):Int)+(k.size:Int)=((1+Re.sizeL (kids.take (i+1)):Nat):Int):=by omega
    have hl8:=zAM k
    have ht8:=zAU k
    simp +contextual (disch:=omega) only[Tryz.f173,dd173,go_sem,simprocAttr,mu173,↓zAD,↓zAC,↓zAB,↓zAA,hk,ihk,hadd,hl8,ht8]
    exact(by first|rfl|(refine zAX (n:=1) (m:=⟨some [4,3,1],some 1,[]⟩) rfl rfl ?_ ?_ ?_<;>first|rfl|(simp[keepT,AV.underL,AV.under,MB.under,zAF,zAJ,zAK,zAE,zAG,zAH,zAI,-List.map_take,-List.map_replicate,-List.map_set,zAL];done)|(simp[keepT,AV.underL,AV.under,MB.under,zAF,zAJ,zAK,zAE,zAG,zAH,zAI,-List.map_take,-List.map_replicate,-List.map_set,zAL];omega)))
   ·intro _
    rw[List.take_length]
    simp +contextual (disch:=omega) only[Tryz.f173,dd173,go_sem,simprocAttr,mu173,↓zAD,↓zAC,↓zAB,↓zAA]
    exact fzEq rfl (by simp[Re.size])
theorem f113:∀(N:Nat) (r:Re),r.wt≤N→r.wt≤1000000→∀ H,call Tryz.prog pol1 174 [reAV r] H=some (I r.depth,H)
 | 0,r,h,_,_=>by have:=r.wt_pos;omega
 | N+1,.mk op set kids mn mx md n neg,h,hN,H=>by
   have hkl:=Re.wtL_len kids
   have hwt:1+set.length+Re.wtL kids=(Re.mk op set kids mn mx md n neg).wt:=by simp[Re.wt]
   have ih:=fun k (hk:k∈kids)=>f113 N k (by have:=Re.wtL_mem hk;omega) (by have:=Re.wtL_mem hk;omega)
   have hsz:=Re.sizeL_wt kids
   have hdz:=Re.depthL_size kids
   rw[show reAV (.mk op set kids mn mx md n neg)=.agg (nodeL op set kids mn mx md n neg) from congrArg AV.agg zCm]
   refine zAS Tryz.func174 rfl rfl rfl rfl rfl rfl (fun _=>rfl) (by simp[AV.plain,AV.plainL,zAG,zAL]) rfl ?_ H
   simp +contextual (disch:=omega) only[Tryz.f174,dd174,go_sem,simprocAttr,mu174,↓zAD,↓zAC,↓zAB,↓zAA]
   refine zAe (M:=(mskOf (pol1.mask 174) (pol1.gc 174) (pol1.acts 174) 0 3)) rfl kids.length (fun i=>(⟨22,[(4,I i),(3,I ((Re.depthL (kids.take i):Nat):Int)),(1,.rf 0 1 0 0)],[.row 8 [.agg (nodeL op set kids mn mx md n neg)] 0]⟩:St)) (fun _=>True) ?_ ?_ trivial _ (by first|rfl|(refine zAX (n:=1) (m:=⟨some [4,3,1],some 1,[]⟩) rfl rfl ?_ ?_ ?_<;>first|rfl|(simp[keepT,AV.underL,AV.under,MB.under,zAF,zAJ,zAK,zAE,zAG,zAH,zAI,-List.map_take,-List.map_replicate,-List.map_set,Re.depthL,zAL];done)|(simp[keepT,AV.underL,AV.under,MB.under,zAF,zAJ,zAK,zAE,zAG,zAH,zAI,-List.map_take,-List.map_replicate,-List.map_set,Re.depthL,zAL];omega)))
   ·intro i hi _
    obtain⟨k,hk⟩:∃ k,kids[i]?=some k:=⟨_,List.getElem?_eq_getElem hi⟩
    have hkm:=List.mem_of_getElem? hk
    have ihk:=ih k hkm
    have hle:=Re.depthL_take hk
    have hadd:(if(k.depth:Int) > (Re.depthL (kids.take i):Nat) then(k.depth:Int) else(Re.depthL (kids.take i):Nat))=((Re.depthL (kids.take (i+1)):Nat):Int):=by rw[hle];split<;>omega
    have hl8:=zAM k
    have ht8:=zAU k
    simp +contextual (disch:=omega) only[Tryz.f174,dd174,go_sem,simprocAttr,mu174,↓zAD,↓zAC,↓zAB,↓zAA,hk,ihk,evMax,hadd,hl8,ht8]
    exact(by first|rfl|(refine zAX (n:=1) (m:=⟨some [4,3,1],some 1,[]⟩) rfl rfl ?_ ?_ ?_<;>first|rfl|(simp[keepT,AV.underL,AV.under,MB.under,zAF,zAJ,zAK,zAE,zAG,zAH,zAI,-List.map_take,-List.map_replicate,-List.map_set,zAL];done)|(simp[keepT,AV.underL,AV.under,MB.under,zAF,zAJ,zAK,zAE,zAG,zAH,zAI,-List.map_take,-List.map_replicate,-List.map_set,zAL];omega)))
   ·intro _
    rw[List.take_length]
    simp +contextual (disch:=omega) only[Tryz.f174,dd174,go_sem,simprocAttr,mu174,↓zAD,↓zAC,↓zAB,↓zAA]
    exact fzEq rfl (by simp[Re.depth];omega)
end
section
attribute [local go_sem] tySzE List.head?_drop Nat.mul_one zAO zAT zAN zAP zAQ zAZ
open Go.Proofs Go.RowKit Go.IntWalk
set_option maxRecDepth 100000
set_option maxHeartbeats 8000000
theorem zDo:∀ {l:List Re} {k:Re},k∈l→nullG k=false→nullAll l=false
 | x::l,k,h,hk=>by
   rcases List.mem_cons.1 h with e|e
   ·rw[← e];simp[nullAll,hk]
   ·simp[nullAll,zDo e hk]
theorem zD3:∀ {l:List Re},(∀(i:Nat) (k:Re),i < l.length→l[i]?=some k→nullG k=true)→nullAll l=true
 | [],_=>by simp[nullAll]
 | x::l,h=>by
   simp only[nullAll,Bool.and_eq_true]
   exact⟨h 0 x (by simp) rfl,zD3 fun i k hi hk=>h (i+1) k (by simp;omega) (by simpa using hk)⟩
theorem zDZ:∀ {l:List Re} {k:Re},k∈l→nullG k=true→nullAny l=true
 | x::l,k,h,hk=>by
   rcases List.mem_cons.1 h with e|e
   ·rw[← e];simp[nullAny,hk]
   ·simp[nullAny,zDZ e hk]
theorem zDn:∀ {l:List Re},(∀(i:Nat) (k:Re),i < l.length→l[i]?=some k→nullG k=false)→nullAny l=false
 | [],_=>by simp[nullAny]
 | x::l,h=>by
   simp only[nullAny,Bool.or_eq_false_iff]
   exact⟨h 0 x (by simp) rfl,zDn fun i k hi hk=>h (i+1) k (by simp;omega) (by simpa using hk)⟩
theorem f20:∀(N:Nat) (r:Re),r.wt≤N→r.wt≤1000000→∀ H,call Tryz.prog pol1 96 [reAV r] H=some (.bool (nullG r),H)
 | 0,r,h,_,_=>by have:=r.wt_pos;omega
 | N+1,.mk op set kids mn mx md n neg,h,hN,H=>by
   have hkl:=Re.wtL_len kids
   have hwt:1+set.length+Re.wtL kids=(Re.mk op set kids mn mx md n neg).wt:=by simp[Re.wt]
   have ih:=fun k (hk:k∈kids)=>f20 N k (by have:=Re.wtL_mem hk;omega) (by have:=Re.wtL_mem hk;omega)
   rw[show reAV (.mk op set kids mn mx md n neg)=.agg (nodeL op set kids mn mx md n neg) from congrArg AV.agg zCm]
   refine zAS Tryz.func96 rfl rfl rfl rfl rfl rfl (fun _=>rfl) (by simp[AV.plain,AV.plainL,zAG,zAL]) rfl ?_ H
   rw[nullG]
   by_cases h1:op=1
   ·subst h1
    rw[if_pos rfl]
    simp +contextual (disch:=omega) only[Tryz.f96,dd96,go_sem,simprocAttr,mu96,↓zAD,↓zAC,↓zAB,↓zAA]
    exact fzEq rfl rfl
   rw[if_neg h1]
   by_cases h2:op=2
   ·subst h2
    rw[if_pos rfl]
    simp +contextual (disch:=omega) only[Tryz.f96,dd96,go_sem,simprocAttr,mu96,↓zAD,↓zAC,↓zAB,↓zAA]
    refine zAe (M:=(mskOf (pol1.mask 96) (pol1.gc 96) (pol1.acts 96) 0 6)) rfl kids.length (fun i=>(⟨73,[(3,I i),(1,.rf 0 1 0 0)],[.row 8 [.agg (nodeL 2 set kids mn mx md n neg)] 0]⟩:St)) (fun i=>∀ j k,j < i→kids[j]?=some k→nullG k=true) ?_ ?_ (fun j k h=>by omega) _ (by first|rfl|(refine zAX (n:=1) (m:=⟨some [3,1],some 1,[]⟩) rfl rfl ?_ ?_ ?_<;>first|rfl|(simp[keepT,AV.underL,AV.under,MB.under,zAF,zAJ,zAK,zAE,zAG,zAH,zAI,-List.map_take,-List.map_replicate,-List.map_set,zAL];done)|(simp[keepT,AV.underL,AV.under,MB.under,zAF,zAJ,zAK,zAE,zAG,zAH,zAI,-List.map_take,-List.map_replicate,-List.map_set,zAL];omega)))
    ·intro i hi hg
     obtain⟨k,hk⟩:∃ k,kids[i]?=some k:=⟨_,List.getElem?_eq_getElem hi⟩
     have ihk:=ih k (List.mem_of_getElem? hk)
     have hl8:=zAM k
     have ht8:=zAU k
     cases hn:nullG k with
     | false=>
       rw[hn]at ihk
       rw[zDo (List.mem_of_getElem? hk) hn]
       simp +contextual (disch:=omega) only[Tryz.f96,dd96,go_sem,simprocAttr,mu96,↓zAD,↓zAC,↓zAB,↓zAA,hk,ihk,hl8,ht8]
       exact fzEq rfl rfl
     | true=>
       rw[hn]at ihk
       simp +contextual (disch:=omega) only[Tryz.f96,dd96,go_sem,simprocAttr,mu96,↓zAD,↓zAC,↓zAB,↓zAA,hk,ihk,hl8,ht8]
       refine⟨fun j q hj hq=>?_,(by first|rfl|(refine zAX (n:=1) (m:=⟨some [3,1],some 1,[]⟩) rfl rfl ?_ ?_ ?_<;>first|rfl|(simp[keepT,AV.underL,AV.under,MB.under,zAF,zAJ,zAK,zAE,zAG,zAH,zAI,-List.map_take,-List.map_replicate,-List.map_set,zAL];done)|(simp[keepT,AV.underL,AV.under,MB.under,zAF,zAJ,zAK,zAE,zAG,zAH,zAI,-List.map_take,-List.map_replicate,-List.map_set,zAL];omega)))⟩
       rcases Nat.lt_or_ge j i with h|h
       ·exact hg j q h hq
       ·obtain rfl:j=i:=by omega
        rw[hk]at hq;obtain rfl:=Option.some.inj hq
        exact hn
    ·intro hg
     rw[zD3 fun j k hj hk=>hg j k hj hk]
     simp +contextual (disch:=omega) only[Tryz.f96,dd96,go_sem,simprocAttr,mu96,↓zAD,↓zAC,↓zAB,↓zAA]
     exact fzEq rfl rfl
   rw[if_neg h2]
   by_cases h3:op=3∨op=10
   ·rw[if_pos h3]
    rcases h3 with rfl|rfl
    all_goals (
     simp +contextual (disch:=omega) only[Tryz.f96,dd96,go_sem,simprocAttr,mu96,↓zAD,↓zAC,↓zAB,↓zAA]
     refine zAe (M:=(mskOf (pol1.mask 96) (pol1.gc 96) (pol1.acts 96) 0 14)) rfl kids.length (fun i=>(⟨73,[(4,I i),(1,.rf 0 1 0 0)],[.row 8 [.agg (nodeL _ set kids mn mx md n neg)] 0]⟩:St)) (fun i=>∀ j k,j < i→kids[j]?=some k→nullG k=false) ?_ ?_ (fun j k h=>by omega) _ (by first|rfl|(refine zAX (n:=1) (m:=⟨some [4,1],some 1,[]⟩) rfl rfl ?_ ?_ ?_<;>first|rfl|(simp[keepT,AV.underL,AV.under,MB.under,zAF,zAJ,zAK,zAE,zAG,zAH,zAI,-List.map_take,-List.map_replicate,-List.map_set,zAL];done)|(simp[keepT,AV.underL,AV.under,MB.under,zAF,zAJ,zAK,zAE,zAG,zAH,zAI,-List.map_take,-List.map_replicate,-List.map_set,zAL];omega)))
     ·intro i hi hg
      obtain⟨k,hk⟩:∃ k,kids[i]?=some k:=⟨_,List.getElem?_eq_getElem hi⟩
      have ihk:=ih k (List.mem_of_getElem? hk)
      have hl8:=zAM k
      have ht8:=zAU k
      cases hn:nullG k with
      | true=>
        rw[hn]at ihk
        rw[zDZ (List.mem_of_getElem? hk) hn]
        simp +contextual (disch:=omega) only[Tryz.f96,dd96,go_sem,simprocAttr,mu96,↓zAD,↓zAC,↓zAB,↓zAA,hk,ihk,hl8,ht8]
        exact fzEq rfl rfl
      | false=>
        rw[hn]at ihk
        simp +contextual (disch:=omega) only[Tryz.f96,dd96,go_sem,simprocAttr,mu96,↓zAD,↓zAC,↓zAB,↓zAA,hk,ihk,hl8,ht8]
        refine⟨fun j q hj hq=>?_,(by first|rfl|(refine zAX (n:=1) (m:=⟨some [4,1],some 1,[]⟩) rfl rfl ?_ ?_ ?_<;>first|rfl|(simp[keepT,AV.underL,AV.under,MB.under,zAF,zAJ,zAK,zAE,zAG,zAH,zAI,-List.map_take,-List.map_replicate,-List.map_set,zAL];done)|(simp[keepT,AV.underL,AV.under,MB.under,zAF,zAJ,zAK,zAE,zAG,zAH,zAI,-List.map_take,-List.map_replicate,-List.map_set,zAL];omega)))⟩
        rcases Nat.lt_or_ge j i with h|h
        ·exact hg j q h hq
        ·obtain rfl:j=i:=by omega
         rw[hk]at hq;obtain rfl:=Option.some.inj hq
         exact hn
     ·intro hg
      rw[zDn fun j k hj hk=>hg j k hj hk]
      simp +contextual (disch:=omega) only[Tryz.f96,dd96,go_sem,simprocAttr,mu96,↓zAD,↓zAC,↓zAB,↓zAA]
      exact fzEq rfl rfl)
   rw[if_neg h3]
   by_cases h4:op=4
   ·subst h4
    rw[if_pos rfl]
    by_cases hm:mn≤0
    ·simp +contextual (disch:=omega) only[Tryz.f96,dd96,go_sem,simprocAttr,mu96,↓zAD,↓zAC,↓zAB,↓zAA]
     exact fzEq rfl (by simp[hm])
    ·cases kids with
     | nil=>
       simp +contextual (disch:=omega) only[Tryz.f96,dd96,go_sem,simprocAttr,mu96,↓zAD,↓zAC,↓zAB,↓zAA]
       exact fzEq rfl (by simp[hm,nullHd])
     | cons k ks=>
       have ihk:=ih k (List.mem_cons_self ..)
       have hl8:=zAM k
       have ht8:=zAU k
       simp only[List.length_cons]at hkl
       simp +contextual (disch:=omega) only[Tryz.f96,dd96,go_sem,simprocAttr,mu96,↓zAD,↓zAC,↓zAB,↓zAA,ihk,hl8,ht8]
       exact fzEq rfl (by simp[hm,nullHd])
   rw[if_neg h4]
   by_cases h5:op=5∨op=9
   ·rw[if_pos h5]
    rcases h5 with rfl|rfl
    all_goals (
     cases kids with
     | nil=>
       simp +contextual (disch:=omega) only[Tryz.f96,dd96,go_sem,simprocAttr,mu96,↓zAD,↓zAC,↓zAB,↓zAA]
       exact fzEq rfl (by simp[nullHd])
     | cons k ks=>
       have ihk:=ih k (List.mem_cons_self ..)
       have hl8:=zAM k
       have ht8:=zAU k
       simp only[List.length_cons]at hkl
       simp +contextual (disch:=omega) only[Tryz.f96,dd96,go_sem,simprocAttr,mu96,↓zAD,↓zAC,↓zAB,↓zAA,ihk,hl8,ht8]
       exact fzEq rfl (by simp[nullHd]))
   rw[if_neg h5]
   simp +contextual (disch:=omega) only[Tryz.f96,dd96,go_sem,simprocAttr,mu96,↓zAD,↓zAC,↓zAB,↓zAA]
   exact fzEq rfl rfl
end
section
attribute [local go_sem] tySzE List.head?_drop Nat.mul_one zAO zAT zAN zAP zAQ zAZ
open Go.Proofs Go.RowKit Go.IntWalk
set_option maxRecDepth 100000
set_option maxHeartbeats 8000000
theorem zAy {caps top op:Int} {set:List (Int×Int)} {kids:List Re} {mn mx md n:Int} {neg:Bool} (h:wholeG caps top (.mk op set kids mn mx md n neg)=true) :
  (∀ k∈kids,wholeG caps top k=true)∧kidsG op kids.length=true∧(op=4→repG mn mx md=true)∧(op=5∨op=6∨op=10→1≤n∧n≤caps)∧0≤op∧op≤11:=by
 rw[wholeG,Bool.and_eq_true,zFF]at h
 obtain⟨h1,h2⟩:=h
 simp only[formedG,Bool.and_eq_true,decide_eq_true_eq]at h1
 obtain⟨⟨⟨⟨⟨⟨a1,a2⟩,a3⟩,a4⟩,a5⟩,a6⟩,a7⟩:=h1
 refine⟨h2,a3,fun e=>?_,fun e=>?_,a1,a2⟩
 ·rw[if_pos e]at a5;exact a5
 ·rw[if_pos e]at a6;simpa using a6
theorem f133 (b0:MB) (caps top:Int):∀(N:Nat) (r:Re),r.wt≤N→r.wt≤1000000→wholeG caps top r=true→call Tryz.prog pol1 114 [.pt (reC r),.rf 1 1 0 0] [b0,.row 1 [.clo 114 [.rf 1 1 0 0]] 0]=some (.bool (nullG r),[b0,.row 1 [.clo 114 [.rf 1 1 0 0]] 0])
 | 0,r,h,_,_=>by have:=r.wt_pos;omega
 | N+1,.mk op set kids mn mx md n neg,h,hN,hw=>by
   have hkl:=Re.wtL_len kids
   have hwt:1+set.length+Re.wtL kids=(Re.mk op set kids mn mx md n neg).wt:=by simp[Re.wt]
   obtain⟨hwk,hkd,hrp,_,ho1,ho2⟩:=zAy hw
   have ih:=fun k (hk:k∈kids)=>f133 b0 caps top N k (by have:=Re.wtL_mem hk;omega) (by have:=Re.wtL_mem hk;omega) (hwk k hk)
   rw[show (.pt (reC (.mk op set kids mn mx md n neg)):AV)=.pt (nodeL op set kids mn mx md n neg) from congrArg AV.pt zCm]
   have fr:frzArgs pol1 114 0 [.pt (nodeL op set kids mn mx md n neg),.rf 1 1 0 0] [b0,.row 1 [.clo 114 [.rf 1 1 0 0]] 0]=some ([.pt (nodeL op set kids mn mx md n neg),.rf 1 1 0 0],[b0,.row 1 [.clo 114 [.rf 1 1 0 0]] 0]):=
    zAR _ _ _ (by simp[mixOk,show pol1.byref 114 1=true from rfl,AV.plain,AV.plainL,zAG,zAL])
   have rt:∀ x:Bool,retPol pol1 114 [b0,.row 1 [.clo 114 [.rf 1 1 0 0]] 0] (.bool x) [b0,.row 1 [.clo 114 [.rf 1 1 0 0]] 0]=some (.bool x,[b0,.row 1 [.clo 114 [.rf 1 1 0 0]] 0]):=fun x=>
    zA1 rfl rfl rfl (by simp[keptOk,MB.beq_refl]) rfl
   refine zAV (pol:=pol1) Tryz.func114 rfl rfl rfl rfl fr ?_
   have any:∀ r':Bool,r' = nullAny kids→∀ i,i < kids.length→∀ k,kids[i]?=some k→(∀ j q,j < i→kids[j]?=some q→nullG q=false)→nullG k=true→r' = true:=fun r' hr i _ k hk _ hn=>by rw[hr,zDZ (List.mem_of_getElem? hk) hn]
   have hop:op=0∨op=1∨op=2∨op=3∨op=4∨op=5∨op=6∨op=7∨op=8∨op=9∨op=10∨op=11:=by omega
   have hone:op=4∨op=5∨op=9→nullHd kids=nullAny kids:=fun e=>by
    have:kids.length=1:=by rcases e with rfl|rfl|rfl<;>simpa [kidsG] using hkd
    match kids,this with
    | [k],_=>simp[nullHd,nullAny]
   by_cases hloop:op=3∨op=10∨op=5∨op=9∨(op=4∧mn≠0)
   ·have hres:nullG (.mk op set kids mn mx md n neg)=nullAny kids:=by
     rw[nullG]
     rcases hloop with rfl|rfl|rfl|rfl|⟨rfl,hmn⟩
     ·simp
     ·simp
     ·simp[hone (.inr (.inl rfl))]
     ·simp[hone (.inr (.inr rfl))]
     ·have hr:=hrp rfl
      simp only[repG,Bool.and_eq_true,decide_eq_true_eq]at hr
      have:¬ mn≤0:=by omega
      simp[hone (.inl rfl),this]
    rw[hres]
    clear hres hone any
    rcases hloop with rfl|rfl|rfl|rfl|⟨rfl,hmn⟩
    all_goals (
     simp +contextual (disch:=omega) only[Tryz.f114,dd114,go_sem,simprocAttr,zHo,↓zAD,↓zAC,↓zAB,↓zAA]
     refine zAe (M:=(mskOf (pol1.mask 114) (pol1.gc 114) (pol1.acts 114) 0 25)) rfl kids.length (fun i=>(⟨65,[(53,I i),(52,I kids.length),(1,.rf 1 1 0 0),(0,.pt (nodeL _ set kids mn mx md n neg))],[b0,.row 1 [.clo 114 [.rf 1 1 0 0]] 0]⟩:St)) (fun i=>∀ j k,j < i→kids[j]?=some k→nullG k=false) ?_ ?_ (fun j k h=>by omega) _ rfl
     ·intro i hi hg
      obtain⟨k,hk⟩:∃ k,kids[i]?=some k:=⟨_,List.getElem?_eq_getElem hi⟩
      have ihk:=ih k (List.mem_of_getElem? hk)
      have hl8:=zAM k
      have ht8:=zAU k
      cases hn:nullG k with
      | true=>
        rw[hn]at ihk
        rw[zDZ (List.mem_of_getElem? hk) hn]
        simp +contextual (disch:=omega) only[Tryz.f114,dd114,go_sem,simprocAttr,zHo,↓zAD,↓zAC,↓zAB,↓zAA,hk,ihk,hl8,ht8,rt]
        repeat' (first|intro _|apply And.intro|(unfold dOk;kernel_rfl)|exact St.beq_refl _|(show altO _ _ _ _=true;kernel_rfl)|(show (_ || _)=true;kernel_rfl)|(show (_ && _)=true;kernel_rfl))
      | false=>
        rw[hn]at ihk
        simp +contextual (disch:=omega) only[Tryz.f114,dd114,go_sem,simprocAttr,zHo,↓zAD,↓zAC,↓zAB,↓zAA,hk,ihk,hl8,ht8]
        repeat' (first|intro _|apply And.intro|(unfold dOk;kernel_rfl)|exact St.beq_refl _|(show altO _ _ _ _=true;kernel_rfl)|(show (_ || _)=true;kernel_rfl)|(show (_ && _)=true;kernel_rfl))
        ·rename_i j q hj hq
         rcases Nat.lt_or_ge j i with h|h
         ·exact hg j q h hq
         ·obtain rfl:j=i:=by omega
          rw[hk]at hq;obtain rfl:=Option.some.inj hq
          exact hn
        ·rfl
     ·intro hg
      rw[zDn fun j k hj hk=>hg j k hj hk]
      simp +contextual (disch:=omega) only[Tryz.f114,dd114,go_sem,simprocAttr,zHo,↓zAD,↓zAC,↓zAB,↓zAA,rt])
   ·clear any hone
    have hop:op=2∨op=1∨(op=4∧mn=0)∨op=0∨op=6∨op=7∨op=8∨op=11:=by omega
    clear hloop
    rcases hop with rfl|hop
    ·rw[nullG,if_neg (by omega),if_pos rfl]
     simp +contextual (disch:=omega) only[Tryz.f114,dd114,go_sem,simprocAttr,zHo,↓zAD,↓zAC,↓zAB,↓zAA]
     refine zAe (M:=(mskOf (pol1.mask 114) (pol1.gc 114) (pol1.acts 114) 0 11)) rfl kids.length (fun i=>(⟨65,[(23,I i),(22,I kids.length),(1,.rf 1 1 0 0),(0,.pt (nodeL _ set kids mn mx md n neg))],[b0,.row 1 [.clo 114 [.rf 1 1 0 0]] 0]⟩:St)) (fun i=>∀ j k,j < i→kids[j]?=some k→nullG k=true) ?_ ?_ (fun j k h=>by omega) _ rfl
     ·intro i hi hg
      obtain⟨k,hk⟩:∃ k,kids[i]?=some k:=⟨_,List.getElem?_eq_getElem hi⟩
      have ihk:=ih k (List.mem_of_getElem? hk)
      have hl8:=zAM k
      have ht8:=zAU k
      cases hn:nullG k with
      | false=>
        rw[hn]at ihk
        rw[zDo (List.mem_of_getElem? hk) hn]
        simp +contextual (disch:=omega) only[Tryz.f114,dd114,go_sem,simprocAttr,zHo,↓zAD,↓zAC,↓zAB,↓zAA,hk,ihk,hl8,ht8,rt]
        repeat' (first|intro _|apply And.intro|(unfold dOk;kernel_rfl)|exact St.beq_refl _|(show altO _ _ _ _=true;kernel_rfl)|(show (_ || _)=true;kernel_rfl)|(show (_ && _)=true;kernel_rfl))
      | true=>
        rw[hn]at ihk
        simp +contextual (disch:=omega) only[Tryz.f114,dd114,go_sem,simprocAttr,zHo,↓zAD,↓zAC,↓zAB,↓zAA,hk,ihk,hl8,ht8]
        repeat' (first|intro _|apply And.intro|(unfold dOk;kernel_rfl)|exact St.beq_refl _|(show altO _ _ _ _=true;kernel_rfl)|(show (_ || _)=true;kernel_rfl)|(show (_ && _)=true;kernel_rfl))
        ·rename_i j q hj hq
         rcases Nat.lt_or_ge j i with h|h
         ·exact hg j q h hq
         ·obtain rfl:j=i:=by omega
          rw[hk]at hq;obtain rfl:=Option.some.inj hq
          exact hn
        ·rfl
     ·intro hg
      rw[zD3 fun j k hj hk=>hg j k hj hk]
      simp +contextual (disch:=omega) only[Tryz.f114,dd114,go_sem,simprocAttr,zHo,↓zAD,↓zAC,↓zAB,↓zAA,rt]
    ·have hres:nullG (.mk op set kids mn mx md n neg)=(if op=1 then false else true):=by
      rw[nullG]
      rcases hop with rfl|⟨rfl,rfl⟩|rfl|rfl|rfl|rfl|rfl<;>simp
     rw[hres]
     rcases hop with rfl|⟨rfl,rfl⟩|rfl|rfl|rfl|rfl|rfl
     all_goals (
      first|rw[if_pos rfl]|rw[if_neg (by omega)]
      simp +contextual (disch:=omega) only[Tryz.f114,dd114,go_sem,simprocAttr,zHo,↓zAD,↓zAC,↓zAB,↓zAA,rt])
theorem f105z (r:Re) (hN:r.wt≤1000000) (caps top:Int) (hw:wholeG caps top r=true) (H:List MB):call Tryz.prog pol1 87 [reAV r] H=some (.bool (nullG r),H):=by
 refine zAS Tryz.func87 rfl rfl rfl rfl rfl rfl (fun _=>rfl) (by simp[AV.plain,AV.plainL,zAc]) rfl ?_ H
 have hz:fz (.rf 0 1 0 0) [.row 8 [.agg (reC r)] 0]=some (.pt (reC r),[.row 8 [.agg (reC r)] 1]):=zGM (x:=.agg (reC r)) (k:=8) (z:=0) rfl rfl rfl (zAc r)
 have hc:=fun b0=>f133 b0 caps top r.wt r (Nat.le_refl _) hN hw
 have hl8:=zAM r
 have hal:=zAt r
 simp +contextual (disch:=omega) only[Tryz.f87,dd87,go_sem,simprocAttr,mu87,↓zAD,↓zAC,↓zAB,↓zAA,hl8,hz,hc,hal,lookD,look]
 exact fzEq rfl rfl
end
section
attribute [local go_sem] tySzE List.head?_drop Nat.mul_one zAO zAT zAN zAP zAQ zAZ
open Go.Proofs Go.RowKit Go.IntWalk
set_option maxRecDepth 100000
set_option maxHeartbeats 8000000
mutual
def lenG:Re→Nat
 | .mk op set kids mn mx md n neg=>
   if op=1∨op=11 then 1 else if op=3 then lenL kids+2 * (kids.length - 1) else if op=5 then lenL kids+2
   else if op=4 then(if mx = -1 then(mn.toNat+1) * lenL kids+2 else mx.toNat * lenL kids+(mx.toNat - mn.toNat)) else lenL kids
def lenL:List Re→Nat
 | []=>0
 | k::ks=>lenG k+lenL ks
end
theorem zEh:∀(a b:List Re),lenL (a++b)=lenL a+lenL b
 | [],b=>by simp[lenL]
 | k::ks,b=>by simp[lenL,zEh ks b,Nat.add_assoc]
theorem zE3 {l:List Re} {i:Nat} {k:Re} (h:l[i]?=some k):lenL (l.take (i+1))=lenL (l.take i)+lenG k:=by
 rw[List.take_add_one,h,zEh];simp[lenL]
theorem f50 (caps top:Int):∀(N:Nat) (r:Re),r.wt≤N→r.wt≤1000000→wholeG caps top r=true→∀ H,call Tryz.prog pol1 55 [.pt (reC r)] H=some (I ((min (lenG r) 8193:Nat):Int),H)
 | 0,r,h,_,_,_=>by have:=r.wt_pos;omega
 | N+1,.mk op set kids mn mx md n neg,h,hN,hw,H=>by
   have hkl:=Re.wtL_len kids
   have hwt:1+set.length+Re.wtL kids=(Re.mk op set kids mn mx md n neg).wt:=by simp[Re.wt]
   obtain⟨hwk,hkd,hrp,_,ho1,ho2⟩:=zAy hw
   have ih:=fun k (hk:k∈kids)=>f50 caps top N k (by have:=Re.wtL_mem hk;omega) (by have:=Re.wtL_mem hk;omega) (hwk k hk)
   rw[show (.pt (reC (.mk op set kids mn mx md n neg)):AV)=.pt (nodeL op set kids mn mx md n neg) from congrArg AV.pt zCm]
   refine zAS Tryz.func55 rfl rfl rfl rfl rfl rfl (fun _=>rfl) (by simp[AV.plain,AV.plainL,zAG,zAL]) rfl ?_ H
   simp +contextual (disch:=omega) only[Tryz.f55,dd55,go_sem,simprocAttr,mu55,↓zAD,↓zAC,↓zAB,↓zAA]
   refine zAe (M:=(mskOf (pol1.mask 55) (pol1.gc 55) (pol1.acts 55) 0 3)) rfl kids.length (fun i=>(⟨81,[(11,I i),(10,I kids.length),(3,I ((min (lenL (kids.take i)) 8193:Nat):Int)),(0,.pt (nodeL op set kids mn mx md n neg))],[]⟩:St)) (fun _=>True) ?_ ?_ trivial _ (by first|rfl|(simp[keepT,AV.underL,AV.under,MB.under,zAF,zAJ,zAK,zAE,zAG,zAH,zAI,-List.map_take,-List.map_replicate,-List.map_set,lenL,zAL];done))
   ·intro i hi _
    obtain⟨k,hk⟩:∃ k,kids[i]?=some k:=⟨_,List.getElem?_eq_getElem hi⟩
    have ihk:=ih k (List.mem_of_getElem? hk)
    have hl8:=zAM k
    have ht8:=zAU k
    have e1:=zE3 hk
    have hm:(if(8193:Int) < ((min (lenL (kids.take i)) 8193:Nat):Int)+((min (lenG k) 8193:Nat):Int) then(8193:Int) else((min (lenL (kids.take i)) 8193:Nat):Int)+((min (lenG k) 8193:Nat):Int))=((min (lenL (kids.take (i+1))) 8193:Nat):Int):=by
     rw[e1];split<;>omega
    simp +contextual (disch:=omega) only[Tryz.f55,dd55,go_sem,simprocAttr,mu55,↓zAD,↓zAC,↓zAB,↓zAA,hk,ihk,evMin,hm,hl8,ht8]
    exact(by first|rfl|(simp[keepT,AV.underL,AV.under,MB.under,zAF,zAJ,zAK,zAE,zAG,zAH,zAI,-List.map_take,-List.map_replicate,-List.map_set,zAL];done))
   ·intro _
    rw[List.take_length]
    have hop:op=0∨op=1∨op=2∨op=3∨op=4∨op=5∨op=6∨op=7∨op=8∨op=9∨op=10∨op=11:=by omega
    rw[lenG]
    generalize lenL kids=L at *
    by_cases h1:op=1∨op=11
    ·rw[if_pos h1]
     rcases h1 with rfl|rfl
     all_goals (
      simp +contextual (disch:=omega) only[Tryz.f55,dd55,go_sem,simprocAttr,mu55,↓zAD,↓zAC,↓zAB,↓zAA,evMin]
      exact fzEq rfl rfl)
    rw[if_neg h1]
    by_cases h3:op=3
    ·subst h3
     rw[if_pos rfl]
     have hk2:2≤kids.length:=by simpa [kidsG] using hkd
     have hw1:IntKind.i64.wrap (((kids.length:Nat):Int) - 1)=((kids.length - 1:Nat):Int):=zAB ⟨by omega,by omega⟩
     simp +contextual (disch:=omega) only[Tryz.f55,dd55,go_sem,simprocAttr,mu55,↓zAD,↓zAC,↓zAB,↓zAA,evMin]
     refine fzEq rfl (congrArg (AV.int .i64) ?_)
     split<;>omega
    rw[if_neg h3]
    by_cases h5:op=5
    ·subst h5
     rw[if_pos rfl]
     simp +contextual (disch:=omega) only[Tryz.f55,dd55,go_sem,simprocAttr,mu55,↓zAD,↓zAC,↓zAB,↓zAA,evMin]
     refine fzEq rfl (congrArg (AV.int .i64) ?_)
     split<;>omega
    rw[if_neg h5]
    by_cases h4:op=4
    ·subst h4
     rw[if_pos rfl]
     have hr:=hrp rfl
     simp only[repG,Bool.and_eq_true,Bool.or_eq_true,decide_eq_true_eq,beq_iff_eq]at hr
     obtain⟨mn',rfl⟩:∃ m:Nat,mn=m:=⟨mn.toNat,by omega⟩
     have hmn:mn'≤32:=by omega
     have hmul:∀ a:Nat,a≤33→a * (min L 8193)≤33 * 8193:=fun a ha=>Nat.mul_le_mul ha (by omega)
     have hml:=hmul mn' (by omega)
     have hc1:(mn':Int) * ((min L 8193:Nat):Int)=((mn' * min L 8193:Nat):Int):=by simp
     by_cases hmx:mx = -1
     ·subst hmx
      rw[if_pos rfl]
      simp +contextual (disch:=omega) only[Tryz.f55,dd55,go_sem,simprocAttr,mu55,↓zAD,↓zAC,↓zAB,↓zAA,evMin,hc1]
      refine fzEq rfl (congrArg (AV.int .i64) ?_)
      rw[Nat.succ_mul]
      by_cases hL:L≤8193
      ·rw[Nat.min_eq_left hL]at *
       split<;>omega
      ·have hle:L≤mn' * L+L:=Nat.le_add_left _ _
       rw[Nat.min_eq_right (by omega)]at *
       split<;>omega
     ·rw[if_neg hmx]
      obtain⟨mx',rfl⟩:∃ m:Nat,mx=m:=⟨mx.toNat,by omega⟩
      obtain⟨e,rfl⟩:∃ e,mx' = mn' + e:=⟨mx' - mn',by omega⟩
      have hsub:((mn' + e:Nat):Int) - (mn':Int)=(e:Int):=by omega
      have hme:e * (min L 8193+1)≤33 * 8194:=Nat.mul_le_mul (by omega) (by omega)
      have hc2:(e:Int) * ((min L 8193+1:Nat):Int)=((e * (min L 8193+1):Nat):Int):=by simp
      have hnn:mn' + e - mn' = e:=by omega
      simp +contextual (disch:=omega) only[Tryz.f55,dd55,go_sem,simprocAttr,mu55,↓zAD,↓zAC,↓zAB,↓zAA,evMin,hc1,hc2,hnn,hsub]
      refine⟨by unfold dOk;kernel_rfl,?_⟩
      refine fzEq rfl (congrArg (AV.int .i64) ?_)
      rw[Nat.mul_add,Nat.add_mul,Nat.mul_one]at *
      by_cases hL:L≤8193
      ·rw[Nat.min_eq_left hL]at *
       split<;>omega
      ·rw[Nat.min_eq_right (by omega)]at *
       have h1:mn' = 0∨L≤mn' * L:=by
        rcases Nat.eq_zero_or_pos mn' with h|h
        ·exact .inl h
        ·exact .inr (Nat.le_mul_of_pos_left _ h)
       have h2:e=0∨L≤e * L:=by
        rcases Nat.eq_zero_or_pos e with h|h
        ·exact .inl h
        ·exact .inr (Nat.le_mul_of_pos_left _ h)
       split<;>omega
    rw[if_neg h4]
    simp +contextual (disch:=omega) only[Tryz.f55,dd55,go_sem,simprocAttr,mu55,↓zAD,↓zAC,↓zAB,↓zAA,evMin]
    refine fzEq rfl (congrArg (AV.int .i64) ?_)
    split<;>omega
end
section
open Go.Proofs Go.RowKit Go.IntWalk
set_option maxRecDepth 100000
set_option maxHeartbeats 4000000
theorem all_int1 (l:List Int):((l.map I).all fun y=>decide (y.cells.length=1) && y.cells.all AV.ok)=true:=by
 simp only[List.all_eq_true,List.mem_map,Bool.and_eq_true,decide_eq_true_eq]
 rintro _ ⟨i,_,rfl⟩
 exact⟨rfl,fun x hx=>by
  simp only[AV.cells,List.mem_singleton]at hx
  rw[hx];rfl⟩
end
section
attribute [local go_sem] tySzE List.head?_drop Nat.mul_one zAO zAT zAN zAP zAQ zAZ
open Go.Proofs Go.RowKit Go.IntWalk
set_option maxRecDepth 100000
set_option maxHeartbeats 4000000
def capP (a b:Int):Int×Int:=if a = -1∨b = -1 then(-1,-1) else(a,b)
def capsN (regs:List Int) (n:Nat):List (Int×Int):=(List.range n).map fun k=>capP (regs.getD (2 * k) 0) (regs.getD (2 * k+1) 0)
theorem capsN_succ (regs:List Int) (n:Nat):capsN regs (n+1)=capsN regs n++[capP (regs.getD (2 * n) 0) (regs.getD (2 * n+1) 0)]:=by
 simp[capsN,List.range_succ]
theorem zGc (regs:List Int) (n:Nat):(capsN regs n).length=n:=by simp[capsN]
def matAV (s e:Int) (caps:List (Int×Int)):AV:=.agg [I s,I e,.sl false (caps.map spanAV)]
theorem zF6 (s e:Int) (caps:List (Int×Int)):AV.plain (matAV s e caps)=true:=by simp[matAV,AV.plain,AV.plainL,zAG]
end
section
attribute [local go_sem] tySzE List.head?_drop Nat.mul_one zAO zAT zAN zAP zAQ zAZ
open Go.Proofs Go.RowKit Go.IntWalk
set_option maxRecDepth 100000
set_option maxHeartbeats 4000000
abbrev wayPAV (pc pos idle found:Int) (regs:List Int):AV:=.agg [I pc,I pos,I idle,I found,.pt (regs.map I)]
abbrev prgPt (g:Prg):AV:=.pt [.sl false (g.ins.map insAV),I g.caps,.bool g.runes]
theorem f60 (g:Prg) (pc pos idle found start:Int) (regs:List Int) (n:Nat) (hc:g.caps=n) (hr:regs.length=18) (hn:n≤9) (H:List MB) :
  call Tryz.prog pol1 65 [prgPt g,.pt [I pc,I pos,I idle,I found,.pt (regs.map I)],I start] H=some (matAV start pos (capsN regs n),H):=by
 refine zAS Tryz.func65 rfl rfl rfl rfl rfl rfl (fun _=>rfl) (by simp[AV.plain,AV.plainL,zAE,zAH]) (zF6 _ _ _) ?_ H
 simp +contextual (disch:=omega) only[Tryz.f65,dd65,go_sem,simprocAttr,mu65,↓zAD,↓zAC,↓zAB,↓zAA,hc]
 refine zAe (M:=(mskOf (pol1.mask 65) (pol1.gc 65) (pol1.acts 65) 0 3)) rfl n (fun j=>(⟨60,[(20,I j),(19,I n),(7,.rf 1 1 0 0),(6,.rf 0 1 0 0),(1,.pt [I pc,I pos,I idle,I found,.pt (regs.map I)])],[.row 3 [.agg [I 0,I 0,.sl true []]] 0,
  .row 3 [.agg [I start,I pos,.ms 2 2 j 0 j]] 0,.row 2 ((capsN regs j).map spanAV) 0]⟩:St)) (fun _=>True) ?_ ?_ trivial _ (by first|rfl|(refine zA0 rfl (by rfl) (by rfl) (by rfl) ?_ ?_<;>simp[AV.underL,AV.under,MB.under,zAF,zAJ,zAE,zAG,zAH,zAI,-List.map_take]))
 ·intro j hj _
  obtain⟨a,ha⟩:∃ a,regs[2 * j]?=some a:=⟨_,List.getElem?_eq_getElem (by omega)⟩
  obtain⟨b,hb⟩:∃ b,regs[2 * j+1]?=some b:=⟨_,List.getElem?_eq_getElem (by omega)⟩
  have hl:=zGc regs j
  rw[capsN_succ,List.getD_eq_getElem?_getD,List.getD_eq_getElem?_getD,ha,hb]
  simp only[Option.getD_some]
  generalize capsN regs j=cs at *
  have htk:=zCt (f:=spanAV) hl
  have e2:(2:Int) * (j:Int)=((2 * j:Nat):Int):=by omega
  have e3:((2 * j:Nat):Int)+1=((2 * j+1:Nat):Int):=by omega
  simp +contextual (disch:=omega) only[Tryz.f65,dd65,go_sem,simprocAttr,mu65,↓zAD,↓zAC,↓zAB,↓zAA,ha,hb,hl,htk,e2,e3]
  repeat' (first|intro _|apply And.intro|(unfold dOk;kernel_rfl)|exact St.beq_refl _|(show altO _ _ _ _=true;kernel_rfl)|(show (_ || _)=true;kernel_rfl)|(show (_ && _)=true;kernel_rfl))
  all_goals exact(by first|rfl|(refine zAX (n:=3) (m:=⟨some [20,19,7,6,1],some 3,[]⟩) rfl rfl ?_ ?_ ?_<;>first|rfl|(simp[keepT,AV.underL,AV.under,MB.under,zAF,zAJ,zAK,zAE,zAG,zAH,zAI,-List.map_take,-List.map_replicate,-List.map_set,capP, *];done)|(simp[keepT,AV.underL,AV.under,MB.under,zAF,zAJ,zAK,zAE,zAG,zAH,zAI,-List.map_take,-List.map_replicate,-List.map_set,capP, *];omega)))
 ·intro _
  have hl:=zGc regs n
  generalize capsN regs n=cs at *
  simp +contextual (disch:=omega) only[Tryz.f65,dd65,go_sem,simprocAttr,mu65,↓zAD,↓zAC,↓zAB,↓zAA,hr,hl]
  simp only[fz,zH4,fzL,zD5]
  rw[zDJ (els:=cs.map spanAV) (k:=2) (z:=0) rfl (by simp[hl]) (zAG cs)]
  exact⟨_,rfl⟩
end
section
attribute [local go_sem] tySzE List.head?_drop Nat.mul_one zAO zAT zAN zAP zAQ zAZ
open Go.Proofs Go.RowKit Go.IntWalk
set_option maxRecDepth 100000
set_option maxHeartbeats 4000000
theorem zGF (n:Nat):∀(H:List MB),keptOk n H H=true
 | []=>rfl
 | x::H=>by simp[keptOk,MB.beq_refl,zGF n H]
theorem zG5 (n:Nat) (b:MB) (hb:MB.under n b=true):∀(H:List MB) (id:Nat),keptOk n H (H.set id b)=true
 | [],id=>by simp[keptOk]
 | x::H,0=>by
   have h2:=zGF n H
   simp[keptOk,hb,h2]
 | x::H,id+1=>by
   simp[keptOk,MB.beq_refl,zG5 n b hb H id]
theorem take_set_all {H:List MB} {id:Nat} {b:MB}:(H.set id b).take H.length=H.set id b:=List.take_of_length_le (by simp)
theorem f59 (g:Prg) (hg:g.ins.length≤1000000) (pc pos found most:Int) (idle fnd:Nat) (hi:idle≤1000000) (regs:List Int) (H:List MB) (id:Nat) (hrow:getRow H id=some (5,[wayPAV pc pos idle fnd regs],0)) :
  call Tryz.prog pol1 64 [prgPt g,.rf id 1 0 0,I found,I most] H =
   if g.ins.length≤idle∧(most = -1∨(fnd:Int)=found) then some (.bool true,H.set id (.row 5 [wayPAV pc pos ((idle+1:Nat):Int) fnd regs] 0))
   else if g.ins.length≤idle then some (.bool false,H.set id (.row 5 [wayPAV pc pos 1 found regs] 0))
   else some (.bool false,H.set id (.row 5 [wayPAV pc pos ((idle+1:Nat):Int) fnd regs] 0)):=by
 have hid:id < H.length:=(List.getElem?_eq_some_iff.1 (zBT hrow)).1
 have hk:∀(a b:Int) (x:Bool),retPol pol1 64 H (.bool x) (H.set id (.row 5 [wayPAV pc pos a b regs] 0))=some (.bool x,H.set id (.row 5 [wayPAV pc pos a b regs] 0)):=fun a b x=>
  zA1 rfl rfl rfl (zG5 _ _ (by simp[MB.under,AV.underL,AV.under,zAF,zAE]) H id) take_set_all
 have gs:∀ b:MB,(H.set id b)[id]?=some b:=fun b=>List.getElem?_set_self hid
 have hH:=zBT hrow
 have hi1:((idle:Int)+1)=((idle+1:Nat):Int):=rfl
 by_cases h1:g.ins.length≤idle
 ·by_cases h2:most = -1
  ·rw[if_pos ⟨h1,.inl h2⟩]
   subst h2
   refine zAV (pol:=pol1) (H1:=H) Tryz.func64 rfl rfl rfl rfl rfl ?_
   simp +contextual (disch:=omega) only[Tryz.f64,dd64,go_sem,simprocAttr,mu64,↓zAD,↓zAC,↓zAB,↓zAA,hH,gs,List.set_set,hk,hi1]
   repeat' (first|intro _|apply And.intro|(unfold dOk;kernel_rfl)|exact St.beq_refl _|(show altO _ _ _ _=true;kernel_rfl)|(show (_ || _)=true;kernel_rfl)|(show (_ && _)=true;kernel_rfl))
   all_goals omega
  ·by_cases h3:(fnd:Int)=found
   ·rw[if_pos ⟨h1,.inr h3⟩]
    subst h3
    refine zAV (pol:=pol1) (H1:=H) Tryz.func64 rfl rfl rfl rfl rfl ?_
    simp +contextual (disch:=omega) only[Tryz.f64,dd64,go_sem,simprocAttr,mu64,↓zAD,↓zAC,↓zAB,↓zAA,hH,gs,List.set_set,hk,hi1]
    repeat' (first|intro _|apply And.intro|(unfold dOk;kernel_rfl)|exact St.beq_refl _|(show altO _ _ _ _=true;kernel_rfl)|(show (_ || _)=true;kernel_rfl)|(show (_ && _)=true;kernel_rfl))
    all_goals omega
   ·rw[if_neg (by simp[h2,h3]),if_pos h1]
    refine zAV (pol:=pol1) (H1:=H) Tryz.func64 rfl rfl rfl rfl rfl ?_
    simp +contextual (disch:=omega) only[Tryz.f64,dd64,go_sem,simprocAttr,mu64,↓zAD,↓zAC,↓zAB,↓zAA,hH,gs,List.set_set,hk,hi1]
    repeat' (first|intro _|apply And.intro|(unfold dOk;kernel_rfl)|exact St.beq_refl _|(show altO _ _ _ _=true;kernel_rfl)|(show (_ || _)=true;kernel_rfl)|(show (_ && _)=true;kernel_rfl))
    all_goals omega
 ·rw[if_neg (by simp[h1]),if_neg h1]
  refine zAV (pol:=pol1) (H1:=H) Tryz.func64 rfl rfl rfl rfl rfl ?_
  simp +contextual (disch:=omega) only[Tryz.f64,dd64,go_sem,simprocAttr,mu64,↓zAD,↓zAC,↓zAB,↓zAA,hH,gs,List.set_set,hk,hi1]
  repeat' (first|intro _|apply And.intro|(unfold dOk;kernel_rfl)|exact St.beq_refl _|(show altO _ _ _ _=true;kernel_rfl)|(show (_ || _)=true;kernel_rfl)|(show (_ && _)=true;kernel_rfl))
  all_goals omega
end
structure WayI where
 w:Way
 idle:Nat
 found:Nat
def nextI (p:Prog1) (e:WayI) (idle found outN:Nat):Out→Option (List WayI)
 | .done=>none
 | .ways l=>some (l.map fun v=>if v.at_=e.w.at_ then⟨v,idle,found⟩ else⟨v,0,outN⟩)
def runI (p:Prog1) (n:Nat) (most:Int):Nat→List WayI→List Way→Option (List Way)
 | fuel,todo,out=>
   match todo with
   | []=>some out
   | e::rest=>
     if(out.length:Int)=most then some out
     else
      match fuel with
      | 0=>none
      | fuel+1=>
        if n≤e.idle∧(most = -1∨e.found=out.length) then none
        else
         match nextI p e (if n≤e.idle then 1 else e.idle+1) (if n≤e.idle then out.length else e.found) out.length (stepW p e.w) with
         | none=>runI p n most fuel rest (out++[e.w])
         | some l=>runI p n most fuel (l++rest) out
theorem zDj {p:Prog1} {most:Int}:∀(fuel:Nat) (todo out out':List Way),out.length=out'.length→runW p most fuel todo out=none→runW p most fuel todo out' = none
 | fuel,[],out,out',_,h=>by unfold runW at h;simp at h
 | 0,w::todo,out,out',hl,h=>by
   by_cases ho:(out.length:Int)=most
   ·unfold runW at h;simp only[ho,if_true]at h;cases h
   ·exact zC4 (by rw[← hl];exact ho)
 | fuel+1,w::todo,out,out',hl,h=>by
   by_cases ho:(out.length:Int)=most
   ·unfold runW at h;simp only[ho,if_true]at h;cases h
   ·rw[zBm ho]at h
    rw[zBm (by rw[← hl];exact ho)]
    cases hs:stepW p w with
    | done=>rw[hs]at h;exact zDj fuel todo _ _ (by simp[hl]) h
    | ways l=>rw[hs]at h;exact zDj fuel _ _ _ hl h
structure Ghost where
 e:WayI
 hs:List Way
def Chain (p:Prog1) (found outN:Nat):List Way→Prop
 | []=>True
 | a::l=>(∀ b∈l,∃ E d m,Reach p b a E d (m+1)∧found+d≤outN)∧Chain p found outN l
theorem Chain.mono {p:Prog1} {f n n':Nat} (h:n≤n'):∀ {l:List Way},Chain p f n l→Chain p f n' l
 | [],_=>trivial
 | a::l,⟨h1,h2⟩=>⟨fun b hb=>by
    obtain⟨E,d,m,r,hd⟩:=h1 b hb
    exact⟨E,d,m,r,by omega⟩,Chain.mono h h2⟩
structure Hist (p:Prog1) (n outN:Nat) (t:Ghost) (rest:List Ghost):Prop where
 idle:∀ g∈t::rest,g.hs.length=g.e.idle∧g.e.found≤outN
 at_:∀ g∈t::rest,g.e.w.pc < n∧∀ h∈g.hs,h.at_=g.e.w.at_∧h.pc < n
 chain:∀ g∈t::rest,Chain p g.e.found outN g.hs
 reach:∀ i g,(t::rest)[i]?=some g→∀ h∈g.hs,∃ E S d m,rest.map (·.e.w)=E++S∧i≤E.length∧Reach p h t.e.w E d (m+1)∧g.e.found+d≤outN
theorem nodup_lt:∀(n:Nat) (L:List Nat),(∀ x∈L,x < n)→L.Nodup→L.length≤n
 | 0,[],_,_=>Nat.le_refl _
 | 0,x::_,h,_=>absurd (h x (List.mem_cons_self ..)) (Nat.not_lt_zero _)
 | n+1,L,h,hd=>by
   have h1:(L.erase n).length≤n:=nodup_lt n (L.erase n) (fun x hx=>by
    have h2:=(List.Nodup.mem_erase_iff hd).1 hx
    have h3:=h x h2.2
    have h4:=h2.1
    omega) (hd.erase n)
   rw[List.length_erase]at h1
   split at h1<;>omega
theorem chain_dup {p:Prog1} {f N:Nat}:∀(L:List Way),Chain p f N L→¬ (L.map (·.pc)).Nodup→∃ a∈L,∃ b∈L,b.pc=a.pc∧∃ E d m,Reach p b a E d (m+1)∧f+d≤N
 | [],_,h=>absurd List.nodup_nil h
 | a::l,⟨h1,h2⟩,h=>by
   by_cases hb:∃ b∈l,b.pc=a.pc
   ·obtain⟨b,b1,b2⟩:=hb
    exact⟨a,List.mem_cons_self ..,b,List.mem_cons_of_mem _ b1,b2,h1 b b1⟩
   ·have:¬ (l.map (·.pc)).Nodup:=fun hn=>h (by
     rw[List.map_cons,List.nodup_cons]
     refine⟨fun hm=>?_,hn⟩
     obtain⟨b,b1,b2⟩:=List.mem_map.1 hm
     exact hb ⟨b,b1,b2⟩)
    obtain⟨x,x1,y,y1,r⟩:=chain_dup l h2 this
    exact⟨x,List.mem_cons_of_mem _ x1,y,List.mem_cons_of_mem _ y1,r⟩
theorem Hist.now {p:Prog1} {n outN:Nat} {t:Ghost} {rest:List Ghost} (h:Hist p n outN t rest):Chain p t.e.found outN (t.e.w::t.hs):=
 ⟨fun b hb=>by
   obtain⟨E,S,d,m,_,_,r,hd⟩:=h.reach 0 t rfl b hb
   exact⟨E,d,m,r,hd⟩,h.chain t (List.mem_cons_self ..)⟩
theorem Hist.circle {p:Prog1} {n:Nat} {t:Ghost} {rest:List Ghost} {out:List Way} (h:Hist p n out.length t rest) (hn:n≤t.e.idle) {most:Int} (hm:most = -1∨t.e.found=out.length) (ho:¬ (out.length:Int)=most) (fuel:Nat) :
  runW p most fuel (t.e.w::rest.map (·.e.w)) out=none:=by
 have h0:=h.now
 have hat:=h.at_ t (List.mem_cons_self ..)
 have hid:=h.idle t (List.mem_cons_self ..)
 have hlen:¬ ((t.e.w::t.hs).map (·.pc)).Nodup:=fun hd=>by
  have:=nodup_lt n _ (fun x hx=>by
   obtain⟨b,b1,rfl⟩:=List.mem_map.1 hx
   rcases List.mem_cons.1 b1 with e|e
   ·rw[e];exact hat.1
   ·exact(hat.2 b e).2) hd
  rw[List.length_map,List.length_cons,hid.1]at this
  omega
 obtain⟨a,a1,b,b1,hpc,E,d,m,r,hd⟩:=chain_dup _ h0 hlen
 have hlike:b.like a:=by
  refine⟨hpc,?_⟩
  have:∀ c∈t.e.w::t.hs,c.at_=t.e.w.at_:=fun c hc=>by
   rcases List.mem_cons.1 hc with e|e
   ·rw[e]
   ·exact(hat.2 c e).1
  rw[this b b1,this a a1]
 have hd0:most = -1∨d=0:=by
  rcases hm with h|h
  ·exact .inl h
  ·exact .inr (by omega)
 rcases List.mem_cons.1 a1 with e|e
 ·subst e
  refine Go.Ev.circle r hlike fuel t.e.w _ out hlike ?_
  rcases hd0 with h|h
  ·exact .inl h
  ·exact .inr ⟨h,ho⟩
 ·obtain⟨E2,S2,d2,m2,hr,_,r2,hd2⟩:=h.reach 0 t rfl a e
  have hlen0:(out.take (out.length - d2)).length+d2=out.length:=by simp;omega
  have hq:most = -1∨(d2=0∧¬ ((out.take (out.length - d2)).length:Int)=most):=by
   rcases hm with h|h
   ·exact .inl h
   ·refine .inr ⟨by omega,?_⟩
    have:d2=0:=by omega
    subst this
    simpa using ho
  obtain⟨out',o1,o2⟩:=r2.run S2 (out.take (out.length - d2)) hq fuel
  have hn:=Go.Ev.circle r hlike (m2+1+fuel) a S2 (out.take (out.length - d2)) hlike (by
   rcases hd0 with h|h
   ·exact .inl h
   ·rcases hq with g|g
    ·exact .inl g
    ·exact .inr ⟨h,g.2⟩)
  rw[hn]at o2
  rw[hr]
  exact zDj fuel _ out' out (by omega) o2.symm
theorem Hist.step {p:Prog1} {n outN:Nat} {t:Ghost} {rest:List Ghost} (h:Hist p n outN t rest) (hcl:∀ w l,w.pc < n→stepW p w=.ways l→∀ v∈l,v.pc < n)
  {hs:List Way} {found:Nat} (hh:(hs=t.e.w::t.hs∧found=t.e.found)∨(hs=[t.e.w]∧found=outN)) {v:Way} {l:List Way} (hs1:stepW p t.e.w=.ways (v::l)) :
  ∃ t' rest',Hist p n outN t' rest'∧t'.e::rest'.map (·.e)=(v::l).map (fun v=>if v.at_=t.e.w.at_ then⟨v,hs.length,found⟩ else⟨v,0,outN⟩)++rest.map (·.e):=by
 have hat:=h.at_ t (List.mem_cons_self ..)
 have hid:=h.idle t (List.mem_cons_self ..)
 have hf:found≤outN:=by rcases hh with ⟨_,h⟩|⟨_,h⟩<;>omega
 have hhs:∀ b∈hs,b.at_=t.e.w.at_∧b.pc < n:=fun b hb=>by
  rcases hh with ⟨e,_⟩|⟨e,_⟩
  ·rw[e]at hb
   rcases List.mem_cons.1 hb with e|e
   ·rw[e];exact⟨rfl,hat.1⟩
   ·exact hat.2 b e
  ·rw[e]at hb
   rw[List.mem_singleton.1 hb];exact⟨rfl,hat.1⟩
 have hch:Chain p found outN hs:=by
  rcases hh with ⟨e,e'⟩|⟨e,e'⟩
  ·rw[e,e'];exact h.now
  ·rw[e];exact⟨fun b hb=>by simp at hb,trivial⟩
 have hre:∀ b∈hs,∃ E S d m,rest.map (·.e.w)=E++S∧Reach p b v (l++E) d (m+1)∧found+d≤outN:=fun b hb=>by
  have self:∃ E S d m,rest.map (·.e.w)=E++S∧Reach p t.e.w v (l++E) d (m+1)∧found+d≤outN:=⟨[],_,0,0,rfl,.on (.refl _) hs1,by omega⟩
  rcases hh with ⟨e,e'⟩|⟨e,_⟩
  ·rw[e]at hb
   rcases List.mem_cons.1 hb with e|e
   ·rw[e];exact self
   ·obtain⟨E,S,d,m,r1,r2,r3,r4⟩:=h.reach 0 t rfl b e
    exact⟨E,S,d,m+1,r1,.on r3 hs1,by omega⟩
  ·rw[e]at hb
   rw[List.mem_singleton.1 hb];exact self
 let gh:Way→Ghost:=fun v=>if v.at_=t.e.w.at_ then⟨⟨v,hs.length,found⟩,hs⟩ else⟨⟨v,0,outN⟩,[]⟩
 have hgh:∀ v,(gh v).e.w=v:=fun v=>by simp only[gh];split<;>rfl
 have hghe:∀ v,(gh v).e=if v.at_=t.e.w.at_ then⟨v,hs.length,found⟩ else⟨v,0,outN⟩:=fun v=>by simp only[gh];split<;>rfl
 have hghs:∀ v,(gh v).hs=hs∧(gh v).e.found=found∨(gh v).hs=[]:=fun v=>by
  simp only[gh];split
  ·exact .inl ⟨rfl,rfl⟩
  ·exact .inr rfl
 have hpc:=hcl t.e.w (v::l) hat.1 hs1
 refine⟨gh v,l.map gh++rest,⟨fun g hg=>?_,fun g hg=>?_,fun g hg=>?_,fun i g hg b hb=>?_⟩,?_⟩
 ·have hcase:g∈(v::l).map gh∨g∈rest:=by simpa [or_assoc] using hg
  rcases hcase with hg|hg
  ·obtain⟨u,_,rfl⟩:=List.mem_map.1 hg
   simp only[gh];split
   ·exact⟨rfl,hf⟩
   ·exact⟨rfl,Nat.le_refl _⟩
  ·exact h.idle g (List.mem_cons_of_mem _ hg)
 ·have hcase:g∈(v::l).map gh∨g∈rest:=by simpa [or_assoc] using hg
  rcases hcase with hg|hg
  ·obtain⟨u,hu,rfl⟩:=List.mem_map.1 hg
   refine⟨by rw[hgh];exact hpc u hu,?_⟩
   simp only[gh];split
   ·rename_i e
    intro b hb
    rw[e];exact hhs b hb
   ·intro b hb;simp at hb
  ·exact h.at_ g (List.mem_cons_of_mem _ hg)
 ·have hcase:g∈(v::l).map gh∨g∈rest:=by simpa [or_assoc] using hg
  rcases hcase with hg|hg
  ·obtain⟨u,_,rfl⟩:=List.mem_map.1 hg
   simp only[gh];split
   ·exact hch
   ·exact trivial
  ·exact h.chain g (List.mem_cons_of_mem _ hg)
 ·have hmap:(l.map gh++rest).map (·.e.w)=l++rest.map (·.e.w):=by
   rw[List.map_append,List.map_map]
   congr 1
   rw[show ((fun x:Ghost=>x.e.w) ∘ gh)=id from funext hgh,List.map_id]
  rw[hmap,hgh]
  by_cases hi:i < (v::l).length
  ·have hg':((v::l).map gh)[i]?=some g:=by
    rw[show gh v::(l.map gh++rest)=(v::l).map gh++rest from rfl,List.getElem?_append_left (by simpa using hi)]at hg
    exact hg
   obtain⟨u,_,rfl⟩:=List.mem_map.1 (List.mem_of_getElem? hg')
   rcases hghs u with ⟨e1,e2⟩|e1
   ·rw[e1]at hb
    obtain⟨E,S,d,m,r1,r2,r3⟩:=hre b hb
    exact⟨l++E,S,d,m,by rw[r1,List.append_assoc],by simp at hi ⊢;omega,r2,by rw[e2];exact r3⟩
   ·rw[e1]at hb;simp at hb
  ·rw[show gh v::(l.map gh++rest)=(v::l).map gh++rest from rfl,List.getElem?_append_right (by simp at hi ⊢;omega)]at hg
   simp only[List.length_map]at hg
   obtain⟨E,S,d,m,r1,r2,r3,r4⟩:=h.reach (i - (v::l).length+1) g (by simpa using hg) b hb
   refine⟨l++E,S,d,m+1,by rw[r1,List.append_assoc],?_,.on r3 hs1,r4⟩
   simp at hi r2 ⊢;omega
 ·simp only[List.map_cons,List.map_append,List.map_map,List.cons_append,List.cons.injEq]
  exact⟨hghe v,by congr 1;exact List.map_congr_left fun u _=>hghe u⟩
theorem Hist.pop {p:Prog1} {n outN:Nat} {t e:Ghost} {rest:List Ghost} (h:Hist p n outN t (e::rest)) {k:Nat} (hs:(stepW p t.e.w=.ways []∧k=0)∨(stepW p t.e.w=.done∧k=1)):Hist p n (outN+k) e rest:=by
 refine⟨fun g hg=>?_,fun g hg=>h.at_ g (List.mem_cons_of_mem _ hg),fun g hg=>(h.chain g (List.mem_cons_of_mem _ hg)).mono (by omega),fun i g hg b hb=>?_⟩
 ·have:=h.idle g (List.mem_cons_of_mem _ hg)
  exact⟨this.1,by omega⟩
 ·obtain⟨E,S,d,m,r1,r2,r3,r4⟩:=h.reach (i+1) g (by simpa using hg) b hb
  cases E with
  | nil=>simp at r2
  | cons x E=>
    simp only[List.map_cons,List.cons_append,List.cons.injEq]at r1
    obtain⟨rfl,r1⟩:=r1
    rcases hs with ⟨hs,rfl⟩|⟨hs,rfl⟩
    ·exact⟨E,S,d,m+1,r1,by simpa using r2,.pop r3 hs,r4⟩
    ·exact⟨E,S,d+1,m+1,r1,by simpa using r2,.found r3 hs,by omega⟩
theorem runI_hist {p:Prog1} {n:Nat} {most:Int} (hcl:∀ w l,w.pc < n→stepW p w=.ways l→∀ v∈l,v.pc < n):∀(fuel:Nat) (t:Ghost) (rest:List Ghost) (out:List Way),Hist p n out.length t rest →
  runI p n most fuel (t.e::rest.map (·.e)) out=runW p most fuel (t.e.w::rest.map (·.e.w)) out:=by
 intro fuel
 induction fuel with
 | zero=>
   intro t rest out h
   unfold runI runW
   simp only[]
 | succ fuel ih=>
   intro t rest out h
   by_cases ho:(out.length:Int)=most
   ·unfold runI runW
    simp only[ho,if_true]
   ·by_cases hc:n≤t.e.idle∧(most = -1∨t.e.found=out.length)
    ·have h1:=h.circle hc.1 hc.2 ho (fuel+1)
     rw[h1]
     unfold runI
     simp only[ho,hc,and_self,if_true,if_false]
    ·unfold runI runW
     simp only[ho,hc,if_false]
     have hid:=h.idle t (List.mem_cons_self ..)
     have pop:∀ out',(∀ e rest',rest=e::rest'→Hist p n out'.length e rest')→runI p n most fuel (rest.map (·.e)) out' = runW p most fuel (rest.map (·.e.w)) out':=by
      intro out' hp
      cases rest with
      | nil=>unfold runI runW;rfl
      | cons e rest'=>exact ih e rest' out' (hp e rest' rfl)
     cases hs:stepW p t.e.w with
     | done=>
       simp only[nextI]
       refine pop _ (fun e rest' he=>?_)
       subst he
       have:=h.pop (k:=1) (.inr ⟨hs,rfl⟩)
       simpa using this
     | ways l=>
       simp only[nextI]
       cases l with
       | nil=>
         refine pop out (fun e rest' he=>?_)
         subst he
         have:=h.pop (k:=0) (.inl ⟨hs,rfl⟩)
         simpa using this
       | cons v l=>
         obtain⟨t',rest',h1,h2⟩:=h.step hcl (hs:=if n≤t.e.idle then [t.e.w] else t.e.w::t.hs) (found:=if n≤t.e.idle then out.length else t.e.found)
          (by split
              ·exact .inr ⟨rfl,rfl⟩
              ·exact .inl ⟨rfl,rfl⟩) hs
         have h3:=ih t' rest' out h1
         have hl:(if n≤t.e.idle then [t.e.w] else t.e.w::t.hs).length=if n≤t.e.idle then 1 else t.e.idle+1:=by
          split
          ·rfl
          ·simp[hid.1]
         rw[h2,hl]at h3
         rw[h3]
         have h4:t'.e.w::rest'.map (·.e.w)=(t'.e::rest'.map (·.e)).map (·.w):=by simp
         rw[h4,h2,List.map_append,List.map_map,List.map_map]
         congr 1
         congr 1
         rw[← List.map_id (v::l)]
         rw[List.map_map]
         refine List.map_congr_left fun u _=>?_
         simp only[Function.comp]
         split<;>rfl
theorem runI_eq {p:Prog1} {n:Nat} (hcl:∀ w l,w.pc < n→stepW p w=.ways l→∀ v∈l,v.pc < n) (most:Int) (fuel:Nat) (w:Way) (hw:w.pc < n) :
  runI p n most fuel [⟨w,0,0⟩] []=runW p most fuel [w] []:=
 runI_hist hcl fuel ⟨⟨w,0,0⟩,[]⟩ [] [] ⟨fun g hg=>by simp at hg;subst hg;exact⟨rfl,Nat.zero_le _⟩,fun g hg=>by simp at hg;subst hg;exact⟨hw,fun _ h=>by simp at h⟩,fun g hg=>by simp at hg;subst hg;exact trivial,
  fun i g hg h hh=>by
   match i,hg with
   | 0,hg=>simp at hg;subst hg;simp at hh
   | i+1,hg=>simp at hg⟩
end Go.Ev
namespace Go.Ev
attribute [local go_sem] zAm evAppend evBin evBuild AV.cells splice List.length_append List.map_append
section
open Go.Proofs Go.RowKit Go.IntWalk
set_option maxRecDepth 100000
set_option maxHeartbeats 4000000
theorem f61 (n:Int) (t:List Int) (k:Nat) (hk:k≤t.length) (ht:t.length≤1000000000) (H:List MB):call Tryz.prog pol1 67 [I n,.sl false (t.map I),I k] H=some (.bool (assertI n (befS t k) t[k]?),H):=by
 refine zAS Tryz.func67 rfl rfl rfl rfl rfl rfl (fun _=>rfl) (by simp[AV.plain,AV.plainL,zAE,zAG,zAH,zAI]) (by simp[AV.plain,AV.plainL,zAE,zAG,zAH,zAI]) ?_ H
 rcases k with _|k
 ·rcases t with _|⟨x,t⟩
  ·simp +contextual (disch:=omega) only[Tryz.f67,dd67,go_sem,simprocAttr,mu67,↓zAD,↓zAC,↓zAB,↓zAA,f117]
   repeat' (first|intro _|apply And.intro|(unfold dOk;kernel_rfl)|(show (_ && _)=true;kernel_rfl)|(show (_ || _)=true;kernel_rfl)|refine fzEq rfl (congrArg AV.bool ?_))
   all_goals (simp_all [assertI,befS])
  ·simp +contextual (disch:=omega) only[Tryz.f67,dd67,go_sem,simprocAttr,mu67,↓zAD,↓zAC,↓zAB,↓zAA,f117]
   repeat' (first|intro _|apply And.intro|(unfold dOk;kernel_rfl)|(show (_ && _)=true;kernel_rfl)|(show (_ || _)=true;kernel_rfl)|refine fzEq rfl (congrArg AV.bool ?_))
   all_goals (simp_all [assertI,befS])
 ·obtain⟨p,hp⟩:∃ p,t[k]?=some p:=⟨_,List.getElem?_eq_getElem (by omega)⟩
  have hbf:befS t (k+1)=some p:=by simp[befS,hp]
  rw[hbf]
  by_cases he:k+1=t.length
  ·have hq:t[k+1]?=none:=List.getElem?_eq_none (by omega)
   rw[hq]
   simp +contextual (disch:=omega) only[Tryz.f67,dd67,go_sem,simprocAttr,mu67,↓zAD,↓zAC,↓zAB,↓zAA,f117,hp]
   repeat' (first|intro _|apply And.intro|(unfold dOk;kernel_rfl)|(show (_ && _)=true;kernel_rfl)|(show (_ || _)=true;kernel_rfl)|refine fzEq rfl (congrArg AV.bool ?_))
   all_goals (simp_all [assertI])
  ·obtain⟨q,hq⟩:∃ q,t[k+1]?=some q:=⟨_,List.getElem?_eq_getElem (by omega)⟩
   rw[hq]
   simp +contextual (disch:=omega) only[Tryz.f67,dd67,go_sem,simprocAttr,mu67,↓zAD,↓zAC,↓zAB,↓zAA,f117,hp,hq]
   repeat' (first|intro _|apply And.intro|(unfold dOk;kernel_rfl)|(show (_ && _)=true;kernel_rfl)|(show (_ || _)=true;kernel_rfl)|refine fzEq rfl (congrArg AV.bool ?_))
   all_goals first|(simp_all [assertI];done)|(simp_all [assertI];cases wordI p<;>cases wordI q<;>rfl)
end
section
attribute [local go_sem] tySzE List.head?_drop Nat.mul_one zAO zAT zAN zAP zAQ zAZ
open Go.Proofs Go.RowKit Go.IntWalk
set_option maxRecDepth 100000
set_option maxHeartbeats 4000000
abbrev M3:=Int×Int×List (Int×Int)
abbrev mA (m:M3):AV:=matAV m.1 m.2.1 m.2.2
theorem zGy (l:List M3):AV.plainL (l.map mA)=true:=by
 induction l with
 | nil=>rfl
 | cons a l ih=>simp[AV.plainL,ih,zF6]
end
end Go.Ev
namespace Go.Ev
open Go.Proofs Go.RowKit Go.IntWalk
set_option maxRecDepth 100000
set_option maxHeartbeats 4000000
def progOf (g:Prg) (t:List Int):Prog1:=⟨fun pc=>g.ins[pc]?,fun s k=>match t[k]? with
 | some x=>hasSpan s x
 | none=>false,fun n k=>assertI n (befS t k) t[k]?⟩
structure Okay (g:Prg):Prop where
 len:1≤g.ins.length∧g.ins.length≤8192
 caps:0≤g.caps∧g.caps≤9
 ok:∀ i∈g.ins,okIns g.ins.length g.caps g.runes i=true
 last:lastGood g=true
theorem zHi {g:Prg} (h:validG g=0):Okay g:=by
 unfold validG at h
 split at h
 ·cases h
 ·split at h
  ·cases h
  ·split at h
   ·rename_i h1 h2 h3
    simp only[Bool.and_eq_true,List.all_eq_true]at h3
    exact⟨by omega,by omega,h3.1,h3.2⟩
   ·cases h
theorem zHk {n:Nat} {c:Int} {r:Bool} {i:Ins} (h:okIns n c r i=true) :
  (i.op=2→(0≤i.x∧i.x < n)∧0≤i.y∧i.y < n)∧(i.op=3→0≤i.x∧i.x < n)∧(i.op=4→0≤i.n∧i.n < 2 * c):=by
 simp only[okIns,Bool.and_eq_true,Bool.or_eq_true,beq_iff_eq,decide_eq_true_eq]at h
 refine⟨fun e=>?_,fun e=>?_,fun e=>?_⟩<;>simp[e]at h<;>omega
theorem Okay.next {g:Prg} (h:Okay g) {pc:Nat} {i:Ins} (hi:g.ins[pc]?=some i) (ho:¬ (i.op=0∨i.op=2∨i.op=3)):pc+1 < g.ins.length:=by
 have hlt:=(List.getElem?_eq_some_iff.1 hi).1
 rcases Nat.lt_or_ge (pc+1) g.ins.length with hh|hh
 ·exact hh
 ·have hl:=h.last
  have:g.ins.length - 1=pc:=by omega
  simp only[lastGood,this,hi]at hl
  simp at hl
  omega
structure WayOk (g:Prg) (t:List Int) (N:Nat) (w:Way):Prop where
 pc:w.pc < g.ins.length
 at_:w.at_≤t.length
 regs:w.regs.length=N
theorem step_ok {g:Prg} (h:Okay g) {t:List Int} {N:Nat} {w:Way} (hw:WayOk g t N w) {l:List Way} (hs:stepW (progOf g t) w=.ways l):∀ v∈l,WayOk g t N v:=by
 obtain⟨h1,h2,h3⟩:=hw
 obtain⟨i,hi⟩:∃ i,g.ins[w.pc]?=some i:=⟨_,List.getElem?_eq_getElem h1⟩
 have hok:=h.ok i (List.mem_of_getElem? hi)
 have hf:=zHk hok
 have hop:=zHl hok
 have hp:(progOf g t).ins w.pc=some i:=hi
 simp only[stepW,hp]at hs
 split at hs
 ·cases hs
 ·rename_i n0
  split at hs
  ·rename_i e1
   split at hs
   ·rename_i hhas
    cases hs
    intro v hv
    rw[List.mem_singleton.1 hv]
    refine⟨h.next hi (by omega),?_,h3⟩
    simp only[progOf]at hhas
    cases ht:t[w.at_]? with
    | none=>rw[ht]at hhas;simp at hhas
    | some x=>
      have:=(List.getElem?_eq_some_iff.1 ht).1
      show w.at_+1≤t.length
      omega
   ·cases hs;intro v hv;simp at hv
  ·split at hs
   ·rename_i e2
    cases hs
    have:=hf.1 e2
    intro v hv
    rcases List.mem_cons.1 hv with e|e
    ·rw[e];exact⟨by show i.x.toNat < _;omega,h2,h3⟩
    ·rw[List.mem_singleton.1 e];exact⟨by show i.y.toNat < _;omega,h2,h3⟩
   ·split at hs
    ·rename_i e3
     cases hs
     have:=hf.2.1 e3
     intro v hv
     rw[List.mem_singleton.1 hv];exact⟨by show i.x.toNat < _;omega,h2,h3⟩
    ·split at hs
     ·rename_i e4
      cases hs
      intro v hv
      rw[List.mem_singleton.1 hv];exact⟨h.next hi (by omega),h2,by simp[h3]⟩
     ·split at hs
      ·cases hs
       intro v hv
       rw[List.mem_singleton.1 hv];exact⟨h.next hi (by omega),h2,h3⟩
      ·cases hs;intro v hv;simp at hv
def matOf (pos:Int) (n:Nat) (w:Way):M3:=(pos,w.at_,capsN w.regs n)
def resA (pos:Int) (n:Nat):Option (List Way)→AV
 | some out=>.tup [.sl false (out.map fun w=>mA (matOf pos n w)),I 0]
 | none=>.tup [.sl false [],I 11]
theorem zEe (pos:Int) (n:Nat) (l:List Way):AV.plainL (l.map fun w=>mA (matOf pos n w))=true:=by
 rw[show (l.map fun w=>mA (matOf pos n w))=(l.map (matOf pos n)).map mA by simp]
 exact zGy _
theorem zAb (pos:Int) (n:Nat) (l:List Way):AV.plainL (l.map fun w=>AV.agg [I pos,I w.at_,.sl false ((capsN w.regs n).map spanAV)])=true:=zEe pos n l
theorem plain_resA (pos:Int) (n:Nat) (o:Option (List Way)):AV.plain (resA pos n o)=true:=by
 cases o with
 | none=>rfl
 | some out=>simp[resA,AV.plain,AV.plainL,zEe]
theorem runW_nil {p:Prog1} {most:Int} {fuel:Nat} {out:List Way}:runW p most fuel [] out=some out:=by unfold runW;rfl
theorem zDc {p:Prog1} {most:Int} {fuel:Nat} {w:Way} {rest out:List Way} (h:(out.length:Int)=most):runW p most fuel (w::rest) out=some out:=by
 unfold runW
 simp only[h,if_true]
def stA {α:Type} (f:α→AV) (l:List α):List AV:=l.reverse.map f
theorem stA_len {α:Type} (f:α→AV) (l:List α):(stA f l).length=l.length:=by simp[stA]
theorem stA_cons {α:Type} (f:α→AV) (w:α) (l:List α) (j:List AV):stA f (w::l)++j=stA f l++(f w::j):=by simp[stA]
theorem zBa {α:Type} (f:α→AV) (w:α) (l:List α):stA f (w::l)=stA f l++[f w]:=by simp[stA]
theorem get_top {A:List AV} {k:Nat} (h:A.length=k) (x:AV) (B:List AV):(A++(x::B))[k]?=some x:=by
 subst h;simp
theorem zHV {A:List AV} {k:Nat} (h:A.length=k) (B:List AV):(A++B).take k=A:=by
 subst h;simp
theorem drop_top {A:List AV} {k:Nat} (h:A.length=k) (x:AV) (B:List AV):(A++(x::B)).drop (k+1)=B:=by
 subst h;simp[List.drop_append]
theorem drop_top2 {A:List AV} {k:Nat} (h:A.length=k) (x y:AV) (B:List AV):(A++(x::y::B)).drop (k+2)=B:=by
 subst h;simp[List.drop_append]
end Go.Ev
namespace Go.Ev
attribute [local go_sem] zAm evAppend evBin evBuild AV.cells splice List.length_append List.map_append
section
attribute [local go_sem] tySzE List.head?_drop Nat.mul_one zAO zAT zAN zAP zAQ zAZ
open Go.Proofs Go.RowKit Go.IntWalk
set_option maxRecDepth 100000
set_option maxHeartbeats 4000000
theorem f58 (g:Prg) (hb:PrgB g) (t:List Int) (ht:t.length≤1000000000) (pos most fuel:Int) (H:List MB) :
  call Tryz.prog pol1 63 [.agg [.sl false (g.ins.map insAV),I g.caps,.bool g.runes],.sl false (t.map I),I pos,I most,I fuel] H=some (I (checkG g t.length pos most fuel),H):=by
 refine zAS Tryz.func63 rfl rfl rfl rfl rfl rfl (fun _=>rfl) (by simp[AV.plain,AV.plainL,zAE,zAG,zAH,zAI]) (by simp[AV.plain,AV.plainL,zAE,zAG,zAH,zAI]) ?_ H
 have hv:=f30 g hb
 unfold checkG
 by_cases h1:validG g=0
 ·rw[h1]at hv
  rw[if_neg (by simp[h1])]
  simp +contextual (disch:=omega) only[Tryz.f63,dd63,go_sem,simprocAttr,mu63,↓zAD,↓zAC,↓zAB,↓zAA,hv]
  repeat' (first|intro _|apply And.intro|refine fzEq rfl (congrArg (AV.int .i64) ?_))
  all_goals (repeat' split)
  all_goals first|omega|(simp_all;done)|(simp_all;omega)
 ·rw[if_pos h1]
  simp +contextual (disch:=omega) only[Tryz.f63,dd63,go_sem,simprocAttr,mu63,↓zAD,↓zAC,↓zAB,↓zAA,hv]
  exact fzEq rfl rfl
theorem f23e (g:Prg) (hb:PrgB g) (t:List Int) (ht:t.length≤1000000000) (pos most fuel:Int) (he:checkG g t.length pos most fuel≠0) (H:List MB) :
  call Tryz.prog pol1 32 [.agg [.sl false (g.ins.map insAV),I g.caps,.bool g.runes],.sl false (t.map I),I pos,I most,I fuel] H=some (.tup [.sl false [],I (checkG g t.length pos most fuel)],H):=by
 refine zAS Tryz.func32 rfl rfl rfl rfl rfl rfl (fun _=>rfl) (by simp[AV.plain,AV.plainL,zAE,zAG,zAH,zAI]) (by simp[AV.plain,AV.plainL,zAE,zAG,zAH,zAI]) ?_ H
 have hc:=f58 g hb t ht pos most fuel
 generalize checkG g t.length pos most fuel=c at *
 have hz:=fz_prg g
 simp +contextual (disch:=omega) only[Tryz.f32,dd32,go_sem,simprocAttr,mu32,↓zAD,↓zAC,↓zAB,↓zAA,hc,hz,lookD,look]
 exact⟨_,rfl⟩
end
end Go.Ev
