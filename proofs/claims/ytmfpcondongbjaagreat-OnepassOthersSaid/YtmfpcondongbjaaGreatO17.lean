/- Functions of the program, each with what it computes; no further conditions. -/
import Derived.Test.YtmfpcondongbjaaGreatO07
import Derived.Test.YtmfpcondongbjaaGreatO13
import Derived.Test.YtmfpcondongbjaaGreatO16
import Derived.Test.YtmfpcondongbjaaGreatO11
import Derived.Test.YtmfpcondongbjaaGreatO08
import Derived.Test.YtmfpcondongbjaaGreatO14
set_option linter.unusedVariables false
set_option linter.unusedSimpArgs false
namespace Go.Ev
attribute [local go_sem] evBin AV.cells List.length_append List.map_append tySzE List.head?_drop Nat.mul_one zAP zAU zAN zAQ zAR zAX
section
attribute [local go_sem] evAppend evBuild splice
open Go.Proofs Go.RowKit Go.IntWalk
set_option maxRecDepth 100000
set_option maxHeartbeats 8000000
theorem f150 (op:Int) (H:List MB):call Tryz.prog pol1 196 [I op] H =
  some (.tup [I (if op=2∨op=3 then 2 else if op=4∨op=5∨op=7∨op=8∨op=9 then 1 else if op=10 then 2 else 0),I (if op=2∨op=3 then -1 else if op=4∨op=5∨op=7∨op=8∨op=9 then 1 else if op=10 then 2 else 0)],H):=by
 refine zAS Tryz.func196 rfl rfl rfl rfl rfl rfl (fun _=>rfl) rfl rfl ?_ H
 by_cases h1:op=2∨op=3
 ·rw[if_pos h1,if_pos h1]
  rcases h1 with rfl|rfl
  all_goals (
   simp +contextual (disch:=omega) only[Tryz.f196,zNH,go_sem,simprocAttr,zM3,↓zAD,↓zAC,↓zAB,↓zAA]
   exact fzEq rfl rfl)
 ·rw[if_neg h1,if_neg h1]
  by_cases h2:op=4∨op=5∨op=7∨op=8∨op=9
  ·rw[if_pos h2]
   rcases h2 with rfl|rfl|rfl|rfl|rfl
   all_goals (
    simp +contextual (disch:=omega) only[Tryz.f196,zNH,go_sem,simprocAttr,zM3,↓zAD,↓zAC,↓zAB,↓zAA]
    exact fzEq rfl rfl)
  ·rw[if_neg h2]
   by_cases h3:op=10
   ·rw[if_pos h3]
    subst h3
    simp +contextual (disch:=omega) only[Tryz.f196,zNH,go_sem,simprocAttr,zM3,↓zAD,↓zAC,↓zAB,↓zAA]
    exact fzEq rfl rfl
   ·rw[if_neg h3]
    simp +contextual (disch:=omega) only[Tryz.f196,zNH,go_sem,simprocAttr,zM3,↓zAD,↓zAC,↓zAB,↓zAA]
    exact fzEq rfl rfl
theorem f151 (l:List (Int×Int)) (top:Int) (ht:top≤1114111) (hl:l.length≤1000000) (H:List MB):call Tryz.prog pol1 197 [.sl false (l.map spanAV),I top] H=some (.bool (spansG l top),H):=by
 refine zAS Tryz.func197 rfl rfl rfl rfl rfl rfl (fun _=>rfl) (by simp[AV.plain,AV.plainL,zAG]) rfl ?_ H
 by_cases h64:64 < l.length
 ·rw[zF0 h64]
  simp +contextual (disch:=omega) only[Tryz.f197,zKC,go_sem,simprocAttr,zJw,↓zAD,↓zAC,↓zAB,↓zAA]
  exact fzEq rfl rfl
 ·simp +contextual (disch:=omega) only[Tryz.f197,zKC,go_sem,simprocAttr,zJw,↓zAD,↓zAC,↓zAB,↓zAA]
  refine zAd (M:=(mskOf (pol1.mask 197) (pol1.gc 197) (pol1.acts 197) 0 4)) rfl l.length (fun i=>(⟨62,[(5,I i),(1,I top),(0,.sl false (l.map spanAV))],[]⟩:St)) (fun i=>∀ k,k < i→badS l top k=false) ?_ ?_ (fun k h=>by omega) _ (by first|rfl|(refine zAa (n:=0) (m:=⟨some [5,1,0],some 0,[]⟩) rfl rfl ?_ ?_ ?_<;>first|rfl|(simp[keepT,AV.underL,AV.under,MB.under,zAF,zAJ,zAK,zAE,zAG,zAH,zAI,-List.map_take,-List.map_replicate,-List.map_set];done)|(simp[keepT,AV.underL,AV.under,MB.under,zAF,zAJ,zAK,zAE,zAG,zAH,zAI,-List.map_take,-List.map_replicate,-List.map_set];omega)))
  ·intro i hlt hg
   obtain⟨p,hp⟩:∃ p,l[i]?=some p:=⟨_,List.getElem?_eq_getElem hlt⟩
   have ext:badS l top i=false→∀ k,k < i+1→badS l top k=false:=fun h k hk=>by
    rcases Nat.lt_or_ge k i with h1|h1
    ·exact hg k h1
    ·obtain rfl:k=i:=by omega
     exact h
   by_cases hgd:p.1 < 0∨p.2 < p.1∨top < p.2
   ·rw[zEJ hlt (zMf hp hgd)]
    have hgd':p.1 < 0∨(¬ p.1 < 0∧p.2 < p.1)∨(¬ p.1 < 0∧¬ p.2 < p.1∧top < p.2):=by omega
    rcases hgd' with h|⟨h,h'⟩|⟨h,h',h''⟩
    all_goals (
     simp +contextual (disch:=omega) only[Tryz.f197,zKC,go_sem,simprocAttr,zJw,↓zAD,↓zAC,↓zAB,↓zAA,hp,spanAV]
     repeat' (first|intro _|apply And.intro|(unfold dOk;kernel_rfl)|exact St.beq_refl _|(show altO _ _ _ _=true;kernel_rfl)|(show (_ || _)=true;kernel_rfl)|(show (_ && _)=true;kernel_rfl))
     all_goals exact fzEq rfl rfl)
   ·rcases i with _|i
    ·simp +contextual (disch:=omega) only[Tryz.f197,zKC,go_sem,simprocAttr,zJw,↓zAD,↓zAC,↓zAB,↓zAA,hp,spanAV]
     repeat' (first|intro _|apply And.intro|(unfold dOk;kernel_rfl)|exact St.beq_refl _|(show altO _ _ _ _=true;kernel_rfl)|(show (_ || _)=true;kernel_rfl)|(show (_ && _)=true;kernel_rfl))
     ·exact ext (zJc hp hgd) _ ‹_›
     ·exact(by first|rfl|(refine zAa (n:=0) (m:=⟨some [5,1,0],some 0,[]⟩) rfl rfl ?_ ?_ ?_<;>first|rfl|(simp[keepT,AV.underL,AV.under,MB.under,zAF,zAJ,zAK,zAE,zAG,zAH,zAI,-List.map_take,-List.map_replicate,-List.map_set];done)|(simp[keepT,AV.underL,AV.under,MB.under,zAF,zAJ,zAK,zAE,zAG,zAH,zAI,-List.map_take,-List.map_replicate,-List.map_set];omega)))
    ·obtain⟨q,hq⟩:∃ q,l[i]?=some q:=⟨_,List.getElem?_eq_getElem (by omega)⟩
     have hqb:=zMg hq (hg i (by omega))
     have hb:=zJd hp hq hgd
     by_cases h2:p.1 < q.2+2
     ·rw[zEJ hlt (by rw[hb];simp[h2])]
      simp +contextual (disch:=omega) only[Tryz.f197,zKC,go_sem,simprocAttr,zJw,↓zAD,↓zAC,↓zAB,↓zAA,hp,hq,spanAV]
      repeat' (first|intro _|apply And.intro|(unfold dOk;kernel_rfl)|exact St.beq_refl _|(show altO _ _ _ _=true;kernel_rfl)|(show (_ || _)=true;kernel_rfl)|(show (_ && _)=true;kernel_rfl))
      all_goals exact fzEq rfl rfl
     ·simp +contextual (disch:=omega) only[Tryz.f197,zKC,go_sem,simprocAttr,zJw,↓zAD,↓zAC,↓zAB,↓zAA,hp,hq,spanAV]
      repeat' (first|intro _|apply And.intro|(unfold dOk;kernel_rfl)|exact St.beq_refl _|(show altO _ _ _ _=true;kernel_rfl)|(show (_ || _)=true;kernel_rfl)|(show (_ && _)=true;kernel_rfl))
      ·exact ext (by rw[hb];simp[h2]) _ ‹_›
      ·exact(by first|rfl|(refine zAa (n:=0) (m:=⟨some [5,1,0],some 0,[]⟩) rfl rfl ?_ ?_ ?_<;>first|rfl|(simp[keepT,AV.underL,AV.under,MB.under,zAF,zAJ,zAK,zAE,zAG,zAH,zAI,-List.map_take,-List.map_replicate,-List.map_set];done)|(simp[keepT,AV.underL,AV.under,MB.under,zAF,zAJ,zAK,zAE,zAG,zAH,zAI,-List.map_take,-List.map_replicate,-List.map_set];omega)))
  ·intro hg
   rw[zF1 (by omega) hg]
   simp +contextual (disch:=omega) only[Tryz.f197,zKC,go_sem,simprocAttr,zJw,↓zAD,↓zAC,↓zAB,↓zAA]
   exact fzEq rfl rfl
theorem f135 (caps top:Int) (ht:top≤1114111) (op:Int) (set:List (Int×Int)) (kids:List Re) (mn mx md n:Int) (neg:Bool) (hs:set.length≤1000000) (hk:kids.length≤1000000) (H:List MB) :
  call Tryz.prog pol1 192 [.agg (nodeL op set kids mn mx md n neg),I caps,I top] H=some (.bool (formedG caps top (.mk op set kids mn mx md n neg)),H):=by
 refine zAS Tryz.func192 rfl rfl rfl rfl rfl rfl (fun _=>rfl) (by simp[AV.plain,AV.plainL,zAG,zAL]) rfl ?_ H
 have h151:=f151 set top ht hs
 have h150:=f150 op
 by_cases h0:op < 0∨11 < op
 ·have e:formedG caps top (.mk op set kids mn mx md n neg)=false:=by
   have:¬ (0≤op∧op≤11):=by omega
   simp only[formedG,Bool.and_eq_false_iff,decide_eq_false_iff_not]
   omega
  rw[e]
  have h0':op < 0∨(¬ op < 0∧11 < op):=by omega
  rcases h0' with h|⟨h,h'⟩
  all_goals (
   simp +contextual (disch:=omega) only[Tryz.f192,zOH,go_sem,simprocAttr,zNz,↓zAD,↓zAC,↓zAB,↓zAA,h150]
   repeat' (first|intro _|apply And.intro|(unfold dOk;kernel_rfl)|exact St.beq_refl _|(show altO _ _ _ _=true;kernel_rfl)|(show (_ || _)=true;kernel_rfl)|(show (_ && _)=true;kernel_rfl))
   all_goals exact fzEq rfl rfl)
 have hop:op=1∨op=4∨op=0∨op=2∨op=3∨op=5∨op=6∨op=7∨op=8∨op=9∨op=10∨op=11:=by omega
 clear h0
 rcases hop with rfl|rfl|rfl|rfl|rfl|rfl|rfl|rfl|rfl|rfl|rfl|rfl
 ·cases hsp:spansG set top
  all_goals (
   rw[hsp]at h151
   simp at h150
   cases neg <;>
   simp +contextual (disch:=omega) only[Tryz.f192,zOH,go_sem,simprocAttr,zNz,↓zAD,↓zAC,↓zAB,↓zAA,h150,h151]
   repeat' (first|intro _|apply And.intro|(unfold dOk;kernel_rfl)|exact St.beq_refl _|(show altO _ _ _ _=true;kernel_rfl)|(show (_ || _)=true;kernel_rfl)|(show (_ && _)=true;kernel_rfl))
   all_goals (clear h151 h150;refine fzEq rfl (congrArg AV.bool ?_);first|(simp_all [formedG,kidsG,repG,-List.length_eq_zero_iff];done)|(simp_all [formedG,kidsG,repG,-List.length_eq_zero_iff];omega)))
 all_goals (
  simp at h150
  cases neg <;>
  simp +contextual (disch:=omega) only[Tryz.f192,zOH,go_sem,simprocAttr,zNz,↓zAD,↓zAC,↓zAB,↓zAA,h150]
  repeat' (first|intro _|apply And.intro|(unfold dOk;kernel_rfl)|exact St.beq_refl _|(show altO _ _ _ _=true;kernel_rfl)|(show (_ || _)=true;kernel_rfl)|(show (_ && _)=true;kernel_rfl))
  all_goals (clear h151 h150;refine fzEq rfl (congrArg AV.bool ?_);first|(simp_all [formedG,kidsG,repG,-List.length_eq_zero_iff];done)|(simp_all [formedG,kidsG,repG,-List.length_eq_zero_iff];omega)))
end
section
attribute [local go_sem] evAppend evBuild splice
open Go.Proofs Go.RowKit Go.IntWalk
set_option maxRecDepth 100000
set_option maxHeartbeats 8000000
theorem f114 (caps top:Int) (ht:top≤1114111):∀(N:Nat) (r:Re),r.wt≤N→r.wt≤1000000→∀ H,call Tryz.prog pol1 175 [reAV r,I caps,I top] H=some (.bool (wholeG caps top r),H)
 | 0,r,h,_,_=>by have:=r.wt_pos;omega
 | N+1,.mk op set kids mn mx md n neg,h,hN,H=>by
   have hkl:=Re.wtL_len kids
   have hwt:1+set.length+Re.wtL kids=(Re.mk op set kids mn mx md n neg).wt:=by simp[Re.wt]
   have ih:=fun k (hk:k∈kids)=>f114 caps top ht N k (by have:=Re.wtL_mem hk;omega) (by have:=Re.wtL_mem hk;omega)
   have h135:=f135 caps top ht op set kids mn mx md n neg (by omega) (by omega)
   rw[show reAV (.mk op set kids mn mx md n neg)=.agg (nodeL op set kids mn mx md n neg) from congrArg AV.agg zCc]
   refine zAS Tryz.func175 rfl rfl rfl rfl rfl rfl (fun _=>rfl) (by simp[AV.plain,AV.plainL,zAG,zAL]) rfl ?_ H
   rw[wholeG]
   cases hfg:formedG caps top (.mk op set kids mn mx md n neg) with
   | false=>
     rw[hfg]at h135
     simp +contextual (disch:=omega) only[Tryz.f175,zMV,go_sem,simprocAttr,zMA,↓zAD,↓zAC,↓zAB,↓zAA,h135]
     exact fzEq rfl rfl
   | true=>
     rw[hfg]at h135
     simp +contextual (disch:=omega) only[Tryz.f175,zMV,go_sem,simprocAttr,zMA,↓zAD,↓zAC,↓zAB,↓zAA,h135]
     refine zAd (M:=(mskOf (pol1.mask 175) (pol1.gc 175) (pol1.acts 175) 0 4)) rfl kids.length (fun i=>(⟨29,[(7,I i),(3,.rf 0 1 0 0),(2,I top),(1,I caps)],[.row 8 [.agg (nodeL op set kids mn mx md n neg)] 0]⟩:St)) (fun i=>wholeL caps top (kids.take i)=true) ?_ ?_ (by simp[wholeL]) _ (by first|rfl|(refine zAa (n:=1) (m:=⟨some [7,3,2,1],some 1,[]⟩) rfl rfl ?_ ?_ ?_<;>first|rfl|(simp[keepT,AV.underL,AV.under,MB.under,zAF,zAJ,zAK,zAE,zAG,zAH,zAI,-List.map_take,-List.map_replicate,-List.map_set,zAL];done)|(simp[keepT,AV.underL,AV.under,MB.under,zAF,zAJ,zAK,zAE,zAG,zAH,zAI,-List.map_take,-List.map_replicate,-List.map_set,zAL];omega)))
     ·intro i hi hg
      obtain⟨k,hk⟩:∃ k,kids[i]?=some k:=⟨_,List.getElem?_eq_getElem hi⟩
      have ihk:=ih k (List.mem_of_getElem? hk)
      have hl8:=zAM k
      have ht8:=zAT k
      have e3:=zEa (caps:=caps) (top:=top) hk
      cases hn:wholeG caps top k with
      | false=>
        rw[hn]at ihk
        have hf:wholeL caps top kids=false:=by
         rw[Bool.eq_false_iff]
         intro hw
         rw[zFE]at hw
         have:=hw k (List.mem_of_getElem? hk)
         rw[hn]at this;cases this
        rw[hf]
        simp +contextual (disch:=omega) only[Tryz.f175,zMV,go_sem,simprocAttr,zMA,↓zAD,↓zAC,↓zAB,↓zAA,hk,ihk,hl8,ht8]
        exact fzEq rfl rfl
      | true=>
        rw[hn]at ihk
        rw[e3,hg,hn]
        simp +contextual (disch:=omega) only[Tryz.f175,zMV,go_sem,simprocAttr,zMA,↓zAD,↓zAC,↓zAB,↓zAA,hk,ihk,hl8,ht8]
        exact(by first|rfl|(refine zAa (n:=1) (m:=⟨some [7,3,2,1],some 1,[]⟩) rfl rfl ?_ ?_ ?_<;>first|rfl|(simp[keepT,AV.underL,AV.under,MB.under,zAF,zAJ,zAK,zAE,zAG,zAH,zAI,-List.map_take,-List.map_replicate,-List.map_set,zAL];done)|(simp[keepT,AV.underL,AV.under,MB.under,zAF,zAJ,zAK,zAE,zAG,zAH,zAI,-List.map_take,-List.map_replicate,-List.map_set,zAL];omega)))
     ·intro hg
      rw[List.take_length]at hg
      rw[hg]
      simp +contextual (disch:=omega) only[Tryz.f175,zMV,go_sem,simprocAttr,zMA,↓zAD,↓zAC,↓zAB,↓zAA]
      exact fzEq rfl rfl
theorem f52 (p:Pat) (hw:p.re.wt≤1000000) (H:List MB):call Tryz.prog pol1 142 [patAV p] H=some (I (validP p),H):=by
 obtain⟨re,caps,runes⟩:=p
 simp only at hw
 refine zAS Tryz.func142 rfl rfl rfl rfl rfl rfl (fun _=>rfl) (by simp[AV.plainL,AV.plain];exact zAx _) rfl ?_ H
 have hl8:=zAM re
 have hget8:(reC re++[I caps,.bool runes])[8]?=some (I caps):=by rw[List.getElem?_append_right (by omega),hl8];rfl
 have hget9:(reC re++[I caps,.bool runes])[9]?=some (.bool runes):=by rw[List.getElem?_append_right (by omega),hl8];rfl
 have htk8:∀ l,List.take 8 (reC re++l)=reC re:=fun l=>by
  rw[List.take_append_of_le_length (by omega)];exact List.take_of_length_le (by omega)
 have hall:=zAs re
 have h112:=f112 re.wt re (Nat.le_refl _) hw
 have h113:=f113 re.wt re (Nat.le_refl _) hw
 have h114:=f114 caps (topI runes) (zJk runes) re.wt re (Nat.le_refl _) hw
 have hsw:=re.size_wt
 cases runes
 ·rw[show topI false=255 from rfl]at h114
  by_cases h1:256 < re.size
  ·rw[show validP ⟨re,caps,false⟩=4 from if_pos (.inl h1)]
   simp +contextual (disch:=omega) only[Tryz.f142,zFl,go_sem,simprocAttr,zFj,↓zAD,↓zAC,↓zAB,↓zAA,hl8,hget8,hget9,h112,h113,hall,htk8,List.all_append]
   repeat' (first|intro _|apply And.intro|(unfold dOk;kernel_rfl)|exact St.beq_refl _|(show altO _ _ _ _=true;kernel_rfl)|(show (_ || _)=true;kernel_rfl)|(show (_ && _)=true;kernel_rfl))
   all_goals exact fzEq rfl rfl
  by_cases h2:24 < re.depth
  ·rw[show validP ⟨re,caps,false⟩=4 from if_pos (.inr h2)]
   simp +contextual (disch:=omega) only[Tryz.f142,zFl,go_sem,simprocAttr,zFj,↓zAD,↓zAC,↓zAB,↓zAA,hl8,hget8,hget9,h112,h113,hall,htk8,List.all_append]
   repeat' (first|intro _|apply And.intro|(unfold dOk;kernel_rfl)|exact St.beq_refl _|(show altO _ _ _ _=true;kernel_rfl)|(show (_ || _)=true;kernel_rfl)|(show (_ && _)=true;kernel_rfl))
   all_goals exact fzEq rfl rfl
  have hno:¬ (256 < re.size∨24 < re.depth):=by omega
  have hcp:(caps < 0)∨(¬ caps < 0∧9 < caps)∨(¬ caps < 0∧¬ 9 < caps):=by omega
  rcases hcp with h3|⟨h3,h4⟩|⟨h3,h4⟩
  ·rw[show validP ⟨re,caps,false⟩=1 from(if_neg hno).trans (if_pos (.inl h3))]
   simp +contextual (disch:=omega) only[Tryz.f142,zFl,go_sem,simprocAttr,zFj,↓zAD,↓zAC,↓zAB,↓zAA,hl8,hget8,hget9,h112,h113,hall,htk8,List.all_append]
   repeat' (first|intro _|apply And.intro|(unfold dOk;kernel_rfl)|exact St.beq_refl _|(show altO _ _ _ _=true;kernel_rfl)|(show (_ || _)=true;kernel_rfl)|(show (_ && _)=true;kernel_rfl))
   all_goals exact fzEq rfl rfl
  ·rw[show validP ⟨re,caps,false⟩=1 from(if_neg hno).trans (if_pos (.inr (.inl h4)))]
   simp +contextual (disch:=omega) only[Tryz.f142,zFl,go_sem,simprocAttr,zFj,↓zAD,↓zAC,↓zAB,↓zAA,hl8,hget8,hget9,h112,h113,hall,htk8,List.all_append]
   repeat' (first|intro _|apply And.intro|(unfold dOk;kernel_rfl)|exact St.beq_refl _|(show altO _ _ _ _=true;kernel_rfl)|(show (_ || _)=true;kernel_rfl)|(show (_ && _)=true;kernel_rfl))
   all_goals exact fzEq rfl rfl
  ·cases hwg:wholeG caps 255 re with
   | true=>
     rw[hwg]at h114
     rw[show validP ⟨re,caps,false⟩=0 from(if_neg hno).trans (if_neg (by simp only[topI,Bool.false_eq_true,if_false,if_true,hwg];simp;omega))]
     simp +contextual (disch:=omega) only[Tryz.f142,zFl,go_sem,simprocAttr,zFj,↓zAD,↓zAC,↓zAB,↓zAA,hl8,hget8,hget9,h112,h113,h114,hall,htk8,List.all_append]
     repeat' (first|intro _|apply And.intro|(unfold dOk;kernel_rfl)|exact St.beq_refl _|(show altO _ _ _ _=true;kernel_rfl)|(show (_ || _)=true;kernel_rfl)|(show (_ && _)=true;kernel_rfl))
     all_goals exact fzEq rfl rfl
   | false=>
     rw[hwg]at h114
     rw[show validP ⟨re,caps,false⟩=1 from(if_neg hno).trans (if_pos (.inr (.inr hwg)))]
     simp +contextual (disch:=omega) only[Tryz.f142,zFl,go_sem,simprocAttr,zFj,↓zAD,↓zAC,↓zAB,↓zAA,hl8,hget8,hget9,h112,h113,h114,hall,htk8,List.all_append]
     repeat' (first|intro _|apply And.intro|(unfold dOk;kernel_rfl)|exact St.beq_refl _|(show altO _ _ _ _=true;kernel_rfl)|(show (_ || _)=true;kernel_rfl)|(show (_ && _)=true;kernel_rfl))
     all_goals exact fzEq rfl rfl
 ·rw[show topI true=1114111 from rfl]at h114
  by_cases h1:256 < re.size
  ·rw[show validP ⟨re,caps,true⟩=4 from if_pos (.inl h1)]
   simp +contextual (disch:=omega) only[Tryz.f142,zFl,go_sem,simprocAttr,zFj,↓zAD,↓zAC,↓zAB,↓zAA,hl8,hget8,hget9,h112,h113,hall,htk8,List.all_append]
   repeat' (first|intro _|apply And.intro|(unfold dOk;kernel_rfl)|exact St.beq_refl _|(show altO _ _ _ _=true;kernel_rfl)|(show (_ || _)=true;kernel_rfl)|(show (_ && _)=true;kernel_rfl))
   all_goals exact fzEq rfl rfl
  by_cases h2:24 < re.depth
  ·rw[show validP ⟨re,caps,true⟩=4 from if_pos (.inr h2)]
   simp +contextual (disch:=omega) only[Tryz.f142,zFl,go_sem,simprocAttr,zFj,↓zAD,↓zAC,↓zAB,↓zAA,hl8,hget8,hget9,h112,h113,hall,htk8,List.all_append]
   repeat' (first|intro _|apply And.intro|(unfold dOk;kernel_rfl)|exact St.beq_refl _|(show altO _ _ _ _=true;kernel_rfl)|(show (_ || _)=true;kernel_rfl)|(show (_ && _)=true;kernel_rfl))
   all_goals exact fzEq rfl rfl
  have hno:¬ (256 < re.size∨24 < re.depth):=by omega
  have hcp:(caps < 0)∨(¬ caps < 0∧9 < caps)∨(¬ caps < 0∧¬ 9 < caps):=by omega
  rcases hcp with h3|⟨h3,h4⟩|⟨h3,h4⟩
  ·rw[show validP ⟨re,caps,true⟩=1 from(if_neg hno).trans (if_pos (.inl h3))]
   simp +contextual (disch:=omega) only[Tryz.f142,zFl,go_sem,simprocAttr,zFj,↓zAD,↓zAC,↓zAB,↓zAA,hl8,hget8,hget9,h112,h113,hall,htk8,List.all_append]
   repeat' (first|intro _|apply And.intro|(unfold dOk;kernel_rfl)|exact St.beq_refl _|(show altO _ _ _ _=true;kernel_rfl)|(show (_ || _)=true;kernel_rfl)|(show (_ && _)=true;kernel_rfl))
   all_goals exact fzEq rfl rfl
  ·rw[show validP ⟨re,caps,true⟩=1 from(if_neg hno).trans (if_pos (.inr (.inl h4)))]
   simp +contextual (disch:=omega) only[Tryz.f142,zFl,go_sem,simprocAttr,zFj,↓zAD,↓zAC,↓zAB,↓zAA,hl8,hget8,hget9,h112,h113,hall,htk8,List.all_append]
   repeat' (first|intro _|apply And.intro|(unfold dOk;kernel_rfl)|exact St.beq_refl _|(show altO _ _ _ _=true;kernel_rfl)|(show (_ || _)=true;kernel_rfl)|(show (_ && _)=true;kernel_rfl))
   all_goals exact fzEq rfl rfl
  ·cases hwg:wholeG caps 1114111 re with
   | true=>
     rw[hwg]at h114
     rw[show validP ⟨re,caps,true⟩=0 from(if_neg hno).trans (if_neg (by simp only[topI,Bool.false_eq_true,if_false,if_true,hwg];simp;omega))]
     simp +contextual (disch:=omega) only[Tryz.f142,zFl,go_sem,simprocAttr,zFj,↓zAD,↓zAC,↓zAB,↓zAA,hl8,hget8,hget9,h112,h113,h114,hall,htk8,List.all_append]
     repeat' (first|intro _|apply And.intro|(unfold dOk;kernel_rfl)|exact St.beq_refl _|(show altO _ _ _ _=true;kernel_rfl)|(show (_ || _)=true;kernel_rfl)|(show (_ && _)=true;kernel_rfl))
     all_goals exact fzEq rfl rfl
   | false=>
     rw[hwg]at h114
     rw[show validP ⟨re,caps,true⟩=1 from(if_neg hno).trans (if_pos (.inr (.inr hwg)))]
     simp +contextual (disch:=omega) only[Tryz.f142,zFl,go_sem,simprocAttr,zFj,↓zAD,↓zAC,↓zAB,↓zAA,hl8,hget8,hget9,h112,h113,h114,hall,htk8,List.all_append]
     repeat' (first|intro _|apply And.intro|(unfold dOk;kernel_rfl)|exact St.beq_refl _|(show altO _ _ _ _=true;kernel_rfl)|(show (_ || _)=true;kernel_rfl)|(show (_ && _)=true;kernel_rfl))
     all_goals exact fzEq rfl rfl
end
section
attribute [local go_sem] evAppend evBuild splice
open Go.Proofs Go.RowKit Go.IntWalk
set_option maxRecDepth 100000
set_option maxHeartbeats 8000000
theorem f137 (re:Re) (caps:Int) (t:List Int) (fuel:Int) (hw:re.wt≤1000000) (hv:validP ⟨re,caps,false⟩=0) (hl:t.length≤65536) (ht:∀ x∈t,0≤x∧x≤255) (hf:0≤fuel∧fuel≤1000000) (H:List MB) :
  call Tryz.prog pol1 117 [patAV ⟨re,caps,false⟩,.sl false (t.map I),I fuel] H=some (I 0,H):=by
 have h52:=f52 ⟨re,caps,false⟩ hw
 rw[hv]at h52
 have hpl:=zAx ⟨re,caps,false⟩
 refine zAS Tryz.func117 rfl rfl rfl rfl rfl rfl (fun _=>rfl) (by simp[AV.plainL,AV.plain,zAE];exact hpl) rfl ?_ H
 have hl8:=zAM re
 have hget9:(reC re++[I caps,.bool false])[9]?=some (.bool false):=by rw[List.getElem?_append_right (by omega),hl8];rfl
 have htk:List.take 10 (reC re++[I caps,.bool false])=reC re++[I caps,.bool false]:=List.take_of_length_le (by simp[zAM])
 have hall:=zAs re
 simp +contextual (disch:=omega) only[Tryz.f117,zNJ,go_sem,simprocAttr,zM5,↓zAD,↓zAC,↓zAB,↓zAA,h52,hl8,hget9,htk,hall,List.all_append]
 repeat' (first|intro _|apply And.intro|(unfold dOk;kernel_rfl)|exact St.beq_refl _|(show altO _ _ _ _=true;kernel_rfl)|(show (_ || _)=true;kernel_rfl)|(show (_ && _)=true;kernel_rfl))
 refine zAd (M:=(mskOf (pol1.mask 117) (pol1.gc 117) (pol1.acts 117) 0 10)) rfl t.length (fun i=>(⟨45,[(9,I i),(8,I 255),(2,I fuel),(1,.sl false (t.map I))],[.row 10 [patAV ⟨re,caps,false⟩] 0]⟩:St)) (fun _=>True) ?_ ?_ trivial _ (by first|rfl|(refine zA7 rfl (by rfl) (by rfl) (by rfl) ?_ ?_<;>simp[AV.underL,AV.under,MB.under,zAF,zAJ,zAE,zAG,zAH,zAI,-List.map_take]))
 ·intro i hi _
  obtain⟨x,hx⟩:∃ x,t[i]?=some x:=⟨_,List.getElem?_eq_getElem hi⟩
  have hb:=ht x (List.mem_of_getElem? hx)
  simp +contextual (disch:=omega) only[Tryz.f117,zNJ,go_sem,simprocAttr,zM5,↓zAD,↓zAC,↓zAB,↓zAA,hx]
  repeat' (first|intro _|apply And.intro|(unfold dOk;kernel_rfl)|exact St.beq_refl _|(show altO _ _ _ _=true;kernel_rfl)|(show (_ || _)=true;kernel_rfl)|(show (_ && _)=true;kernel_rfl))
  all_goals exact(by first|rfl|(simp[keepT,AV.underL,AV.under,MB.under,zAF,zAJ,zAK,zAE,zAG,zAH,zAI,-List.map_take,-List.map_replicate,-List.map_set, *];done))
 ·intro _
  simp +contextual (disch:=omega) only[Tryz.f117,zNJ,go_sem,simprocAttr,zM5,↓zAD,↓zAC,↓zAB,↓zAA]
  repeat' (first|intro _|apply And.intro|(unfold dOk;kernel_rfl)|exact St.beq_refl _|(show altO _ _ _ _=true;kernel_rfl)|(show (_ || _)=true;kernel_rfl)|(show (_ && _)=true;kernel_rfl))
  all_goals exact fzEq rfl rfl
abbrev bare (n:Nat):Caps:=List.replicate n (-1,-1)
theorem f139 (n:Nat) (hn:n≤1000) (H:List MB):call Tryz.prog pol1 119 [I n] H=some (capA (bare n),H):=by
 refine zAS Tryz.func119 rfl rfl rfl rfl rfl rfl (fun _=>rfl) (by simp[AV.plain,AV.plainL]) (show AV.plain (.sl false _)=true from zAG (bare n)) ?_ H
 simp +contextual (disch:=omega) only[Tryz.f119,zOK,go_sem,simprocAttr,zN2,↓zAD,↓zAC,↓zAB,↓zAA]
 refine zAd (M:=(mskOf (pol1.mask 119) (pol1.gc 119) (pol1.acts 119) 0 3)) rfl n (fun j=>(⟨15,[(4,I j),(3,.ms 0 2 j 0 j),(0,I n)],[.row 2 ((bare j).map spanAV) 0]⟩:St)) (fun _=>True) ?_ ?_ trivial _ (by first|rfl|(refine zA7 rfl (by rfl) (by rfl) (by rfl) ?_ ?_<;>simp[AV.underL,AV.under,MB.under,zAF,zAJ,zAE,zAG,zAH,zAI,-List.map_take]))
 ·intro j hj _
  have hl:(bare j).length=j:=by simp
  have hs:bare (j+1)=bare j++[(-1,-1)]:=List.replicate_succ'
  rw[hs]
  generalize bare j=cs at *
  have htk:=zDN (f:=spanAV) hl
  simp +contextual (disch:=omega) only[Tryz.f119,zOK,go_sem,simprocAttr,zN2,↓zAD,↓zAC,↓zAB,↓zAA,hl,htk]
  repeat' (first|intro _|apply And.intro|(unfold dOk;kernel_rfl)|exact St.beq_refl _|(show altO _ _ _ _=true;kernel_rfl)|(show (_ || _)=true;kernel_rfl)|(show (_ && _)=true;kernel_rfl))
  all_goals exact(by first|rfl|(refine zAa (n:=1) (m:=⟨some [4,3,0],some 1,[]⟩) rfl rfl ?_ ?_ ?_<;>first|rfl|(simp[keepT,AV.underL,AV.under,MB.under,zAF,zAJ,zAK,zAE,zAG,zAH,zAI,-List.map_take,-List.map_replicate,-List.map_set, *];done)|(simp[keepT,AV.underL,AV.under,MB.under,zAF,zAJ,zAK,zAE,zAG,zAH,zAI,-List.map_take,-List.map_replicate,-List.map_set, *];omega)))
 ·intro _
  have hl:(bare n).length=n:=by simp
  generalize bare n=cs at *
  simp +contextual (disch:=omega) only[Tryz.f119,zOK,go_sem,simprocAttr,zN2,↓zAD,↓zAC,↓zAB,↓zAA,hl]
  simp only[fz]
  rw[zDS (els:=cs.map spanAV) (k:=2) (z:=0) rfl (by simp[hl]) (zAG cs)]
  exact⟨_,rfl⟩
def symJ:List Int:=[97,97,97,98,98,99,97,98,10,32,65,200]
def textT (l:List Int) (n:Nat):List Int:=(List.range n).map fun(i:Nat)=>symJ.getD (pickI l i 12).toNat 0
theorem zGz (l:List Int) (n:Nat):textT l (n+1)=textT l n++[symJ.getD (pickI l n 12).toNat 0]:=by simp[textT,List.range_succ]
theorem zDU (l:List Int) (n:Nat):(textT l n).length=n:=by simp[textT]
theorem zMo (l:List Int) (n:Nat):∀ x∈textT l n,0≤x∧x≤255:=by
 intro x hx
 obtain⟨i,_,rfl⟩:=List.mem_map.1 hx
 have hp:=zGC (l:=l) (i:=i) (m:=12) (by omega)
 generalize (pickI l i 12)=k at hp
 have:k=0∨k=1∨k=2∨k=3∨k=4∨k=5∨k=6∨k=7∨k=8∨k=9∨k=10∨k=11:=by omega
 rcases this with rfl|rfl|rfl|rfl|rfl|rfl|rfl|rfl|rfl|rfl|rfl|rfl<;>decide
theorem f122 (l:List Int) (hl:∀ x∈l,In64 x) (H:List MB):call Tryz.prog pol1 30 [.sl false (l.map I),I 12] H=some (.sl false ((textT l (min l.length 12)).map I),H):=by
 refine zAS Tryz.func30 rfl rfl rfl rfl rfl rfl (fun _=>rfl) (by simp[AV.plain,AV.plainL,zAE]) (by simp[AV.plain,zAE]) ?_ H
 simp +contextual (disch:=omega) only[Tryz.f30,dd30,go_sem,simprocAttr,mu30,↓zAD,↓zAC,↓zAB,↓zAA]
 refine zAd (M:=(mskOf (pol1.mask 30) (pol1.gc 30) (pol1.acts 30) 0 3)) rfl (min l.length 12) (fun j=>(⟨28,[(6,I j),(5,.ms 0 1 j 0 j),(1,I 12),(0,.sl false (l.map I))],[.row 1 ((textT l j).map I) 0]⟩:St)) (fun _=>True) ?_ ?_ trivial _ (by first|rfl|(refine zA7 rfl (by rfl) (by rfl) (by rfl) ?_ ?_<;>simp[AV.underL,AV.under,MB.under,zAF,zAJ,zAE,zAG,zAH,zAI,-List.map_take]))
 ·intro j hj _
  have ht:=zDU l j
  have h57:=f57 l j 12 hl (by omega)
  have hp:=zGC (l:=l) (i:=j) (m:=12) (by omega)
  rw[zGz]
  generalize textT l j=cs at *
  have htk:=zDN (f:=I) ht
  generalize pickI l j 12=k at *
  obtain⟨v,hv⟩:∃ v,symJ[k.toNat]?=some v:=⟨_,List.getElem?_eq_getElem (by simp[symJ];omega)⟩
  rw[List.getD_eq_getElem?_getD,hv,Option.getD_some]
  obtain⟨k,rfl⟩:∃ n:Nat,k=n:=⟨k.toNat,by omega⟩
  have hv2:[I 97,I 97,I 97,I 98,I 98,I 99,I 97,I 98,I 10,I 32,I 65,I 200][k]?=some (I v):=by
   have:symJ.map I=[I 97,I 97,I 97,I 98,I 98,I 99,I 97,I 98,I 10,I 32,I 65,I 200]:=rfl
   rw[← this,List.getElem?_map]
   simpa using congrArg (Option.map I) hv
  have c1:j < l.length:=by omega
  have c2:j < 12:=by omega
  simp +contextual (disch:=omega) only[Tryz.f30,dd30,go_sem,simprocAttr,mu30,↓zAD,↓zAC,↓zAB,↓zAA,ht,htk,h57,hv2]
  repeat' (first|intro _|apply And.intro|(unfold dOk;kernel_rfl)|exact St.beq_refl _|(show altO _ _ _ _=true;kernel_rfl)|(show (_ || _)=true;kernel_rfl)|(show (_ && _)=true;kernel_rfl))
  all_goals exact(by first|rfl|(refine zAa (n:=1) (m:=⟨some [6,5,1,0],some 1,[]⟩) rfl rfl ?_ ?_ ?_<;>first|rfl|(simp[keepT,AV.underL,AV.under,MB.under,zAF,zAJ,zAK,zAE,zAG,zAH,zAI,-List.map_take,-List.map_replicate,-List.map_set, *];done)|(simp[keepT,AV.underL,AV.under,MB.under,zAF,zAJ,zAK,zAE,zAG,zAH,zAI,-List.map_take,-List.map_replicate,-List.map_set, *];omega)))
 ·intro _
  have ht:=zDU l (min l.length 12)
  generalize textT l (min l.length 12)=cs at *
  by_cases c:l.length < 12
  ·rw[Nat.min_eq_left (by omega)]at *
   simp +contextual (disch:=omega) only[Tryz.f30,dd30,go_sem,simprocAttr,mu30,↓zAD,↓zAC,↓zAB,↓zAA,ht]
   simp only[fz]
   rw[zDS (els:=cs.map I) (k:=1) (z:=0) rfl (by simp[ht]) (zAE cs)]
   exact⟨_,rfl⟩
  ·rw[Nat.min_eq_right (by omega)]at *
   by_cases c2:12=l.length
   ·simp +contextual (disch:=omega) only[Tryz.f30,dd30,go_sem,simprocAttr,mu30,↓zAD,↓zAC,↓zAB,↓zAA,ht]
    repeat' (first|intro _|apply And.intro|(unfold dOk;kernel_rfl)|exact St.beq_refl _|(show altO _ _ _ _=true;kernel_rfl)|(show (_ || _)=true;kernel_rfl)|(show (_ && _)=true;kernel_rfl))
    all_goals simp only[fz]
    all_goals rw[zDS (els:=cs.map I) (k:=1) (z:=0) rfl (by simp[ht]) (zAE cs)]
    all_goals exact⟨_,rfl⟩
   ·simp +contextual (disch:=omega) only[Tryz.f30,dd30,go_sem,simprocAttr,mu30,↓zAD,↓zAC,↓zAB,↓zAA,ht]
    repeat' (first|intro _|apply And.intro|(unfold dOk;kernel_rfl)|exact St.beq_refl _|(show altO _ _ _ _=true;kernel_rfl)|(show (_ || _)=true;kernel_rfl)|(show (_ && _)=true;kernel_rfl))
    all_goals simp only[fz]
    all_goals rw[zDS (els:=cs.map I) (k:=1) (z:=0) rfl (by simp[ht]) (zAE cs)]
    all_goals exact⟨_,rfl⟩
end
structure WS where
 seen:List Nat
 stops:List Nat
 tw:Bool
def nexts (i:Ins) (a:Nat):List Nat:=if i.op=2 then [i.x.toNat,i.y.toNat] else if i.op=3 then [i.x.toNat] else if i.op=4 then [a+1] else []
def stopB (i:Ins):Bool:=decide (i.op≠2) && (decide (i.op≠3) && decide (i.op≠4))
def stepS (w:WS) (i:Ins) (a:Nat):WS:=⟨w.seen++[a],if stopB i=true then w.stops++[a] else w.stops,false⟩
def vis (ins:List Ins):Nat→List Nat→WS→WS
 | _,[],w=>w
 | 0,_::_,w=>w
 | k+1,a::st,w=>if w.tw=true∨a∈w.seen then { w with tw:=true } else
   match ins[a]? with
   | none=>w
   | some i=>vis ins k (nexts i a++st) (stepS w i a)
def WS.Ok (w:WS) (n:Nat):Prop:=w.seen.Nodup∧∀ a∈w.seen,a < n
theorem zD1:∀ {n:Nat} {l:List Nat},l.Nodup→(∀ a∈l,a < n)→l.length≤n
 | 0,[],_,_=>Nat.le_refl _
 | 0,a::l,_,h=>absurd (h a (by simp)) (Nat.not_lt_zero _)
 | n+1,l,h1,h2=>by
   by_cases hm:n∈l
   ·have h3:=zD1 (n:=n) (l:=l.erase n) (h1.erase n) (fun a ha=>by
     have:=h2 a (List.mem_of_mem_erase ha)
     have hne:a≠n:=fun e=>by rw[e]at ha;exact((List.Nodup.mem_erase_iff h1).1 ha).1 rfl
     omega)
    rw[List.length_erase_of_mem hm]at h3
    omega
   ·have h3:=zD1 (n:=n) h1 (fun a ha=>by
     have:=h2 a ha
     have hne:a≠n:=fun e=>hm (e ▸ ha)
     omega)
    omega
theorem WS.Ok.len {w:WS} {n:Nat} (h:w.Ok n):w.seen.length≤n:=zD1 h.1 h.2
theorem WS.Ok.step {w:WS} {ins:List Ins} {a:Nat} {i:Ins} (h:w.Ok ins.length) (hn:a ∉ w.seen) (hi:ins[a]?=some i):(stepS w i a).Ok ins.length:=by
 refine⟨?_,fun b hb=>?_⟩
 ·show (w.seen++[a]).Nodup
  rw[List.nodup_append]
  exact⟨h.1,by simp,fun x hx y hy=>by simp at hy;subst hy;rintro rfl;exact hn hx⟩
 ·rcases List.mem_append.1 hb with hb|hb
  ·exact h.2 b hb
  ·simp at hb;subst hb;exact(List.getElem?_eq_some_iff.1 hi).1
theorem zKS (ins:List Ins):∀(k k':Nat) (s:List Nat) (w:WS),w.Ok ins.length→ins.length < k+w.seen.length→ins.length < k' + w.seen.length→vis ins k s w=vis ins k' s w
 | _,_,[],w,_,_,_=>by simp[vis]
 | 0,k',a::st,w,h,h1,_=>absurd h.len (by omega)
 | k+1,0,a::st,w,h,_,h1=>absurd h.len (by omega)
 | k+1,k' + 1,a::st,w,h,h1,h2=>by
   simp only[vis]
   split
   ·rfl
   ·rename_i hn
    cases hi:ins[a]? with
    | none=>rfl
    | some i=>
      have hs:(stepS w i a).seen.length=w.seen.length+1:=by simp[stepS]
      exact zKS ins k k' _ _ (h.step (fun e=>hn (.inr e)) hi) (by rw[hs];omega) (by rw[hs];omega)
def visF (ins:List Ins) (s:List Nat) (w:WS):WS:=vis ins (ins.length+1) s w
theorem zFo (ins:List Ins) (w:WS):visF ins [] w=w:=by simp[visF,vis]
theorem zCl {ins:List Ins} {a:Nat} {st:List Nat} {w:WS} (h:w.tw=true∨a∈w.seen):visF ins (a::st) w = { w with tw:=true }:=by
 simp[visF,vis,h]
theorem zDT {ins:List Ins} {a:Nat} {st:List Nat} {w:WS} {i:Ins} (hw:w.Ok ins.length) (h1:w.tw=false) (h2:a ∉ w.seen) (hi:ins[a]?=some i):visF ins (a::st) w=visF ins (nexts i a++st) (stepS w i a):=by
 have hs:(stepS w i a).seen.length=w.seen.length+1:=by simp[stepS]
 unfold visF
 rw[show vis ins (ins.length+1) (a::st) w=vis ins ins.length (nexts i a++st) (stepS w i a) by simp[vis,h1,h2,hi]]
 exact zKS ins _ _ _ _ (hw.step h2 hi) (by rw[hs];omega) (by rw[hs];omega)
def In1 (ins:List Ins):Prop:=∀ n i,ins[n]?=some i→∀ b∈nexts i n,b < ins.length
theorem zFp {ins:List Ins} (hin:In1 ins):∀(k:Nat) (s t:List Nat) (w:WS),w.Ok ins.length→ins.length < k+w.seen.length→(∀ a∈s,a < ins.length) →
  visF ins (s++t) w=visF ins t (visF ins s w)∧(visF ins s w).Ok ins.length∧(w.tw=false→w.stops <+: (visF ins s w).stops)
 | 0,s,t,w,h,h1,_=>absurd h.len (by omega)
 | k+1,[],t,w,h,_,_=>by rw[zFo];exact⟨rfl,h,fun _=>List.prefix_refl _⟩
 | k+1,a::s,t,w,h,h1,hs=>by
   by_cases hc:w.tw=true∨a∈w.seen
   ·rw[zCl hc,List.cons_append,zCl hc]
    refine⟨?_,h,fun _=>List.prefix_refl _⟩
    cases t with
    | nil=>rw[zFo]
    | cons b t=>rw[zCl (.inl rfl)]
   ·have h2:w.tw=false:=by cases hq:w.tw with
     | false=>rfl
     | true=>exact absurd (.inl hq) hc
    have h3:a ∉ w.seen:=fun e=>hc (.inr e)
    obtain⟨i,hi⟩:∃ i,ins[a]?=some i:=⟨_,List.getElem?_eq_getElem (hs a (by simp))⟩
    rw[zDT h h2 h3 hi,List.cons_append,zDT h h2 h3 hi]
    have hl:(stepS w i a).seen.length=w.seen.length+1:=by simp[stepS]
    obtain⟨e1,e2,e3⟩:=zFp hin k (nexts i a++s) t (stepS w i a) (h.step h3 hi) (by rw[hl];omega) (fun b hb=>by
     rcases List.mem_append.1 hb with hb|hb
     ·exact hin a i hi b hb
     ·exact hs b (List.mem_cons_of_mem _ hb))
    refine⟨by rw[← e1,List.append_assoc],e2,fun _=>?_⟩
    refine List.IsPrefix.trans ?_ (e3 rfl)
    simp only[stepS]
    split
    ·exact List.prefix_append _ _
    ·exact List.prefix_refl _
theorem zLW {ins:List Ins} (hin:In1 ins) {s:List Nat} {w:WS} (h:w.Ok ins.length) (hs:∀ a∈s,a < ins.length):(visF ins s w).Ok ins.length:=
 (zFp hin (ins.length+1) s [] w h (by omega) hs).2.1
def w0S:WS:=⟨[],[],false⟩
theorem zKR (n:Nat):w0S.Ok n:=⟨List.nodup_nil,fun a h=>by simp[w0S]at h⟩
def fromS (ins:List Ins) (st:Nat):WS:=visF ins [st] w0S
end Go.Ev
namespace Go.Ev
attribute [local go_sem] evBin AV.cells List.length_append List.map_append tySzE List.head?_drop Nat.mul_one zAP zAU zAN zAQ zAR zAX
section
attribute [local go_sem] evAppend evBuild splice
open Go.Proofs Go.RowKit Go.IntWalk
set_option maxRecDepth 100000
set_option maxHeartbeats 8000000
theorem f140 (a:Int) (H:List MB):call Tryz.prog pol1 140 [I a] H=some (.bool false,H):=by
 refine zAS Tryz.func140 rfl rfl rfl rfl rfl rfl (fun _=>rfl) (by simp[AV.plain,AV.plainL,zAE,zAG,zAH,zAI]) (by simp[AV.plain,AV.plainL,zAE,zAG,zAH,zAI]) ?_ H
 simp +contextual (disch:=omega) only[Tryz.f140,dd140,go_sem,simprocAttr,mu140,↓zAD,↓zAC,↓zAB,↓zAA]
 exact fzEq rfl (by simp)
theorem f108 (a b:Int) (H:List MB):call Tryz.prog pol1 108 [I a,I b] H=some (I (cmpI a b),H):=by
 have h1:=f140 a
 have h2:=f140 b
 refine zAS Tryz.func108 rfl rfl rfl rfl rfl rfl (fun _=>rfl) (by simp[AV.plain,AV.plainL,zAE,zAG,zAH,zAI]) (by simp[AV.plain,AV.plainL,zAE,zAG,zAH,zAI]) ?_ H
 unfold cmpI
 simp +contextual (disch:=omega) only[Tryz.f108,dd108,go_sem,simprocAttr,mu108,↓zAD,↓zAC,↓zAB,↓zAA,h1,h2]
 exact⟨fun h=>fzEq rfl rfl,fun h=>⟨fun h=>fzEq rfl rfl,fun h=>fzEq rfl rfl⟩⟩
theorem f107 (p q:Int×Int) (H:List MB):call Tryz.prog pol1 107 [spanAV p,spanAV q] H=some (I (cmpI p.1 q.1),H):=by
 have h1:=f108 p.1 q.1
 refine zAS Tryz.func107 rfl rfl rfl rfl rfl rfl (fun _=>rfl) (by simp[AV.plain,AV.plainL,zAE,zAG,zAH,zAI]) (by simp[AV.plain,AV.plainL,zAE,zAG,zAH,zAI]) ?_ H
 simp +contextual (disch:=omega) only[Tryz.f107,dd107,go_sem,simprocAttr,mu107,↓zAD,↓zAC,↓zAB,↓zAA,h1]
 exact fzEq rfl rfl
theorem f74 (i:Ins) (H:List MB):call Tryz.prog pol1 74 [insAV i] H=some (.bool (i.op == 5),H):=by
 refine zAS Tryz.func74 rfl rfl rfl rfl rfl rfl (fun _=>rfl) (by simp[AV.plain,AV.plainL,zAE,zAG,zAH,zAI]) (by simp[AV.plain,AV.plainL,zAE,zAG,zAH,zAI]) ?_ H
 simp +contextual (disch:=omega) only[Tryz.f74,dd74,go_sem,simprocAttr,mu74,↓zAD,↓zAC,↓zAB,↓zAA]
 exact fzEq rfl rfl
theorem f77 (n:Int) (H:List MB):call Tryz.prog pol1 77 [I n] H=some (.bool true,H):=by
 refine zAS Tryz.func77 rfl rfl rfl rfl rfl rfl (fun _=>rfl) (by simp[AV.plain,AV.plainL,zAE,zAG,zAH,zAI]) (by simp[AV.plain,AV.plainL,zAE,zAG,zAH,zAI]) ?_ H
 simp +contextual (disch:=omega) only[Tryz.f77,dd77,go_sem,simprocAttr,mu77,↓zAD,↓zAC,↓zAB,↓zAA]
 exact fzEq rfl rfl
theorem f104 (l:List Ins) (hl:l.length≤1000000):∃ n:Int,(n ≥ 0↔l.any (fun i=>i.op == 5)=true)∧∀ H,call Tryz.prog pol1 104 [.sl false (l.map insAV),.clo 74 []] H=some (I n,H):=by
 have hx:∃ r:AV,(∃ n:Int,r=I n∧(n ≥ 0↔l.any (fun i=>i.op == 5)=true))∧∀ H,call Tryz.prog pol1 104 [.sl false (l.map insAV),.clo 74 []] H=some (r,H):=by
  refine zCX Tryz.func104 rfl rfl rfl rfl rfl rfl (fun _=>rfl) (by simp[AV.plain,AV.plainL,zAE,zAG,zAH,zAI]) ?_ ?_
  ·rintro r ⟨n,rfl,_⟩;rfl
  ·simp +contextual (disch:=omega) only[Tryz.f104,zNL,go_sem,simprocAttr,zM7,↓zAD,↓zAC,↓zAB,↓zAA]
   refine zAd (M:=(mskOf (pol1.mask 104) (pol1.gc 104) (pol1.acts 104) 0 2)) rfl l.length (fun i=>(⟨19,[(8,I i),(7,I l.length),(1,.clo 74 []),(0,.sl false (l.map insAV))],[]⟩:St)) (fun i=>∀ k p,k < i→l[k]?=some p→p.op≠5) ?_ ?_ (fun k p h=>by omega) _ (by first|rfl|(refine zA7 rfl (by rfl) (by rfl) (by rfl) ?_ ?_<;>simp[AV.underL,AV.under,MB.under,zAF,zAJ,zAE,zAG,zAH,zAI,-List.map_take]))
   ·intro i hi hg
    obtain⟨p,hp⟩:∃ p,l[i]?=some p:=⟨_,List.getElem?_eq_getElem hi⟩
    have hf:=f74 p
    have hp':(l.map insAV)[i]?=some (insAV p):=by simp[hp]
    by_cases h5:p.op=5
    ·have:l.any (fun i=>i.op == 5)=true:=List.any_eq_true.2 ⟨p,List.mem_of_getElem? hp,by simp[h5]⟩
     rw[h5]at hf
     simp +contextual (disch:=omega) only[Tryz.f104,zNL,go_sem,simprocAttr,zM7,↓zAD,↓zAC,↓zAB,↓zAA,hp',hf]
     exact⟨_,⟨_,rfl,by simp[this]⟩,_,zAf _ rfl⟩
    ·have h5':(p.op == 5)=false:=by simp[h5]
     rw[h5']at hf
     simp +contextual (disch:=omega) only[Tryz.f104,zNL,go_sem,simprocAttr,zM7,↓zAD,↓zAC,↓zAB,↓zAA,hp',hf]
     refine⟨fun k q hk hq=>?_,(by first|rfl|(refine zA7 rfl (by rfl) (by rfl) (by rfl) ?_ ?_<;>simp[AV.underL,AV.under,MB.under,zAF,zAJ,zAE,zAG,zAH,zAI,-List.map_take]))⟩
     rcases Nat.lt_succ_iff_lt_or_eq.1 hk with h|rfl
     ·exact hg k q h hq
     ·rw[hp]at hq;cases hq;exact h5
   ·intro hg
    have:l.any (fun i=>i.op == 5)=false:=by
     rw[List.any_eq_false]
     intro p hp
     obtain⟨k,hk,e⟩:=List.getElem_of_mem hp
     have:=hg k p hk (by rw[← e];exact List.getElem?_eq_getElem hk)
     simp[this]
    simp +contextual (disch:=omega) only[Tryz.f104,zNL,go_sem,simprocAttr,zM7,↓zAD,↓zAC,↓zAB,↓zAA]
    exact⟨_,⟨_,rfl,by simp[this]⟩,_,zAf _ rfl⟩
 obtain⟨r,⟨n,rfl,h1⟩,h2⟩:=hx
 exact⟨n,h1,h2⟩
theorem f73 (l:List Ins) (hl:l.length≤1000000) (H:List MB):call Tryz.prog pol1 73 [.sl false (l.map insAV),.clo 74 []] H=some (.bool (l.any (fun i=>i.op == 5)),H):=by
 obtain⟨n,h1,h2⟩:=f104 l hl
 refine zAS Tryz.func73 rfl rfl rfl rfl rfl rfl (fun _=>rfl) (by simp[AV.plain,AV.plainL,zAH]) (by simp[AV.plain]) ?_ H
 simp +contextual (disch:=omega) only[Tryz.f73,dd73,go_sem,simprocAttr,mu73,↓zAD,↓zAC,↓zAB,↓zAA,h2]
 refine fzEq rfl ?_
 cases hb:l.any (fun i=>i.op == 5) with
 | true=>simp[h1.2 hb]
 | false=>
   have:¬ n ≥ 0:=fun e=>by rw[h1.1 e]at hb;cases hb
   simp[this]
def acceptG (g:Prg):Int:=if validG g≠0 then validG g else if g.ins.any (fun i=>i.op == 5) then 10 else 0
theorem f35 (g:Prg) (hb:PrgB g) (H:List MB):call Tryz.prog pol1 35 [prgAV g] H=some (I (acceptG g),H):=by
 have hv:=f30 g hb
 obtain⟨hl,hs⟩:=hb
 have hc:=f73 g.ins hl
 refine zAS Tryz.func35 rfl rfl rfl rfl rfl rfl (fun _=>rfl) (by simp[AV.plain,AV.plainL,zAE,zAG,zAH,zAI]) (by simp[AV.plain,AV.plainL,zAE,zAG,zAH,zAI]) ?_ H
 unfold acceptG
 by_cases h1:validG g=0
 ·rw[h1]at hv
  rw[if_neg (by simp[h1])]
  cases hb:g.ins.any (fun i=>i.op == 5)<;>rw[hb]at hc
  ·simp +contextual (disch:=omega) only[Tryz.f35,dd35,go_sem,simprocAttr,mu35,↓zAD,↓zAC,↓zAB,↓zAA,hv,hc]
   exact fzEq rfl rfl
  ·simp +contextual (disch:=omega) only[Tryz.f35,dd35,go_sem,simprocAttr,mu35,↓zAD,↓zAC,↓zAB,↓zAA,hv,hc]
   exact fzEq rfl rfl
 ·rw[if_pos h1]
  simp +contextual (disch:=omega) only[Tryz.f35,dd35,go_sem,simprocAttr,mu35,↓zAD,↓zAC,↓zAB,↓zAA,hv]
  exact fzEq rfl rfl
end
section
attribute [local go_sem] evAppend evBuild splice
open Go.Proofs Go.RowKit Go.IntWalk
set_option maxRecDepth 100000
set_option maxHeartbeats 8000000
abbrev NV (n:Nat):AV:=I (n:Int)
theorem zFv (l:List Nat):AV.plainL (l.map NV)=true:=by
 induction l with
 | nil=>rfl
 | cons a l ih=>simp[AV.plainL,ih];rfl
theorem zBi (l:List Bool):AV.plainL (l.map AV.bool)=true:=by
 induction l with
 | nil=>rfl
 | cons a l ih=>simp[AV.plainL,ih];rfl
theorem zEf (n:Nat):∀ K:List MB,keptOk n K K=true
 | []=>rfl
 | x::K=>by simp[keptOk,MB.beq_refl,zEf n K]
theorem f76 (l:List Ins) (st:Nat) (f:Nat) (cs:List AV) (H:List MB):call Tryz.prog pol1 76 [.sl false (l.map insAV),NV st,.clo f cs] H =
  some (.clo 111 [.rf (H.length+1) 1 0 0,.rf (H.length+2) 1 0 0,.rf H.length 1 0 0],H++[.row 1 [.sl false (l.map insAV)] 0,.row 1 [NV st] 0,.row 1 [.clo f cs] 0]):=by
 refine zAY (pol:=pol1) Tryz.func76 rfl rfl rfl rfl (zAO H _ 0 (by
  have h1:AV.plain (.sl false (l.map insAV))=true:=by simp[AV.plain,zAH]
  have h2:pol1.byref 76 2=true:=by kernel_rfl
  have h3:AV.plain (NV st)=true:=rfl
  simp[mixOk,h1,h2,h3])) ?_
 simp +contextual (disch:=omega) only[Tryz.f76,dd76,go_sem,simprocAttr,mu76,↓zAD,↓zAC,↓zAB,↓zAA,List.append_assoc,List.length_append]
 rfl
abbrev enH (b0:MB) (came:List Bool) (fk:Bool) (N:Nat) (K:List MB):List MB:=b0::.row 1 (came.map AV.bool) 0::.row 1 [.ms 1 1 N 0 N] 0::.row 1 [.bool fk] 0::K
theorem f105 (b0:MB) (came:List Bool) (fk:Bool) (a:Nat) (c:Bool) (K:List MB) (ha:came[a]?=some c) :
  call Tryz.prog pol1 105 [NV a,.rf 3 1 0 0,.rf 2 1 0 0] (enH b0 came fk came.length K)=some (.bool (!(fk || c)),enH b0 (came.set a true) (fk || c) came.length K):=by
 have hlt:a < came.length:=(List.getElem?_eq_some_iff.1 ha).1
 have hg:(came.map AV.bool)[a]?=some (.bool c):=by simp[ha]
 have hset:((came.map AV.bool).set a (.bool true))=(came.set a true).map AV.bool:=by rw[List.map_set]
 have hp:=fun n=>zAF n _ (zBi (came.set a true))
 refine zAY (pol:=pol1) Tryz.func105 rfl rfl rfl rfl (zAO _ _ 0 rfl) ?_
 cases fk
 ·simp +contextual (disch:=omega) only[Tryz.f105,dd105,go_sem,simprocAttr,zOf,↓zAD,↓zAC,↓zAB,↓zAA,hg,hset]
  refine zBB rfl rfl rfl ?_ ?_
  ·simp[-List.map_set,keptOk,MB.beq_refl,MB.under,AV.underL,AV.under,hp,zEf]
  ·simp
 ·simp +contextual (disch:=omega) only[Tryz.f105,dd105,go_sem,simprocAttr,zOf,↓zAD,↓zAC,↓zAB,↓zAA,hg,hset]
  refine zBB rfl rfl rfl ?_ ?_
  ·simp[-List.map_set,keptOk,MB.beq_refl,MB.under,AV.underL,AV.under,hp,zEf]
  ·simp
abbrev Stk:=List (Nat×List Bool)
abbrev wayAV (w:Nat×List Bool):AV:=.agg (NV w.1::w.2.map AV.bool)
def runS {σ:Type} (ins:List Ins) (en:σ→Nat→Bool×σ) (yi:σ→Nat→List Bool→Bool×σ):Nat→Stk→σ→Option σ
 | _,[],s=>some s
 | 0,_::_,_=>none
 | k+1,(a,m)::st,s=>
   match (en s a).1 with
   | false=>some (en s a).2
   | true=>
     match ins[a]? with
     | none=>none
     | some i=>
       if i.op=2 then runS ins en yi k ((i.x.toNat,m)::(i.y.toNat,m)::st) (en s a).2
       else if i.op=3 then runS ins en yi k ((i.x.toNat,m)::st) (en s a).2
       else if i.op=4 then runS ins en yi k ((a+1,m.set i.n.toNat true)::st) (en s a).2
       else if i.op=1∨i.op=0 then
        match (yi (en s a).2 a m).1 with
        | true=>runS ins en yi k st (yi (en s a).2 a m).2
        | false=>some (yi (en s a).2 a m).2
       else runS ins en yi k st (en s a).2
def LeadsR (ins:List Ins):Prop:=∀ n i,ins[n]?=some i→(i.op=2∨i.op=3→0≤i.x∧i.x.toNat < ins.length)∧(i.op=2→0≤i.y∧i.y.toNat < ins.length)∧(i.op=4→n+1 < ins.length∧0≤i.n∧i.n < 18)
def StkOk (ins:List Ins) (st:Stk):Prop:=∀ w∈st,w.1 < ins.length∧w.2.length=18
abbrev m0S:List Bool:=List.replicate 18 false
theorem zON (n:Int):evBuild Tryz.prog 195 [(0,I n)]=some (.agg (I n::m0S.map AV.bool)):=by
 simp[evBuild,zNd,fillC,splice,AV.cells,AV.ok]
theorem zIT (n:Int) (m:List Bool) (hm:m.length=18):evBuild Tryz.prog 195 [(0,I n),(1,.agg (m.map AV.bool))]=some (.agg (I n::m.map AV.bool)):=by
 have h1:(m.map AV.bool).all AV.ok=true:=by simp[AV.ok]
 have h2:∀ z:List AV,z.length=18→(I n::z).take 1++(m.map AV.bool++(I n::z).drop (1+(m.map AV.bool).length))=I n::m.map AV.bool:=by
  intro z hz
  simp[hm,hz]
 simp[evBuild,zNd,fillC,splice,AV.cells,AV.ok,hm]
theorem zHB (n:Nat):∀(xs ys:List MB),(∀ y∈ys.take xs.length,MB.under n y=true)→keptOk n xs ys=true
 | [],ys,_=>by cases ys<;>rfl
 | x::xs,[],_=>rfl
 | x::xs,y::ys,h=>by
   simp only[keptOk,h y (by simp),Bool.true_or,Bool.true_and]
   exact zHB n xs ys (fun z hz=>h z (by simp[hz]))
theorem zJS {H:List MB} {sT xT e k by_ id:Nat} {ze x:AV} {xs js ys:List AV} (he:tyElem Tryz.prog sT=some e) (hxT:tyNotInt Tryz.prog xT=true) (hk:tySz Tryz.prog e=some k) (hby:tyBytes Tryz.prog e=some by_) (hze:tyZero Tryz.prog e=some ze) (hzl:ze.cells.length=k) (hk0:0 < k)
  (hs:srcElems Tryz.prog H e x=some ys) (hw:ys.all (fun y=>decide (y.cells.length=k) && y.cells.all AV.ok)=true) (hy:ys≠[]) (hr:getRow H id=some (k,xs++js,0)) (hroom:roomFor (xs.length+ys.length) by_=true) :
  evAppend Tryz.prog H sT xT (.ms id k (xs.length+js.length) 0 xs.length) x =
   some (.ms id k (xs.length+ys.length+(js.drop ys.length).length) 0 (xs.length+ys.length),H.set id (.row k (xs++(ys++js.drop ys.length)) 0)):=by
 unfold evAppend
 simp only[he,hxT,hk,hby,hze,hs]
 rw[if_pos ⟨hw,hk0,hzl⟩]
 simp only[hr]
 rw[if_pos ⟨by simp,trivial,trivial,by omega⟩]
 cases ys with
 | nil=>exact absurd rfl hy
 | cons y ys=>
   rw[if_pos ⟨by omega,hroom⟩]
   have ht:(xs++js).take (0+xs.length)=xs:=by simp
   rw[ht]
   by_cases hc:0+xs.length+(y::ys).length≤xs.length+js.length
   ·rw[if_pos hc]
    have h1:(xs++js).drop (0+xs.length+(y::ys).length)=js.drop (y::ys).length:=by
     rw[Nat.zero_add,List.drop_append]
     simp
    rw[h1]
    have h2:xs.length+(y::ys).length+(js.drop (y::ys).length).length=xs.length+js.length:=by
     simp only[List.length_drop];omega
    rw[h2]
   ·rw[if_neg hc]
    have h1:js.drop (y::ys).length=[]:=List.drop_eq_nil_of_le (by omega)
    rw[h1]
    simp
end
section
open Go.Proofs Go.RowKit Go.IntWalk
set_option maxRecDepth 100000
set_option maxHeartbeats 16000000
theorem zET (m:List Bool) (h:m.length=18):(m.map AV.bool).take 18=m.map AV.bool:=List.take_of_length_le (by simp[h])
theorem zBR (m:List Bool):(m.map AV.bool).all AV.ok=true:=by simp[AV.ok]
theorem zN4:m0S.length=18:=rfl
theorem splM (x:AV) (m:List Bool) (n:Nat) (hn:n < m.length):splice (x::m.map AV.bool) (1+n) [.bool true]=x::(m.set n true).map AV.bool:=by
 unfold splice
 rw[List.map_set,List.set_eq_take_append_cons_drop,if_pos (by simpa using hn)]
 simp only[List.length_cons,List.length_nil]
 rw[show 1+n=n+1 by omega,List.take_succ_cons,show n+1+(0+1)=(n+1)+1 by omega,List.drop_succ_cons]
 rfl
theorem spl19 (c0 c1 c2 c3 c4 c5 c6 c7 c8 c9 c10 c11 c12 c13 c14 c15 c16 c17 c18 x:AV) (m:List Bool) (hm:m.length=18):splice [c0,c1,c2,c3,c4,c5,c6,c7,c8,c9,c10,c11,c12,c13,c14,c15,c16,c17,c18] 0 (x::m.map AV.bool)=x::m.map AV.bool:=by
 simp[splice,hm]
theorem spl5 (a b c d e a' b' c' d' e':AV):splice [a,b,c,d,e] 0 [a',b',c',d',e']=[a',b',c',d',e']:=rfl
theorem zGA (w:Nat×List Bool) (n:Nat):AV.under n (wayAV w)=true:=by
 have:=zAF n _ (zBi w.2)
 simp[AV.under,AV.underL,this]
theorem zK5 (n:Nat) (l:List (Nat×List Bool)):AV.underL n (l.map wayAV)=true:=by
 induction l with
 | nil=>rfl
 | cons a l ih=>simp only[List.map_cons,AV.underL,zGA a n,ih,Bool.and_self]
abbrev wayI (w:Int×List Bool):AV:=.agg (I w.1::w.2.map AV.bool)
theorem zLy {N n:Nat} {A G:List MB} {E:List AV} {t t':Tm} (hN:A.length=N) (hu:A.all (MB.under (N+1))=true) (hk:keepT (some [5,3,2,0]) t=t') (ht:AV.underL (N+1) (t'.map (·.2))=true) (hE:AV.underL (N+1) E=true) :
  prep ⟨some [5,3,2,0],some (N+1),[]⟩ ⟨n,t,A++(.row 19 E 0::G)⟩=⟨n,t',A++[.row 19 E 0]⟩:=by
 refine zA7 rfl rfl hk ?_ ht ?_
 ·rw[List.take_append,hN,List.take_of_length_le (by omega)]
  simp[Nat.add_sub_cancel_left]
 ·simp[hu,MB.under,hE]
theorem f111 {σ:Type} (hp:σ→List MB) (Pr:Nat→σ→Prop) (ins:List Ins) (N iY iS iE iI fe st0:Nat) (cs:List AV) (en:σ→Nat→Bool×σ) (yi:σ→Nat→List Bool→Bool×σ)
  (hN:∀ s,(hp s).length=N) (hu:∀ s n,N≤n→(hp s).all (MB.under n)=true) (hfe:(fe=1000000000)=False) (hl:ins.length≤10000) (hst:st0 < ins.length) (hw:LeadsR ins)
  (hS:∀ s,(hp s)[iS]?=some (.row 1 [NV st0] 0)) (hE:∀ s,(hp s)[iE]?=some (.row 1 [.clo fe cs] 0)) (hI:∀ s,(hp s)[iI]?=some (.row 1 [.sl false (ins.map insAV)] 0)) (hY:iY < N)
  (he:∀ f s a K,Pr (f+1) s→a < ins.length→call Tryz.prog pol1 fe (NV a::cs) (hp s++K)=some (.bool (en s a).1,hp (en s a).2++K))
  (hy:∀ f s a m K,Pr (f+1) s→a < ins.length→m.length=18→∃ G,call Tryz.prog pol1 1000000000 [.yld iY,NV a,.agg (m.map AV.bool)] (hp s++K)=some (.bool (yi s a m).1,hp (yi s a m).2++(K++G)))
  (hPe:∀ f s a,Pr (f+1) s→a < ins.length→Pr (f+1) (en s a).2) (hPy:∀ f s a m,Pr (f+1) s→m.length=18→(yi s a m).1=true→Pr f (yi s a m).2) (hPm:∀ f s,Pr (f+1) s→Pr f s) :
  ∀ k s s',Pr k s→k≤100000→runS ins en yi k [(st0,m0S)] s=some s'→call Tryz.prog pol1 111 [.yld iY,.rf iS 1 0 0,.rf iE 1 0 0,.rf iI 1 0 0] (hp s)=some (.tup [],hp s'):=by
 intro k s s' hP hk hrun
 have gS:∀ s B,(hp s++B)[iS]?=some (.row 1 [NV st0] 0):=fun s B=>by rw[List.getElem?_append_left (List.getElem?_eq_some_iff.1 (hS s)).1];exact hS s
 have gE:∀ s B,(hp s++B)[iE]?=some (.row 1 [.clo fe cs] 0):=fun s B=>by rw[List.getElem?_append_left (List.getElem?_eq_some_iff.1 (hE s)).1];exact hE s
 have gI:∀ s B,(hp s++B)[iI]?=some (.row 1 [.sl false (ins.map insAV)] 0):=fun s B=>by rw[List.getElem?_append_left (List.getElem?_eq_some_iff.1 (hI s)).1];exact hI s
 have g0:∀ s B,(hp s++B)[N]?=B[0]?:=fun s B=>by rw[List.getElem?_append_right (by rw[hN];exact Nat.le_refl _),hN,Nat.sub_self]
 have g1:∀ s B,(hp s++B)[N+1]?=B[1]?:=fun s B=>by rw[List.getElem?_append_right (by rw[hN];omega),hN];congr 1;omega
 have g2:∀ s B,(hp s++B)[N+2]?=B[2]?:=fun s B=>by rw[List.getElem?_append_right (by rw[hN];omega),hN];congr 1;omega
 have z1:∀ s B v,(hp s++B).set (N+1) v=hp s++B.set 1 v:=fun s B v=>by rw[List.set_append_right _ _ (by rw[hN];omega),hN];congr 2;omega
 have z2:∀ s B v,(hp s++B).set (N+2) v=hp s++B.set 2 v:=fun s B v=>by rw[List.set_append_right _ _ (by rw[hN];omega),hN];congr 2;omega
 have hlen:∀ s,(hp s).length=N:=hN
 have gS0:=hS s
 have bI:iI < N:=by rw[← hN s];exact(List.getElem?_eq_some_iff.1 (hI s)).1
 have bE:iE < N:=by rw[← hN s];exact(List.getElem?_eq_some_iff.1 (hE s)).1
 have hend:∀ s1 G,retPol pol1 111 (hp s) (.tup []) (hp s1++G)=some (.tup [],hp s1):=fun s1 G=>by
  refine zBB rfl rfl rfl (zHB _ _ _ fun y hy=>?_) (by rw[hN,← hN s1];exact List.take_left' rfl)
  rw[hN,← hN s1,List.take_left' rfl]at hy
  have:=List.all_eq_true.1 (hu s1 _ (Nat.le_refl _)) y hy
  rwa [hN]
 refine zAY (pol:=pol1) Tryz.func111 rfl rfl rfl rfl (zAO _ _ 0 rfl) ?_
 have b1:=zON (st0:Int)
 simp +contextual (disch:=omega) only[Tryz.f111,zGd,go_sem,simprocAttr,evAppend,splice,zGH,↓zAD,↓zAC,↓zAB,↓zAA,gS0,b1,hlen,zN4,zBR]
 have fin:∀(stk2:Stk) (js2 E2:List AV) (s3:σ) (G:List MB) (t:Tm),E2=stk2.reverse.map wayAV++js2→(∀ n,AV.underL n js2=true) →
   keepT (some [5,3,2,0]) t=[(5,.ms N 19 (stk2.length+js2.length) 0 stk2.length),(3,.rf iI 1 0 0),(2,.rf iE 1 0 0),(0,.yld iY)] →
   prep ⟨some [5,3,2,0],some (N+1),[]⟩ ⟨87,t,hp s3++(.row 19 E2 0::G)⟩=⟨87,[(5,.ms N 19 (stk2.length+js2.length) 0 stk2.length),(3,.rf iI 1 0 0),(2,.rf iE 1 0 0),(0,.yld iY)],hp s3++[.row 19 (stk2.reverse.map wayAV++js2) 0]⟩:=by
  intro stk2 js2 E2 s3 G t hE2 hj ht
  subst hE2
  exact zLy (hN s3) (hu s3 _ (Nat.le_succ _)) ht (by simp[AV.underL,AV.under];omega) (by rw[zAK,zK5,hj];rfl)
 have hdr:∀(js:List AV) (k:Nat),(∀ n,AV.underL n js=true)→∀ n,AV.underL n (js.drop k)=true:=fun js k h n=>by
  rw[zAe]
  intro c hc
  exact(zAe n js).1 (h n) c (List.mem_of_mem_drop hc)
 refine zFD (σ:=(Nat×List AV)×(Stk×σ)) (M:=⟨some [5,3,2,0],some (N+1),[]⟩) (by rfl) (fun x=>(⟨87,[(5,.ms N 19 (x.2.1.length+x.1.2.length) 0 x.2.1.length),(3,.rf iI 1 0 0),(2,.rf iE 1 0 0),(0,.yld iY)],hp x.2.2++[.row 19 (x.2.1.reverse.map wayAV++x.1.2) 0]⟩:St))
  (fun x=>StkOk ins x.2.1∧Pr x.1.1 x.2.2∧(∀ n,AV.underL n x.1.2=true)∧x.2.1.length+x.1.1≤200002∧runS ins en yi x.1.1 x.2.1 x.2.2=some s') (fun x=>x.1.1) ((k,[]),([(st0,m0S)],s)) ?_ ?_ _ ?_
 ·rintro⟨⟨f,js⟩,stk,s1⟩ ⟨hk1,hP1,hju,hf,hr⟩
  simp only at hk1 hP1 hju hf hr ⊢
  cases stk with
  | nil=>
    have e:s1=s':=by cases f<;>simpa [runS] using hr
    subst e
    simp +contextual (disch:=omega) only[Tryz.f111,zGd,go_sem,simprocAttr,evAppend,evBuild,splice,zGH,↓zAD,↓zAC,↓zAB,↓zAA,hlen]
    exact hend _ _
  | cons w rest=>
    obtain⟨a,m⟩:=w
    obtain⟨ha,hm⟩:=hk1 (a,m) (List.mem_cons_self ..)
    simp only at ha hm
    have hA:(rest.reverse.map wayAV).length=rest.length:=by simp
    simp only[List.reverse_cons,List.map_append,List.map_cons,List.map_nil,List.append_assoc,List.cons_append,List.nil_append,List.length_cons]
    generalize hAe:rest.reverse.map wayAV=A at hA
    have hget:(A++wayAV (a,m)::js)[rest.length]?=some (wayAV (a,m)):=by rw[List.getElem?_append_right (by omega),hA,Nat.sub_self];rfl
    have hw1:IntKind.i64.wrap (((rest.length+1:Nat):Int) - 1)=(rest.length:Nat):=by
     simp only[List.length_cons]at hf
     rw[i64_in]<;>omega
    have hw2:((rest.length:Int) < ((rest.length+1:Nat):Int))=True:=eq_true (by omega)
    have hw3:((rest.length:Int)≤((rest.length+1:Nat):Int))=True:=eq_true (by omega)
    have hw4:((0:Int) < ((rest.length+1:Nat):Int))=True:=eq_true (by omega)
    have hAl:(A.length+(js.length+1)=rest.length+1+js.length)=True:=by rw[hA];simp;omega
    obtain⟨i,hi⟩:∃ i,ins[a]?=some i:=⟨_,List.getElem?_eq_getElem ha⟩
    have hi':(ins.map insAV)[a]?=some (insAV i):=by simp[hi]
    have t18:=zET m hm
    cases f with
    | zero=>simp[runS]at hr
    | succ f=>
    have he1:=fun K=>he f s1 a K hP1 ha
    simp only[runS]at hr
    cases hen:(en s1 a).1 with
    | false=>
      rw[hen]at hr he1
      simp only[Option.some.injEq]at hr
      subst hr
      simp +contextual (disch:=omega) only[Tryz.f111,zGd,go_sem,simprocAttr,evAppend,evBuild,splice,zGH,↓zAD,↓zAC,↓zAB,↓zAA,hlen,hget,hw1,hw2,hw3,hw4,hAl,zAW,he1,g0,g1,g2,z1,z2,zBR,gE,gI,hfe,hm,t18,List.append_assoc,List.length_append]
      exact hend _ _
    | true=>
      rw[hen]at hr he1
      simp only[hi]at hr
      have hP2:=hPe f s1 a hP1 ha
      generalize (en s1 a).2=s2 at hr he1 hP2
      have happ:∀(K:List MB) (t:Bool) (ys:List (Int×List Bool)),ys≠[]→ys.length≤2→(∀ w∈ys,w.2.length=18) →
        evAppend Tryz.prog (hp s2++.row 19 (A++wayAV (a,m)::js) 0::K) 196 196 (.ms N 19 (rest.length+1+js.length) 0 rest.length) (.sl t (ys.map wayI)) =
         some (.ms N 19 (rest.length+ys.length+(js.drop (ys.length - 1)).length) 0 (rest.length+ys.length),hp s2++.row 19 (A++(ys.map wayI++js.drop (ys.length - 1))) 0::K):=by
       intro K t ys hy hy2 hy3
       have hdrop:∀ n,0 < n→(wayAV (a,m)::js).drop n=js.drop (n - 1):=fun n hn=>by cases n with
        | zero=>omega
        | succ n=>rfl
       have hyl:0 < ys.length:=List.length_pos_iff.2 hy
       have h1:=zJS (H:=hp s2++.row 19 (A++wayAV (a,m)::js) 0::K) (sT:=196) (xT:=196) (x:=.sl t (ys.map wayI)) (ys:=ys.map wayI) (xs:=A) (js:=wayAV (a,m)::js) (id:=N) (e:=195) (by kernel_rfl) (by kernel_rfl) (k:=19) (by kernel_rfl) (by_:=32) (by kernel_rfl) (ze:=.agg (I 0::m0S.map AV.bool)) (by kernel_rfl) rfl (by omega) rfl
        (by
          rw[List.all_eq_true]
          intro y hy
          obtain⟨w,hw,rfl⟩:=List.mem_map.1 hy
          simp[AV.cells,AV.ok,hy3 w hw]) (by simpa using hy) (by simp only[getRow,g0];rfl) (zAX (by simp only[List.length_map];simp only[List.length_cons]at hf;omega) (by omega))
       simp only[List.length_map,hA,hdrop _ hyl,List.length_cons]at h1
       rw[show rest.length+1+js.length=rest.length+(js.length+1) by omega,h1]
       rw[List.set_append_right _ _ (by rw[hN];exact Nat.le_refl _),hN,Nat.sub_self]
       rfl
      by_cases h2:i.op=2
      ·obtain⟨x0,x1⟩:=(hw a i hi).1 (.inl h2)
       obtain⟨y0,y1⟩:=(hw a i hi).2.1 h2
       have hb1:=zIT i.x m hm
       have hb2:=zIT i.y m hm
       have ha2:=fun K t=>happ K t [(i.y,m),(i.x,m)] (by simp) (by simp) (by simp[hm])
       simp only[List.map_cons,List.map_nil,List.length_cons,List.length_nil,Nat.reduceAdd,Nat.reduceSub,List.cons_append,List.nil_append]at ha2
       rw[if_pos h2]at hr
       simp +contextual (disch:=omega) only[Tryz.f111,zGd,go_sem,simprocAttr,splice,zGH,↓zAD,↓zAC,↓zAB,↓zAA,hlen,hget,hw1,hw2,hw3,hw4,hAl,zAW,he1,g0,g1,g2,z1,z2,zBR,gE,gI,hfe,hm,t18,List.append_assoc,List.length_append,hi',h2,hb1,hb2,ha2,Nat.sub_zero]
       refine⟨((f,js.drop 1),(i.x.toNat,m)::(i.y.toNat,m)::rest,s2),⟨?_,hPm _ _ hP2,hdr js 1 hju,by simp at hf ⊢;omega,hr⟩,Nat.lt_succ_self _,?_⟩
       ·intro w hw
        rcases List.mem_cons.1 hw with rfl|hw
        ·exact⟨x1,hm⟩
        rcases List.mem_cons.1 hw with rfl|hw
        ·exact⟨y1,hm⟩
        ·exact hk1 w (List.mem_cons_of_mem _ hw)
       ·exact fin _ _ _ _ _ _ (by simp[← hAe,Int.toNat_of_nonneg x0,Int.toNat_of_nonneg y0]) (hdr js 1 hju) rfl
      rw[if_neg h2]at hr
      by_cases h3:i.op=3
      ·obtain⟨x0,x1⟩:=(hw a i hi).1 (.inr h3)
       have hb1:=zIT i.x m hm
       have ha2:=fun K t=>happ K t [(i.x,m)] (by simp) (by simp) (by simp[hm])
       simp only[List.map_cons,List.map_nil,List.length_cons,List.length_nil,Nat.reduceAdd,Nat.reduceSub,List.cons_append,List.nil_append]at ha2
       rw[if_pos h3]at hr
       simp +contextual (disch:=omega) only[Tryz.f111,zGd,go_sem,simprocAttr,splice,zGH,↓zAD,↓zAC,↓zAB,↓zAA,hlen,hget,hw1,hw2,hw3,hw4,hAl,zAW,he1,g0,g1,g2,z1,z2,zBR,gE,gI,hfe,hm,t18,List.append_assoc,List.length_append,hi',h3,hb1,ha2,Nat.sub_zero]
       refine⟨((f,js.drop 0),(i.x.toNat,m)::rest,s2),⟨?_,hPm _ _ hP2,hdr js 0 hju,by simp at hf ⊢;omega,hr⟩,Nat.lt_succ_self _,?_⟩
       ·intro w hw
        rcases List.mem_cons.1 hw with rfl|hw
        ·exact⟨x1,hm⟩
        ·exact hk1 w (List.mem_cons_of_mem _ hw)
       ·exact fin _ _ _ _ _ _ (by simp[← hAe,Int.toNat_of_nonneg x0]) (hdr js 0 hju) rfl
      rw[if_neg h3]at hr
      by_cases h4:i.op=4
      ·obtain⟨n1,n2,n3⟩:=(hw a i hi).2.2 h4
       have hnn:i.n=((i.n.toNat:Nat):Int):=(Int.toNat_of_nonneg n2).symm
       have hml:(m.set i.n.toNat true).length=18:=by simp[hm]
       have hb1:=zIT ((a+1:Nat):Int) (m.set i.n.toNat true) hml
       have t18':=zET _ hml
       have hsp:=splM (NV a) m i.n.toNat (by omega)
       have hs19:=fun c0 c1 c2 c3 c4 c5 c6 c7 c8 c9 c10 c11 c12 c13 c14 c15 c16 c17 c18 x=>spl19 c0 c1 c2 c3 c4 c5 c6 c7 c8 c9 c10 c11 c12 c13 c14 c15 c16 c17 c18 x m hm
       have hw5:IntKind.i64.wrap ((a:Int)+1)=((a+1:Nat):Int):=by rw[i64_in]<;>omega
       have ha2:=fun K t=>happ K t [(((a+1:Nat):Int),m.set i.n.toNat true)] (by simp) (by simp) (by simp[hm])
       simp only[List.map_cons,List.map_nil,List.length_cons,List.length_nil,Nat.reduceAdd,Nat.reduceSub,List.cons_append,List.nil_append]at ha2
       rw[if_pos h4]at hr
       simp +contextual (disch:=omega) only[Tryz.f111,zGd,go_sem,simprocAttr,zGH,↓zAD,↓zAC,↓zAB,↓zAA,hlen,hget,hw1,hw2,hw3,hw4,hw5,hAl,zAW,he1,g0,g1,g2,z1,z2,zBR,gE,gI,hfe,hm,hml,t18,t18',List.append_assoc,List.length_append,hi',h4,hb1,ha2,hsp,hs19,spl5,n2,n3,Nat.sub_zero,Nat.mul_one]
       refine⟨((f,js.drop 0),(a+1,m.set i.n.toNat true)::rest,s2),⟨?_,hPm _ _ hP2,hdr js 0 hju,by simp at hf ⊢;omega,hr⟩,Nat.lt_succ_self _,?_⟩
       ·intro w hw
        rcases List.mem_cons.1 hw with rfl|hw
        ·exact⟨n1,hml⟩
        ·exact hk1 w (List.mem_cons_of_mem _ hw)
       ·exact fin _ _ _ _ _ _ (by simp[← hAe]) (hdr js 0 hju) rfl
      rw[if_neg h4]at hr
      have hk2:StkOk ins rest:=fun w hw=>hk1 w (List.mem_cons_of_mem _ hw)
      have hjw:∀ n,AV.underL n (wayAV (a,m)::js)=true:=fun n=>by
       simp only[AV.underL,hju n,Bool.and_true];exact zGA (a,m) n
      have hkT:∀ t:Tm,keepT (some [5,3,2,0]) t=[(5,.ms N 19 (rest.length+1+js.length) 0 rest.length),(3,.rf iI 1 0 0),(2,.rf iE 1 0 0),(0,.yld iY)] →
        keepT (some [5,3,2,0]) t=[(5,.ms N 19 (rest.length+(wayAV (a,m)::js).length) 0 rest.length),(3,.rf iI 1 0 0),(2,.rf iE 1 0 0),(0,.yld iY)]:=fun t h=>by
       rw[h,List.length_cons,show rest.length+1+js.length=rest.length+(js.length+1) by omega]
      by_cases h01:i.op=1∨i.op=0
      ·rw[if_pos h01]at hr
       have hy1:=fun K=>hy f s2 a m K hP2 ha hm
       have hP3:=hPy f s2 a m hP2 hm
       cases hyn:(yi s2 a m).1 with
       | false=>
         rw[hyn]at hr hy1
         simp only[Option.some.injEq]at hr
         subst hr
         rcases h01 with h1|h0
         ·obtain⟨G,hG⟩:=hy1 [.row 19 (A++wayAV (a,m)::js) 0,.row 19 [.agg (NV a::m.map AV.bool)] 0,.row 5 [.agg [I 1,I i.x,I i.y,I i.n,.sl false (i.set.map spanAV)]] 0]
          simp +contextual (disch:=omega) only[Tryz.f111,zGd,go_sem,simprocAttr,splice,zGH,↓zAD,↓zAC,↓zAB,↓zAA,hlen,hget,hw1,hw2,hw3,hw4,hAl,zAW,he1,g0,g1,g2,z1,z2,zBR,gE,gI,hfe,hm,t18,List.append_assoc,List.length_append,hi',h1,hG,Nat.sub_zero]
          exact hend _ _
         ·obtain⟨G,hG⟩:=hy1 [.row 19 (A++wayAV (a,m)::js) 0,.row 19 [.agg (NV a::m.map AV.bool)] 0,.row 5 [.agg [I 0,I i.x,I i.y,I i.n,.sl false (i.set.map spanAV)]] 0]
          simp +contextual (disch:=omega) only[Tryz.f111,zGd,go_sem,simprocAttr,splice,zGH,↓zAD,↓zAC,↓zAB,↓zAA,hlen,hget,hw1,hw2,hw3,hw4,hAl,zAW,he1,g0,g1,g2,z1,z2,zBR,gE,gI,hfe,hm,t18,List.append_assoc,List.length_append,hi',h0,hG,Nat.sub_zero]
          exact hend _ _
       | true=>
         have hP3:=hP3 hyn
         rw[hyn]at hr hy1
         rcases h01 with h1|h0
         ·obtain⟨G,hG⟩:=hy1 [.row 19 (A++wayAV (a,m)::js) 0,.row 19 [.agg (NV a::m.map AV.bool)] 0,.row 5 [.agg [I 1,I i.x,I i.y,I i.n,.sl false (i.set.map spanAV)]] 0]
          simp +contextual (disch:=omega) only[Tryz.f111,zGd,go_sem,simprocAttr,splice,zGH,↓zAD,↓zAC,↓zAB,↓zAA,hlen,hget,hw1,hw2,hw3,hw4,hAl,zAW,he1,g0,g1,g2,z1,z2,zBR,gE,gI,hfe,hm,t18,List.append_assoc,List.length_append,hi',h1,hG,Nat.sub_zero]
          refine⟨((f,wayAV (a,m)::js),rest,_),⟨hk2,hP3,hjw,by simp at hf ⊢;omega,hr⟩,Nat.lt_succ_self _,?_⟩
          exact fin _ _ _ _ _ _ (by simp[← hAe]) hjw (hkT _ rfl)
         ·obtain⟨G,hG⟩:=hy1 [.row 19 (A++wayAV (a,m)::js) 0,.row 19 [.agg (NV a::m.map AV.bool)] 0,.row 5 [.agg [I 0,I i.x,I i.y,I i.n,.sl false (i.set.map spanAV)]] 0]
          simp +contextual (disch:=omega) only[Tryz.f111,zGd,go_sem,simprocAttr,splice,zGH,↓zAD,↓zAC,↓zAB,↓zAA,hlen,hget,hw1,hw2,hw3,hw4,hAl,zAW,he1,g0,g1,g2,z1,z2,zBR,gE,gI,hfe,hm,t18,List.append_assoc,List.length_append,hi',h0,hG,Nat.sub_zero]
          refine⟨((f,wayAV (a,m)::js),rest,_),⟨hk2,hP3,hjw,by simp at hf ⊢;omega,hr⟩,Nat.lt_succ_self _,?_⟩
          exact fin _ _ _ _ _ _ (by simp[← hAe]) hjw (hkT _ rfl)
      ·rw[if_neg h01]at hr
       have h1:i.op≠1:=fun e=>h01 (.inl e)
       have h0:i.op≠0:=fun e=>h01 (.inr e)
       simp +contextual (disch:=omega) only[Tryz.f111,zGd,go_sem,simprocAttr,splice,zGH,↓zAD,↓zAC,↓zAB,↓zAA,hlen,hget,hw1,hw2,hw3,hw4,hAl,zAW,he1,g0,g1,g2,z1,z2,zBR,gE,gI,hfe,hm,t18,List.append_assoc,List.length_append,hi',h0,h1,h2,h3,h4,Nat.sub_zero]
       refine⟨((f,wayAV (a,m)::js),rest,_),⟨hk2,hPm _ _ hP2,hjw,by simp at hf ⊢;omega,hr⟩,Nat.lt_succ_self _,?_⟩
       exact fin _ _ _ _ _ _ (by simp[← hAe]) hjw (hkT _ rfl)
 ·exact⟨fun w hw=>by simp at hw;subst hw;exact⟨hst,rfl⟩,hP,fun n=>rfl,by simp;omega,hrun⟩
 ·exact zLy (hN s) (hu s _ (Nat.le_succ _)) rfl (by simp[AV.underL,AV.under];omega) (by simp only[AV.underL];rw[zGA (st0,m0S)];rfl)
end
section
attribute [local go_sem] evAppend evBuild splice
open Go.Proofs Go.RowKit Go.IntWalk
set_option maxRecDepth 100000
set_option maxHeartbeats 16000000
structure CS where
 nx:Int
 way:List Bool
 dn:Bool
 la:List Bool
abbrev tm44:Tm:=[(11,.rf 6 1 0 0),(10,.rf 5 1 0 0),(9,.rf 4 1 0 0),(8,.rf 3 1 0 0),(7,.rf 2 1 0 0),(6,.rf 1 1 0 0),(4,.rf 0 1 0 0)]
abbrev chA (cv:AV) (t:List Int) (p:Nat) (s:CS) (K:List MB):List MB:=
 .row 1 [cv] 0::.row 1 [.sl false (t.map I)] 0::.row 1 [NV p] 0::.row 1 [I s.nx] 0::.row 18 [.agg (s.way.map AV.bool)] 0::.row 1 [.bool s.dn] 0::.row 18 [.agg (s.la.map AV.bool)] 0::K
abbrev chH (ins:List Ins) (caps n:Int) (t:List Int) (p st:Nat) (c:Code×Code) (ls:LS) (s:CS) (K:List MB):List MB:=
 chA (.pt [.sl false (ins.map insAV),I caps,I n]) t p s (.row 1 [.sl false (ins.map insAV)] 0::.row 1 [NV st] 0::.row 1 [.clo 77 []] 0::.lp ls 44 59 tm44 [20,21] c::K)
def chY (ins:List Ins) (t:List Int) (p:Nat) (s:CS) (a:Nat) (m:List Bool):CS:=match ins[a]? with
 | some i=>if i.op=0 then { s with dn:=true,la:=m } else match t[p]? with
   | some x=>if hasSpan i.set x=true then { s with nx:=((a+1:Nat):Int),way:=m } else s
   | none=>s
 | none=>s
theorem y44 (ins:List Ins) (caps n:Int) (t:List Int) (p st:Nat) (c:Code×Code) (hc:c=rfOf Tryz.prog 44) (s:CS) (a:Nat) (m:List Bool) (K:List MB) (hl:ins.length≤10000) (ht:t.length≤1000000) (ha:a < ins.length) (hm:m.length=18) (hs1:s.way.length=18) (hs2:s.la.length=18) (hdn:s.dn=false) (hset:∀ i∈ins,i.set.length≤1000000) :
  ∃ G,call Tryz.prog pol1 1000000000 [.yld 10,NV a,.agg (m.map AV.bool)] (chH ins caps n t p st c .ready s K)=some (.bool (!(chY ins t p s a m).dn),chH ins caps n t p st c (if(chY ins t p s a m).dn then .done .ret else .ready) (chY ins t p s a m) (K++G)):=by
 obtain⟨i,hi⟩:∃ i,ins[a]?=some i:=⟨_,List.getElem?_eq_getElem ha⟩
 have hi':(ins.map insAV)[a]?=some (insAV i):=by simp[hi]
 have hsl:=hset i (List.mem_of_getElem? hi)
 have e1:=congrArg (·.1) hc
 have e2:=congrArg (·.2) hc
 simp only[rfOf,Tryz.func44,Tryz.f44,findRF,List.append_nil,List.nil_append,List.headD]at e1 e2
 have okm:=zBR m
 have okw:=zBR s.way
 have okl:=zBR s.la
 have hx:∀ x:MB,(K++[x])[K.length]?=some x:=fun x=>by simp
 have hy:∀ x y:MB,(K++[x]).set K.length y=K++[y]:=fun x y=>by simp
 have tkm:=zET m hm
 have tkw:=zET s.way hs1
 have tkl:=zET s.la hs2
 have drm:(m.map AV.bool).drop 18=[]:=List.drop_of_length_le (by simp[hm])
 have drw:(s.way.map AV.bool).drop 18=[]:=List.drop_of_length_le (by simp[hs1])
 have drl:(s.la.map AV.bool).drop 18=[]:=List.drop_of_length_le (by simp[hs2])
 have hsa:∀(a0 a1 a2 a3 a4 a5 a6 a7 a8 a9 a10 b0 b1 b2 b3 b4 b5 b6 b7 b8 b9 b10 x:MB),sameAt (K.length+1+1+1+1+1+1+1+1+1+1+1) (a0::a1::a2::a3::a4::a5::a6::a7::a8::a9::a10::(K++[x])) (b0::b1::b2::b3::b4::b5::b6::b7::b8::b9::b10::(K++[x]))=true:=fun a0 a1 a2 a3 a4 a5 a6 a7 a8 a9 a10 b0 b1 b2 b3 b4 b5 b6 b7 b8 b9 b10 x=>by simp[sameAt,MB.beq_refl]
 have hss:∀(i:Nat) (H:List MB),sameAt i H H=true:=fun i H=>by unfold sameAt;cases H[i]?<;>simp[MB.beq_refl]
 clear hc
 by_cases h0:i.op=0
 ·have ey:chY ins t p s a m = { s with dn:=true,la:=m }:=by simp only[chY,hi,if_pos h0]
  rw[ey]
  refine⟨[.row 18 [.agg (m.map AV.bool)] 0],?_⟩
  refine zCh (f:=44) (n:=59) (t:=tm44) (ps:=[20,21]) (c:=c) rfl rfl rfl e1 e2 ?_
  simp +contextual (disch:=omega) only[Tryz.f44,dd44,go_sem,simprocAttr,mu44,↓zAD,↓zAC,↓zAB,↓zAA,hi',h0,zDg,beginRd,MB.beqT_refl,zBU,okm,okw,okl,hx,hy,tkm,tkw,tkl,drm,drw,drl,List.append_nil,hsa,hss,hm,hs1,hs2]
  repeat' (first|intro _|apply And.intro|(unfold dOk;kernel_rfl)|exact St.beq_refl _|(show altO _ _ _ _=true;kernel_rfl)|(show (_ || _)=true;kernel_rfl)|(show (_ && _)=true;kernel_rfl))
  all_goals (try exact zMS rfl)
 ·have hx0:∀ x,t[p]?=some x→(t.map I)[p]?=some (I x):=fun x h=>by simp[h]
  by_cases hp:p < t.length
  ·obtain⟨x,hxt⟩:∃ x,t[p]?=some x:=⟨_,List.getElem?_eq_getElem hp⟩
   have hxt':=hx0 x hxt
   have hlt:((p:Int) < ((t.length:Nat):Int))=True:=eq_true (by omega)
   have h66:=fun H=>f43 i.set x hsl H
   have hwa:IntKind.i64.wrap ((a:Int)+1)=((a+1:Nat):Int):=by rw[i64_in]<;>omega
   by_cases hsp:hasSpan i.set x=true
   ·have ey:chY ins t p s a m = { s with nx:=((a+1:Nat):Int),way:=m }:=by simp only[chY,hi,if_neg h0,hxt,if_pos hsp]
    rw[ey]
    refine⟨[.row 18 [.agg (m.map AV.bool)] 0],?_⟩
    refine zCh (f:=44) (n:=59) (t:=tm44) (ps:=[20,21]) (c:=c) rfl rfl rfl e1 e2 ?_
    simp +contextual (disch:=omega) only[Tryz.f44,dd44,go_sem,simprocAttr,mu44,↓zAD,↓zAC,↓zAB,↓zAA,hi',h0,zDg,beginRd,MB.beqT_refl,zBU,okm,okw,okl,hx,hy,tkm,tkw,tkl,drm,drw,drl,List.append_nil,hsa,hss,hm,hs1,hs2,hlt,hxt',h66,hsp,hwa,zAW]
    repeat' (first|intro _|apply And.intro|(unfold dOk;kernel_rfl)|exact St.beq_refl _|(show altO _ _ _ _=true;kernel_rfl)|(show (_ || _)=true;kernel_rfl)|(show (_ && _)=true;kernel_rfl))
    all_goals (try (simp only[hdn];exact zCp rfl))
   ·have ey:chY ins t p s a m=s:=by simp only[chY,hi,if_neg h0,hxt,if_neg hsp]
    have hsp':hasSpan i.set x=false:=by simpa using hsp
    rw[ey]
    refine⟨[.row 18 [.agg (m.map AV.bool)] 0],?_⟩
    refine zCh (f:=44) (n:=59) (t:=tm44) (ps:=[20,21]) (c:=c) rfl rfl rfl e1 e2 ?_
    simp +contextual (disch:=omega) only[Tryz.f44,dd44,go_sem,simprocAttr,mu44,↓zAD,↓zAC,↓zAB,↓zAA,hi',h0,zDg,beginRd,MB.beqT_refl,zBU,okm,okw,okl,hx,hy,tkm,tkw,tkl,drm,drw,drl,List.append_nil,hsa,hss,hm,hs1,hs2,hlt,hxt',h66,hsp',hwa,zAW]
    repeat' (first|intro _|apply And.intro|(unfold dOk;kernel_rfl)|exact St.beq_refl _|(show altO _ _ _ _=true;kernel_rfl)|(show (_ || _)=true;kernel_rfl)|(show (_ && _)=true;kernel_rfl))
    rw[if_neg (by simp[hdn]),show (!s.dn)=true by simp[hdn]]
    exact zCp rfl
  ·have hn:t[p]?=none:=List.getElem?_eq_none (by omega)
   have hlt:((p:Int) < ((t.length:Nat):Int))=False:=eq_false (by omega)
   have ey:chY ins t p s a m=s:=by simp only[chY,hi,if_neg h0,hn]
   rw[ey]
   refine⟨[.row 18 [.agg (m.map AV.bool)] 0],?_⟩
   refine zCh (f:=44) (n:=59) (t:=tm44) (ps:=[20,21]) (c:=c) rfl rfl rfl e1 e2 ?_
   simp +contextual (disch:=omega) only[Tryz.f44,dd44,go_sem,simprocAttr,mu44,↓zAD,↓zAC,↓zAB,↓zAA,hi',h0,zDg,beginRd,MB.beqT_refl,zBU,okm,okw,okl,hx,hy,tkm,tkw,tkl,drm,drw,drl,List.append_nil,hsa,hss,hm,hs1,hs2,hlt,zAW]
   repeat' (first|intro _|apply And.intro|(unfold dOk;kernel_rfl)|exact St.beq_refl _|(show altO _ _ _ _=true;kernel_rfl)|(show (_ || _)=true;kernel_rfl)|(show (_ && _)=true;kernel_rfl))
   rw[if_neg (by simp[hdn]),show (!s.dn)=true by simp[hdn]]
   exact zCp rfl
end
end Go.Ev
