/- Functions of the program, each with what it computes; no further conditions. -/
import Derived.Test.YtjgmfjneajcbmaaA06
import Derived.Test.YtjgmfjneajcbmaaA12
import Derived.Test.YtjgmfjneajcbmaaA10
import Derived.Test.YtjgmfjneajcbmaaA11
set_option linter.unusedVariables false
set_option linter.unusedSimpArgs false
namespace Go.Ev
attribute [local go_sem] evBin AV.cells
section
attribute [local go_sem] evAppend frzB List.length_append List.map_append tySzE List.head?_drop Nat.mul_one sameAt_zero sameAt_two sameAt_three sameAt_four sameAt_five room_ok
open Go.Proofs Go.RowKit Go.IntWalk
set_option maxRecDepth 100000
set_option maxHeartbeats 8000000
theorem runL_nil {ins:List Ins} {xs:List Int} {p:Nat} {e:Int}:runL ins xs p [] e=e:=by
 cases xs<;>simp[runL]
theorem runC_nil {ins:List Ins} {size:Nat} {xs:List Int} {c:CS}:runC ins size xs [] c=c:=by
 cases xs<;>simp[runC]
theorem doneL_at {ins:List Ins} {l:List Nat} {n:Nat} {i:Ins} (h:l[l.length - 1]?=some n) (hi:ins[n]?=some i):doneL ins l=(i.op == 0):=by
 simp[doneL,List.getLast?_eq_getElem?,h,hi]
structure KRS where
 p:Nat
 t:Nat
 l:List Nat
 f:Nat
 e:Int
 H:List MB
 a:Lay2
 c:CS
theorem kf31 {ins:List Ins} {first:List Nat} {size:Nat} {P:Nat→Prop} {D C:Nat} {a:Lay2} {c:CS} {H:List MB} (hi:DI ins first size P D C a c H) (ho:InsOk ins) (hf1:∀ n∈first,n < ins.length) (hf2:first.length≤ins.length) (xs:List Int) (hx:xs.length≤1000000) (p:Nat) (hp:p≤xs.length) (hmd:c.made+xs.length+2≤4000000000000) :
  ∃ r,(∃ H' a',r=(I (runL ins (xs.drop p) p first (-1)),H')∧DI ins first size P D C a' (runC ins size (xs.drop p) first (c.need size first)) H'∧a.le a'∧KeepsLow P H H')∧call Try.prog pol1 31 [.rf D 1 0 0,.sl false (xs.map I),I p] H=some r:=by
 have hN:=ho.len
 have rp:∀ H1 r H,retPol pol1 31 H1 r H=some (r,H):=fun H1 r H=>rfl
 have hD:=hi.d
 obtain⟨t1,⟨t,H1,a1,f1,rfl,d1,le1,st1,low1⟩,hc47⟩:=kf47 hi hN (by omega) hf1 hf2
 have hm1:=CS.need_made c size first
 refine call_run2E (pol:=pol1) Try.func31 rfl rfl rfl rfl (frzArgs_mix _ _ _ rfl) ?_
 simp +contextual (disch:=omega) only[Try.f31,dd31,go_sem,simprocAttr,mu31,↓wrap_up,↓wrap_down,↓wrap_pred,↓wrap_sub_nat,hD,hc47]
 refine W_for (σ:=KRS) (M:=(mskOf (pol1.mask 31) (pol1.gc 31) (pol1.acts 31) 0 3)) rfl (fun x=>(⟨58,[(8,.rf x.t 1 0 0),(7,I x.e),(2,I x.p),(1,.sl false (xs.map I)),(0,.rf D 1 0 0)],x.H⟩:St))
  (fun x=>x.p≤xs.length∧DI ins first size P D C x.a x.c x.H∧x.a.st x.t=some (x.l,x.f)∧a.le x.a∧KeepsLow P H x.H∧x.c.made+(xs.length - x.p)≤c.made+xs.length+1 ∧
    runL ins (xs.drop x.p) x.p x.l x.e=runL ins (xs.drop p) p first (-1)∧runC ins size (xs.drop x.p) x.l x.c=runC ins size (xs.drop p) first (c.need size first))
  (fun x=>xs.length - x.p) ⟨p,t,first,f1,-1,H1,a1,c.need size first⟩ ?_ ⟨hp,d1,st1,le1,low1,by simp only;omega,rfl,rfl⟩ _ ?_
 ·rintro⟨p',t',l,f,e,H',a',c'⟩ ⟨h1,h2,h3,h4,h5,h6,h7,h8⟩
  simp only at h1 h2 h3 h4 h5 h6 h7 h8 ⊢
  obtain⟨b,m,s1,s2,s3,s4,s5,s6⟩:=h2.st t' l f h3
  have hD':=h2.d
  by_cases hl0:l=[]
  ·subst hl0
   rw[runL_nil]at h7
   rw[runC_nil]at h8
   simp +contextual (disch:=omega) only[Try.f31,dd31,go_sem,simprocAttr,mu31,↓wrap_up,↓wrap_down,↓wrap_pred,↓wrap_sub_nat,s1]
   exact⟨_,⟨H',a',by rw[h7],by rw[← h8];exact h2,h4,h5⟩,rp _ _ _⟩
  obtain⟨rfl,q,rfl,hq⟩:=s6 hl0
  have hlen:0 < l.length:=List.length_pos_iff.2 hl0
  obtain⟨n,hn⟩:∃ n,l[l.length - 1]?=some n:=⟨_,List.getElem?_eq_getElem (by omega)⟩
  have hn':(l.map NV)[l.length - 1]?=some (NV n):=by simp[hn]
  obtain⟨i,hi'⟩:∃ i,ins[n]?=some i:=⟨_,List.getElem?_eq_getElem (s2 n (List.mem_of_getElem? hn))⟩
  have hii:(ins.map insAV)[n]?=some (insAV i):=by simp[hi']
  have hdone:=doneL_at hn hi'
  by_cases hend:p' = xs.length
  ·subst hend
   rw[List.drop_length]at h7 h8
   simp only[runL,runC,if_neg hl0,hdone]at h7 h8
   simp +contextual (disch:=omega) only[Try.f31,dd31,go_sem,simprocAttr,mu31,↓wrap_up,↓wrap_down,↓wrap_pred,↓wrap_sub_nat,s1,hD',hn',hii]
   refine⟨by unfold dOk;kernel_rfl,fun h=>?_,fun h=>?_⟩
   ·rw[if_pos (by simp[h])]at h7
    exact⟨_,⟨H',a',by rw[h7],by rw[← h8];exact h2,h4,h5⟩,rp _ _ _⟩
   ·rw[if_neg (by simp[h])]at h7
    exact⟨_,⟨H',a',by rw[h7],by rw[← h8];exact h2,h4,h5⟩,rp _ _ _⟩
  ·obtain⟨x,hx'⟩:∃ x,xs[p']?=some x:=⟨_,List.getElem?_eq_getElem (by omega)⟩
   have hx2:(xs.map I)[p']?=some (I x):=by simp[hx']
   have hdrop:xs.drop p' = x::xs.drop (p' + 1):=by
    rw[List.drop_eq_getElem_cons (by omega)]
    congr 1
    rw[List.getElem?_eq_getElem (by omega)]at hx'
    exact Option.some.inj hx'
   obtain⟨r2,⟨t2,H2,a2,f2,rfl,d2,le2,st2,low2⟩,hc48⟩:=kf48 h2 ho (by omega) h3 hl0 x
   have hm2:=CS.need_made c' size (nextL ins l x)
   rw[hdrop]at h7 h8
   simp only[runL,runC,if_neg hl0,hdone]at h7 h8
   simp +contextual (disch:=omega) only[Try.f31,dd31,go_sem,simprocAttr,mu31,↓wrap_up,↓wrap_down,↓wrap_pred,↓wrap_sub_nat,s1,hD',hn',hii,hx2,hc48]
   refine⟨by unfold dOk;kernel_rfl,fun h=>?_,fun h=>?_⟩
   ·rw[if_pos (by simp[h])]at h7
    exact⟨⟨p' + 1,t2,nextL ins l x,f2,p',H2,a2,c'.need size (nextL ins l x)⟩,⟨by simp only;omega,d2,st2,Lay2.le_trans h4 le2,h5.trans low2,by simp only;omega,h7,h8⟩,by simp only;omega,rfl⟩
   ·rw[if_neg (by simp[h])]at h7
    exact⟨⟨p' + 1,t2,nextL ins l x,f2,e,H2,a2,c'.need size (nextL ins l x)⟩,⟨by simp only;omega,d2,st2,Lay2.le_trans h4 le2,h5.trans low2,by simp only;omega,h7,h8⟩,by simp only;omega,rfl⟩
 ·rfl
theorem kf13e {ins:List Ins} {first:List Nat} {size:Nat} {P:Nat→Prop} {D C:Nat} {a:Lay2} {c:CS} {H:List MB} (hi:DI ins first size P D C a c H) (ho:InsOk ins) (hf1:∀ n∈first,n < ins.length) (hf2:first.length≤ins.length) (xs:List Int) (hx:xs.length≤65536) (p:Nat) (hp:p≤xs.length) (hmd:c.made+xs.length+2≤4000000000000) :
  ∃ r,(∃ H' a',r=(AV.tup [I (if 0≤runL ins (xs.drop p) p first (-1) then runL ins (xs.drop p) p first (-1) else 0),.bool (decide (0≤runL ins (xs.drop p) p first (-1))),I 0],H')∧DI ins first size P D C a' (runC ins size (xs.drop p) first (c.need size first)) H'∧a.le a'∧KeepsLow P H H')∧call Try.prog pol1 13 [.rf D 1 0 0,.sl false (xs.map I),I p] H=some r:=by
 have rp:∀ H1 r H,retPol pol1 13 H1 r H=some (r,H):=fun H1 r H=>rfl
 obtain⟨r,⟨H',a',rfl,d1,le1,low1⟩,hc⟩:=kf31 hi ho hf1 hf2 xs (by omega) p hp hmd
 generalize runL ins (xs.drop p) p first (-1)=e at *
 refine call_run2E (pol:=pol1) Try.func13 rfl rfl rfl rfl (frzArgs_mix _ _ _ rfl) ?_
 by_cases he:0≤e
 ·rw[if_pos he]
  simp +contextual (disch:=omega) only[Try.f13,dd13,go_sem,simprocAttr,mu13,↓wrap_up,↓wrap_down,↓wrap_pred,↓wrap_sub_nat,hc]
  exact⟨_,⟨H',a',rfl,d1,le1,low1⟩,rp _ _ _⟩
 ·rw[if_neg he]
  simp +contextual (disch:=omega) only[Try.f13,dd13,go_sem,simprocAttr,mu13,↓wrap_up,↓wrap_down,↓wrap_pred,↓wrap_sub_nat,hc]
  exact⟨_,⟨H',a',rfl,d1,le1,low1⟩,rp _ _ _⟩
theorem kf12s {ins:List Ins} {first:List Nat} {size:Nat} {P:Nat→Prop} {D C:Nat} {a:Lay2} {c:CS} {H:List MB} (hi:DI ins first size P D C a c H):call Try.prog pol1 12 [.rf D 1 0 0] H=some (.tup [NV c.made,NV c.emptied],H):=by
 have hD:=hi.d
 have rp:∀ H1 r H,retPol pol1 12 H1 r H=some (r,H):=fun H1 r H=>rfl
 refine call_run2 (pol:=pol1) Try.func12 rfl rfl rfl rfl (frzArgs_mix _ _ _ rfl) ?_
 simp +contextual (disch:=omega) only[Try.f12,dd12,go_sem,simprocAttr,mu12,↓wrap_up,↓wrap_down,↓wrap_pred,↓wrap_sub_nat,hD]
 exact⟨by unfold dOk;kernel_rfl,rp _ _ _⟩
end
section
attribute [local go_sem] evAppend frzB List.length_append List.map_append tySzE List.head?_drop Nat.mul_one sameAt_zero sameAt_two sameAt_three sameAt_four sameAt_five room_ok
open Go.Proofs Go.RowKit Go.IntWalk
set_option maxRecDepth 100000
set_option maxHeartbeats 8000000
theorem kf29n (l:List (Int×Int)) (hl:l.length≤1000000) (K:List MB) (x:MB):call Try.prog pol1 29 [.sl false (l.map spanAV)] (K++[x])=some (.sl false (l.map spanAV),K++[x]):=by
 rw[call_eq]
 unfold evStep
 rw[if_neg (show ¬ pol1.pure 29=true by decide)]
 show cloneExt 2 16 [.sl false (l.map spanAV)] (K++[x])=_
 have h1:((l.map spanAV).all fun y=>decide (y.cells.length=2) && y.cells.all AV.ok)=true:=by
  rw[List.all_eq_true]
  intro y hy
  obtain⟨p,_,rfl⟩:=List.mem_map.1 hy
  rfl
 have h2:roomFor (l.map spanAV).length 16=true:=room_ok (by simp;omega) (by omega)
 unfold cloneExt
 simp only[elemsOf]
 rw[if_pos ⟨h1,h2,plain_span l⟩]
 cases K<;>rfl
theorem call_frz2 {P:Program} {pol:Pol} {f:Nat} {args l:List AV} {H H1:List MB} (hp:pol.pure f=true) (h:frzArgs pol f 0 args H=some (l,H1)) (ha:AV.plainL l=true) :
  call P pol f args H=call P pol f l H1:=by
 have hf:∀(l:List AV) (i:Nat),AV.plainL l=true→frzArgs pol f i l H1=some (l,H1):=by
  intro l
  induction l with
  | nil=>intro i _;rfl
  | cons x l ih=>
    intro i h
    simp only[AV.plainL,Bool.and_eq_true]at h
    simp only[frzArgs,fz_plain H1 h.1,ih (i+1) h.2]
    split<;>simp_all
 rw[call_eq,call_eq]
 unfold evStep
 simp only[hp,if_true,h,hf l 0 ha]
end
section
attribute [local go_sem] evAppend frzB List.length_append List.map_append tySzE List.head?_drop Nat.mul_one sameAt_zero sameAt_two sameAt_three sameAt_four sameAt_five room_ok
open Go.Proofs Go.RowKit Go.IntWalk
set_option maxRecDepth 100000
set_option maxHeartbeats 4000000
theorem kf25i (a b:List Int) (ha:a.length≤4000000000) (hb:b.length≤4000000000) (H:List MB):call Try.prog pol1 14 [.sl false (a.map I),.sl false (b.map I)] H=some (.bool (decide (a=b)),H):=by
 have hpa:=plain_ints a
 have hpb:=plain_ints b
 refine call_run Try.func14 rfl rfl rfl rfl rfl rfl (fun _=>rfl) (by simp[AV.plainL,AV.plain,hpa,hpb]) (by simp[AV.plain]) ?_ H
 by_cases hl:a.length=b.length
 ·simp +contextual (disch:=omega) only[Try.f14,dd14,go_sem,simprocAttr,mu14,↓wrap_up,↓wrap_down,↓wrap_pred,↓wrap_sub_nat]
  refine W_count (M:=(mskOf (pol1.mask 14) (pol1.gc 14) (pol1.acts 14) 0 4)) rfl a.length (fun i=>(⟨26,[(5,I i),(1,.sl false (b.map I)),(0,.sl false (a.map I))],[]⟩:St)) (fun i=>∀ k,k < i→a[k]?=b[k]?) ?_ ?_ (fun k h=>by omega) _ (by first|rfl|(refine prep_cut rfl (by rfl) (by rfl) (by rfl) ?_ ?_<;>simp[AV.underL,AV.under,MB.under,underL_plain,under_plain,plain_ints,plain_span,plain_ins,plain_prg,-List.map_take]))
  ·intro i hi hg
   obtain⟨x,hx⟩:∃ x,a[i]?=some x:=⟨_,List.getElem?_eq_getElem hi⟩
   obtain⟨y,hy⟩:∃ y,b[i]?=some y:=⟨_,List.getElem?_eq_getElem (by omega)⟩
   have hx':(a.map I)[i]?=some (I x):=by simp[hx]
   have hy':(b.map I)[i]?=some (I y):=by simp[hy]
   by_cases he:x=y
   ·subst he
    simp +contextual (disch:=omega) only[Try.f14,dd14,go_sem,simprocAttr,mu14,↓wrap_up,↓wrap_down,↓wrap_pred,↓wrap_sub_nat,hx',hy']
    refine⟨by unfold dOk;kernel_rfl,fun k hk=>?_,(by first|rfl|(refine prep_cut rfl (by rfl) (by rfl) (by rfl) ?_ ?_<;>simp[AV.underL,AV.under,MB.under,underL_plain,under_plain,plain_ints,plain_span,plain_ins,plain_prg,-List.map_take]))⟩
    rcases Nat.lt_succ_iff_lt_or_eq.1 hk with h|rfl
    ·exact hg k h
    ·rw[hx,hy]
   ·have hd:decide (a=b)=false:=decide_eq_false fun e=>by rw[e,hy]at hx;exact he (Option.some.inj hx).symm
    rw[hd]
    simp +contextual (disch:=omega) only[Try.f14,dd14,go_sem,simprocAttr,mu14,↓wrap_up,↓wrap_down,↓wrap_pred,↓wrap_sub_nat,hx',hy']
    repeat' (first|intro _|apply And.intro|(unfold dOk;kernel_rfl)|exact St.beq_refl _|(show altO _ _ _ _=true;kernel_rfl)|(show (_ || _)=true;kernel_rfl)|(show (_ && _)=true;kernel_rfl))
    all_goals exact fzEq rfl rfl
  ·intro hg
   have hd:decide (a=b)=true:=decide_eq_true (List.ext_getElem? fun k=>by
    by_cases hk:k < a.length
    ·exact hg k hk
    ·rw[List.getElem?_eq_none (by omega),List.getElem?_eq_none (by omega)])
   rw[hd]
   simp +contextual (disch:=omega) only[Try.f14,dd14,go_sem,simprocAttr,mu14,↓wrap_up,↓wrap_down,↓wrap_pred,↓wrap_sub_nat]
   exact fzEq rfl rfl
 ·have hd:decide (a=b)=false:=decide_eq_false fun e=>hl (by rw[e])
  rw[hd]
  have hne:(a.length:Int)≠b.length:=by omega
  simp +contextual (disch:=omega) only[Try.f14,dd14,go_sem,simprocAttr,mu14,↓wrap_up,↓wrap_down,↓wrap_pred,↓wrap_sub_nat]
  exact fzEq rfl rfl
theorem kf17 (g:Prg) (hb:PrgB g) (H:List MB):call Try.prog pol1 8 [prgAV g] H=some (I (acceptG g),H):=by
 have hv:=f29 g hb
 obtain⟨hl,hs⟩:=hb
 refine call_run Try.func8 rfl rfl rfl rfl rfl rfl (fun _=>rfl) (by simp[AV.plain,AV.plainL,plain_ints,plain_span,plain_ins,plain_prg]) (by simp[AV.plain,AV.plainL,plain_ints,plain_span,plain_ins,plain_prg]) ?_ H
 unfold acceptG
 by_cases h1:validG g=0
 ·rw[h1]at hv
  rw[if_neg (by simp[h1])]
  simp +contextual (disch:=omega) only[Try.f8,dd8,go_sem,simprocAttr,mu8,↓wrap_up,↓wrap_down,↓wrap_pred,↓wrap_sub_nat,hv]
  refine W_count (M:=(mskOf (pol1.mask 8) (pol1.gc 8) (pol1.acts 8) 0 5)) rfl g.ins.length (fun i=>(⟨24,[(4,I i),(1,.rf 0 1 0 0)],[.row 3 [prgAV g] 0]⟩:St))
   (fun i=>∀ k p,k < i→g.ins[k]?=some p→p.op≠5) ?_ ?_ (fun k p h=>by omega) _ (by first|rfl|(refine prep_cut rfl (by rfl) (by rfl) (by rfl) ?_ ?_<;>simp[AV.underL,AV.under,MB.under,underL_plain,under_plain,plain_ints,plain_span,plain_ins,plain_prg,-List.map_take]))
  ·intro i hi hg
   obtain⟨p,hp⟩:∃ p,g.ins[i]?=some p:=⟨_,List.getElem?_eq_getElem hi⟩
   have hp':(g.ins.map insAV)[i]?=some (insAV p):=by simp[hp]
   by_cases h5:p.op=5
   ·have:g.ins.any (fun i=>i.op == 5)=true:=List.any_eq_true.2 ⟨p,List.mem_of_getElem? hp,by simp[h5]⟩
    rw[this]
    simp +contextual (disch:=omega) only[Try.f8,dd8,go_sem,simprocAttr,mu8,↓wrap_up,↓wrap_down,↓wrap_pred,↓wrap_sub_nat,hp',h5]
    exact fzEq rfl rfl
   ·simp +contextual (disch:=omega) only[Try.f8,dd8,go_sem,simprocAttr,mu8,↓wrap_up,↓wrap_down,↓wrap_pred,↓wrap_sub_nat,hp',h5]
    refine⟨fun k q hk hq=>?_,(by first|rfl|(refine prep_cut rfl (by rfl) (by rfl) (by rfl) ?_ ?_<;>simp[AV.underL,AV.under,MB.under,underL_plain,under_plain,plain_ints,plain_span,plain_ins,plain_prg,-List.map_take]))⟩
    rcases Nat.lt_succ_iff_lt_or_eq.1 hk with h|rfl
    ·exact hg k q h hq
    ·rw[hp]at hq;cases hq;exact h5
  ·intro hg
   have:g.ins.any (fun i=>i.op == 5)=false:=by
    rw[List.any_eq_false]
    intro p hp
    obtain⟨k,hk,e⟩:=List.getElem_of_mem hp
    have:=hg k p hk (by rw[← e];exact List.getElem?_eq_getElem hk)
    simp[this]
   rw[this]
   simp +contextual (disch:=omega) only[Try.f8,dd8,go_sem,simprocAttr,mu8,↓wrap_up,↓wrap_down,↓wrap_pred,↓wrap_sub_nat]
   exact fzEq rfl rfl
 ·rw[if_pos h1]
  simp +contextual (disch:=omega) only[Try.f8,dd8,go_sem,simprocAttr,mu8,↓wrap_up,↓wrap_down,↓wrap_pred,↓wrap_sub_nat,hv]
  exact fzEq rfl rfl
end
section
attribute [local go_sem] evAppend frzB List.length_append List.map_append tySzE List.head?_drop Nat.mul_one sameAt_zero sameAt_two sameAt_three sameAt_four sameAt_five room_ok
open Go.Proofs Go.RowKit Go.IntWalk
set_option maxRecDepth 100000
set_option maxHeartbeats 4000000
section
variable {ins:List Ins} {first:List Nat} {size:Nat} {P P':Nat→Prop} {D C:Nat} {a:Lay2} {c:CS} {H H':List MB}
theorem DI.frame (h:DI ins first size P D C a c H) (hl:H.length≤H'.length) (hs:∀ i,¬ P i→i < H.length→H'[i]?=H[i]?):DI ins first size P D C a c H':=by
 have old:∀ {i:Nat} {x:MB},¬ P i→H[i]?=some x→H'[i]?=some x:=fun {i x} hp hx=>by rw[hs i hp (List.getElem?_eq_some_iff.1 hx).1];exact hx
 obtain⟨es,hC,hes,hce⟩:=h.cache
 refine⟨old h.lo.2.1.1 h.d,⟨fun i hi=>Nat.lt_of_lt_of_le (h.lo.1 i hi) hl,h.lo.2⟩,⟨es,old h.lo.2.1.2 hC,hes,hce⟩,fun t l f ht=>?_,fun q l hq=>?_,h.small⟩
 ·obtain⟨b,m,c1,c2⟩:=h.st t l f ht
  exact⟨b,m,old (h.lo.2.2.1 t _ ht) c1,c2⟩
 ·obtain⟨es',d1,d2⟩:=h.nx q l hq
  exact⟨es',old (h.lo.2.2.2 q _ hq) d1,d2⟩
theorem DI.push (h:DI ins first size P D C a c H) (K:List MB):DI ins first size P D C a c (H++K):=
 h.frame (by simp) (fun i _ hi=>List.getElem?_append_left hi)
theorem DI.repro (h:DI ins first size P D C a c H) (hl:∀ i,P' i→i < H.length) (hn:∀ i,P' i→i≠D∧i≠C∧a.st i=none∧a.nx i=none):DI ins first size P' D C a c H:=
 ⟨h.d,⟨hl,⟨fun hp=>(hn D hp).1 rfl,fun hp=>(hn C hp).2.1 rfl⟩,fun i x hx hp=>(by rw[(hn i hp).2.2.1]at hx;cases hx),fun i x hx hp=>(by rw[(hn i hp).2.2.2]at hx;cases hx)⟩,h.cache,h.st,h.nx,h.small⟩
theorem DI.off (h:DI ins first size P D C a c H) {i:Nat} (hi:P i):i≠D∧i≠C∧a.st i=none∧a.nx i=none:=by
 refine⟨fun e=>h.lo.2.1.1 (e ▸ hi),fun e=>h.lo.2.1.2 (e ▸ hi),?_,?_⟩
 ·cases hx:a.st i with
  | none=>rfl
  | some x=>exact absurd hi (h.lo.2.2.1 i x hx)
 ·cases hx:a.nx i with
  | none=>rfl
  | some x=>exact absurd hi (h.lo.2.2.2 i x hx)
theorem DI.new (h:DI ins first size P D C a c H) {i:Nat} (hi:H.length≤i):i≠D∧i≠C∧a.st i=none∧a.nx i=none:=by
 obtain⟨es,hC,_⟩:=h.cache
 have hDl:=(List.getElem?_eq_some_iff.1 h.d).1
 have hCl:=(List.getElem?_eq_some_iff.1 hC).1
 refine⟨by omega,by omega,?_,?_⟩
 ·cases hx:a.st i with
  | none=>rfl
  | some x=>have:=(h.st_at hx).1;omega
 ·cases hx:a.nx i with
  | none=>rfl
  | some x=>have:=(h.nx_at hx).1;omega
end
structure FR (RD LB LB':Nat) (H H':List MB):Prop where
 lb:LB' = LB∨H.length≤LB'
 len:H.length≤H'.length
 same:∀ i,i≠RD→i≠LB→i < H.length→H'[i]?=H[i]?
theorem FR.refl (RD LB:Nat) (H:List MB):FR RD LB LB H H:=⟨.inl rfl,Nat.le_refl _,fun _ _ _ _=>rfl⟩
theorem FR.trans {RD LB LB1 LB2:Nat} {H H1 H2:List MB} (h:FR RD LB LB1 H H1) (h2:FR RD LB1 LB2 H1 H2):FR RD LB LB2 H H2:=by
 refine⟨?_,Nat.le_trans h.len h2.len,fun i i1 i2 i3=>?_⟩
 ·rcases h2.lb with e|e
  ·rw[e];exact h.lb
  ·exact .inr (Nat.le_trans h.len e)
 ·have:i≠LB1:=by
   rcases h.lb with e|e
   ·rw[e];exact i2
   ·omega
  rw[h2.same i i1 this (Nat.lt_of_lt_of_le i3 h.len),h.same i i1 i2 i3]
end
section
attribute [local go_sem] evAppend frzB tySzE List.head?_drop Nat.mul_one sameAt_zero sameAt_two sameAt_three sameAt_four sameAt_five room_ok
open Go.Proofs Go.RowKit Go.IntWalk
set_option maxRecDepth 100000
set_option maxHeartbeats 4000000
def endsL (ins:List Ins) (first:List Nat) (xs:List Int):List Int:=(List.range (xs.length+1)).map fun p=>runL ins (xs.drop p) p first (-1)
def endsC (ins:List Ins) (size:Nat) (first:List Nat) (xs:List Int) (c:CS):Nat→CS
 | 0=>c
 | n+1=>runC ins size (xs.drop n) first ((endsC ins size first xs c n).need size first)
theorem runC_made (ins:List Ins) (size:Nat):∀(xs:List Int) (l:List Nat) (c:CS),(runC ins size xs l c).made≤c.made+xs.length
 | xs,l,c=>by
   by_cases hl:l=[]
   ·subst hl;rw[runC_nil];omega
   ·cases xs with
    | nil=>simp[runC,hl]
    | cons x xs=>
      simp only[runC,if_neg hl]
      have h1:=runC_made ins size xs (nextL ins l x) (c.need size (nextL ins l x))
      have h2:=CS.need_made c size (nextL ins l x)
      simp only[List.length_cons]
      omega
theorem endsC_made (ins:List Ins) (size:Nat) (first:List Nat) (xs:List Int) (c:CS):∀ n,(endsC ins size first xs c n).made≤c.made+n * (xs.length+1)
 | 0=>by simp[endsC]
 | n+1=>by
   have h1:=endsC_made ins size first xs c n
   have h2:=runC_made ins size (xs.drop n) first ((endsC ins size first xs c n).need size first)
   have h3:=CS.need_made (endsC ins size first xs c n) size first
   rw[List.length_drop]at h2
   simp only[endsC]
   rw[Nat.succ_mul]
   omega
theorem fill_set {l:List Int} {N n:Nat} {v:Int} (hl:l.length=N) (h:n < N) (hv:l[n]?=some v):(l.take n++List.replicate (N - n) 0).set n v=l.take (n+1)++List.replicate (N - (n+1)) 0:=by
 have ht:(l.take n).length=n:=by rw[List.length_take];omega
 rw[List.set_append_right _ _ (by omega),ht,Nat.sub_self,List.take_add_one,hv]
 obtain⟨m,hm⟩:∃ m,N - n=m+1:=⟨N - n - 1,by omega⟩
 rw[hm,show N - (n+1)=m by omega]
 simp[List.replicate_succ]
theorem fill_at {l:List Int} {N n:Nat} (hl:l.length=N) (h:n < N):(l.take n++List.replicate (N - n) 0)[n]?=some 0:=by
 have ht:(l.take n).length=n:=by rw[List.length_take];omega
 rw[List.getElem?_append_right (by omega),ht,Nat.sub_self,List.getElem?_replicate,if_pos (by omega)]
theorem fill_len {l:List Int} {N n:Nat} (hl:l.length=N) (h:n≤N):(l.take n++List.replicate (N - n) 0).length=N:=by
 rw[List.length_append,List.length_take,List.length_replicate];omega
theorem endsL_len (ins:List Ins) (first:List Nat) (xs:List Int):(endsL ins first xs).length=xs.length+1:=by simp[endsL]
theorem endsL_at (ins:List Ins) (first:List Nat) (xs:List Int) {n:Nat} (h:n < xs.length+1):(endsL ins first xs)[n]?=some (runL ins (xs.drop n) n first (-1)):=by simp[endsL,h]
structure ES where
 n:Nat
 H:List MB
 a:Lay2
theorem kf20e {ins:List Ins} {first:List Nat} {size:Nat} {P:Nat→Prop} {D C:Nat} {a:Lay2} {c:CS} {H:List MB} (hi:DI ins first size P D C a c H) (ho:InsOk ins) (hf1:∀ n∈first,n < ins.length) (hf2:first.length≤ins.length) (xs:List Int) (hx:xs.length≤65536) (hmd:c.made+5000000000≤4000000000000) :
  ∃ r,(∃ H' a',r=(AV.tup [.sl false ((endsL ins first xs).map I),I 0],H')∧DI ins first size P D C a' (endsC ins size first xs c (xs.length+1)) H'∧KeepsLow P H H')∧call Try.prog pol1 11 [.rf D 1 0 0,.sl false (xs.map I)] H=some r:=by
 have rp:∀ H1 r H,retPol pol1 11 H1 r H=some (r,H):=fun H1 r H=>rfl
 have hel:=endsL_len ins first xs
 have hpx:AV.plain (.sl false (xs.map I))=true:=by simp[AV.plain,plain_ints]
 refine call_run2E (pol:=pol1) Try.func11 rfl rfl rfl rfl (frzArgs_mix _ _ _ (by simp only[mixOk,hpx,Bool.or_true,Bool.true_and];rfl)) ?_
 simp +contextual (disch:=omega) only[Try.f11,dd11,go_sem,↓reduceIte,List.reduceReplicate,Nat.reduceAdd,Nat.reduceSub,reduceCtorEq,Nat.reduceLeDiff,Nat.reduceMul,Nat.reduceLT,Nat.reduceEqDiff,Int.reduceBNe,Int.reduceBEq,Int.reduceEq,Int.reduceLT,Int.reduceLE,Int.reduceGT,Int.reduceGE,List.length_append,List.map_append,mu11,Nat.reduceBEq,↓wrap_up,↓wrap_down,↓wrap_pred,↓wrap_sub_nat,Int.reduceToNat]
 have hi1:DI ins first size (fun i=>P i∨i=H.length) D C a c (H++[.row 1 (List.replicate (xs.length+1) (I 0)) 0]):=
  (hi.push _).repro (fun i hp=>by
    rw[List.length_append]
    rcases hp with hp|hp
    ·have:=hi.lo.1 i hp;omega
    ·rw[hp];simp) (fun i hp=>by
    rcases hp with hp|hp
    ·exact hi.off hp
    ·exact hi.new (by omega))
 refine W_for (σ:=ES) (M:=(mskOf (pol1.mask 11) (pol1.gc 11) (pol1.acts 11) H.length 5)) rfl (fun x=>(⟨29,[(17,I x.n),(16,I (xs.length+1:Nat)),(6,.ms H.length 1 (xs.length+1) 0 (xs.length+1)),(1,.sl false (xs.map I)),(0,.rf D 1 0 0)],x.H⟩:St))
  (fun x=>x.n≤xs.length+1∧DI ins first size (fun i=>P i∨i=H.length) D C x.a (endsC ins size first xs c x.n) x.H∧x.H[H.length]?=some (.row 1 (((endsL ins first xs).take x.n++List.replicate (xs.length+1 - x.n) 0).map I) 0)∧KeepsLow P H x.H)
  (fun x=>xs.length+1 - x.n) ⟨0,H++[MB.row 1 (List.replicate (xs.length+1) (I 0)) 0],a⟩ ?_ ⟨Nat.zero_le _,hi1,by simp,⟨by simp,fun i hp=>List.getElem?_append_left (hi.lo.1 i hp)⟩⟩ _ ?_
 ·rintro⟨n,H1,a1⟩ ⟨q1,q2,q3,q4⟩
  simp only at q1 q2 q3 q4 ⊢
  have hmd1:=endsC_made ins size first xs c n
  have hmul:n * (xs.length+1)≤65537 * 65537:=Nat.mul_le_mul (by omega) (by omega)
  by_cases hn:n < xs.length+1
  ·obtain⟨_,⟨H2,a2,rfl,d2,le2,low2⟩,hc⟩:=kf31 q2 ho hf1 hf2 xs (by omega) n (by omega) (by omega)
   have hE:H2[H.length]?=_:=(low2.2 H.length (.inr rfl)).trans q3
   have hat:=endsL_at ins first xs hn
   have h1:=fill_at hel hn
   have h2:=fill_set hel hn hat
   have h3:=fill_len hel (n:=n) (by omega)
   have h1':(((endsL ins first xs).take n++List.replicate (xs.length+1 - n) 0).map I)[n]?=some (I 0):=by rw[List.getElem?_map,h1];rfl
   have h2':(((endsL ins first xs).take n++List.replicate (xs.length+1 - n) 0).map I).set n (I (runL ins (xs.drop n) n first (-1)))=((endsL ins first xs).take (n+1)++List.replicate (xs.length+1 - (n+1)) 0).map I:=by rw[← h2,List.map_set]
   have h3':(((endsL ins first xs).take n++List.replicate (xs.length+1 - n) 0).map I).length=xs.length+1:=by rw[List.length_map,h3]
   generalize ((endsL ins first xs).take n++List.replicate (xs.length+1 - n) 0).map I=E at *
   have hlt:=(List.getElem?_eq_some_iff.1 hE).1
   simp +contextual (disch:=omega) only[Try.f11,dd11,go_sem,↓reduceIte,List.reduceReplicate,Nat.reduceAdd,Nat.reduceSub,reduceCtorEq,Nat.reduceLeDiff,Nat.reduceMul,Nat.reduceLT,Nat.reduceEqDiff,Int.reduceBNe,Int.reduceBEq,Int.reduceEq,Int.reduceLT,Int.reduceLE,Int.reduceGT,Int.reduceGE,mu11,Nat.reduceBEq,↓wrap_up,↓wrap_down,↓wrap_pred,↓wrap_sub_nat,Int.reduceToNat,hc,hE,h1',h2',h3']
   refine⟨⟨n+1,H2.set H.length (.row 1 (((endsL ins first xs).take (n+1)++List.replicate (xs.length+1 - (n+1)) 0).map I) 0),a2⟩,⟨by show n+1≤_;omega,d2.frame (by simp) (fun i hp hi=>List.getElem?_set_ne (fun e=>hp (.inr e.symm))),List.getElem?_set_self hlt,⟨by rw[List.length_set];exact Nat.le_trans q4.1 low2.1,fun i hp=>?_⟩⟩,by show xs.length+1 - (n+1) < xs.length+1 - n;omega,rfl⟩
   rw[List.getElem?_set_ne (by have:=hi.lo.1 i hp;omega),low2.2 i (.inl hp)]
   exact q4.2 i hp
  ·obtain rfl:n=xs.length+1:=by omega
   rw[List.take_of_length_le (by omega),Nat.sub_self,List.replicate_zero,List.append_nil]at q3
   have hlt:=(List.getElem?_eq_some_iff.1 q3).1
   have hrow:getRow H1 H.length=some (1,(endsL ins first xs).map I,0):=by unfold getRow;rw[q3]
   have hfz:=fz_row (tot:=xs.length+1) hrow (by rw[List.length_map];exact hel) (plain_ints _)
   have hm:mark H1 H.length (xs.length+1)=H1.set H.length (.row 1 ((endsL ins first xs).map I) (xs.length+1)):=by
    unfold mark;rw[hrow];simp
   rw[hm]at hfz
   simp +contextual (disch:=omega) only[Try.f11,dd11,go_sem,↓reduceIte,List.reduceReplicate,Nat.reduceAdd,Nat.reduceSub,reduceCtorEq,Nat.reduceLeDiff,Nat.reduceMul,Nat.reduceLT,Nat.reduceEqDiff,Int.reduceBNe,Int.reduceBEq,Int.reduceEq,Int.reduceLT,Int.reduceLE,Int.reduceGT,Int.reduceGE,List.length_append,List.map_append,mu11,Nat.reduceBEq,↓wrap_up,↓wrap_down,↓wrap_pred,↓wrap_sub_nat,Int.reduceToNat,hfz]
   refine⟨_,⟨H1.set H.length (.row 1 ((endsL ins first xs).map I) (xs.length+1)),a1,rfl,?_,⟨by rw[List.length_set];exact q4.1,fun i hp=>?_⟩⟩,rp _ _ _⟩
   ·have d3:=q2.frame (H':=H1.set H.length (.row 1 ((endsL ins first xs).map I) (xs.length+1))) (by simp) (fun i hp hi=>List.getElem?_set_ne (fun e=>hp (.inr e.symm)))
    exact d3.repro (fun i hp=>d3.lo.1 i (.inl hp)) (fun i hp=>d3.off (.inl hp))
   ·rw[List.getElem?_set_ne (by have:=hi.lo.1 i hp;omega)]
    exact q4.2 i hp
 ·simp only[List.take_zero,List.nil_append,Nat.sub_zero,List.map_replicate]
  rfl
end
section
attribute [local go_sem] evAppend List.length_append List.map_append tySzE List.head?_drop Nat.mul_one sameAt_zero sameAt_two sameAt_three sameAt_four sameAt_five room_ok
open Go.Proofs Go.RowKit Go.IntWalk
set_option maxRecDepth 100000
set_option maxHeartbeats 4000000
abbrev ownAV (id:Nat) (g:Prg):AV:=.agg [.ms id 5 g.ins.length 0 g.ins.length,I g.caps,.bool g.runes]
theorem thaw27 (g:Prg) (hb:PrgB g) {H:List MB} {id z:Nat} (hr:H[id]?=some (.row 5 (g.ins.map insAV) z)):evThaw (call Try.prog pol1) 27 [ownAV id g] H=some (I (acceptG g),H):=by
 have h1:getRow H id=some (5,g.ins.map insAV,z):=by unfold getRow;rw[hr]
 have h2:(g.ins.map insAV).all (fun x=>AV.underL 0 x.cells)=true:=by
  rw[List.all_eq_true]
  intro x hx
  obtain⟨i,_,rfl⟩:=List.mem_map.1 hx
  simp[insAV,AV.cells,AV.underL,AV.under,underL_plain,plain_span]
 have h3:thwA H [ownAV id g]=some [prgAV g]:=by
  simp only[thwA,thw,thwL,thw1,h1]
  rw[if_pos ⟨List.length_map _,trivial,trivial,trivial,h2⟩]
  rfl
 unfold evThaw
 rw[h3]
 simp only[kf27 g hb []]
theorem kf28m (g:Prg) (hl:0 < g.ins.length∧g.ins.length≤1000000) {K:List MB} {id z:Nat} (hr:K[id]?=some (.row 5 (g.ins.map insAV) z)):call Try.prog pol1 28 [.ms id 5 g.ins.length 0 g.ins.length] K=some (.ms K.length 5 g.ins.length 0 g.ins.length,K++[.row 5 (g.ins.map insAV) 0]):=by
 rw[call_eq]
 unfold evStep
 rw[if_neg (show ¬ pol1.pure 28=true by decide)]
 show cloneExtO 5 56 [.ms id 5 g.ins.length 0 g.ins.length] K=_
 have h1:((g.ins.map insAV).all fun y=>decide (y.cells.length=5) && y.cells.all AV.ok)=true:=by
  rw[List.all_eq_true]
  intro y hy
  obtain⟨p,_,rfl⟩:=List.mem_map.1 hy
  rfl
 have h2:roomFor (g.ins.map insAV).length 56=true:=room_ok (by simp;omega) (by omega)
 have h3:elemsOf K (.ms id 5 g.ins.length 0 g.ins.length)=some (g.ins.map insAV):=by
  have h4:getRow K id=some (5,g.ins.map insAV,z):=by unfold getRow;rw[hr]
  simp only[elemsOf,h4]
  rw[if_pos ⟨List.length_map _,trivial⟩,List.drop_zero,List.take_of_length_le (by simp)]
 unfold cloneExtO
 simp only[h3]
 rw[if_pos ⟨h1,h2⟩]
 generalize hgi:g.ins=l at *
 cases l with
 | nil=>simp at hl
 | cons y ys=>simp
theorem kf9_bad (g:Prg) (hb:PrgB g) (cache:Int) (H:List MB) {id z:Nat} (hr:H[id]?=some (.row 5 (g.ins.map insAV) z)) (h:acceptG g≠0):∃ H',call Try.prog pol1 9 [ownAV id g,I cache] H=some (.tup [.nilp,I (acceptG g)],H')∧KeepsLow (fun i=>i < H.length) H H':=by
 have hidl:=(List.getElem?_eq_some_iff.1 hr).1
 have hr1:∀ x:MB,(H++[x])[id]?=some (.row 5 (g.ins.map insAV) z):=fun x=>by rw[List.getElem?_append_left hidl];exact hr
 have hv:=fun x:MB=>thaw27 g hb (hr1 x)
 have rp:∀ H1 r H,retPol pol1 9 H1 r H=some (r,H):=fun H1 r H=>rfl
 have hgl:=fun x:MB=>kget_last H x
 refine⟨H++[.row 3 [ownAV id g] 0],?_,by simp,fun i hi=>List.getElem?_append_left hi⟩
 refine call_run2 (pol:=pol1) Try.func9 rfl rfl rfl rfl (frzArgs_mix _ _ _ rfl) ?_
 simp +contextual (disch:=omega) only[Try.f9,dd9,go_sem,simprocAttr,frzB,mu9,↓wrap_up,↓wrap_down,↓wrap_pred,↓wrap_sub_nat,hv,hgl]
 rfl
theorem kf9_arg (g:Prg) (hb:PrgB g) (cache:Int) (hc:¬ (1≤cache∧cache≤1024)) (H:List MB) {id z:Nat} (hr:H[id]?=some (.row 5 (g.ins.map insAV) z)) (h:acceptG g=0):∃ H',call Try.prog pol1 9 [ownAV id g,I cache] H=some (.tup [.nilp,I 1],H')∧KeepsLow (fun i=>i < H.length) H H':=by
 have hidl:=(List.getElem?_eq_some_iff.1 hr).1
 have hr1:∀ x:MB,(H++[x])[id]?=some (.row 5 (g.ins.map insAV) z):=fun x=>by rw[List.getElem?_append_left hidl];exact hr
 have hv:=fun x:MB=>thaw27 g hb (hr1 x)
 simp only[h]at hv
 have rp:∀ H1 r H,retPol pol1 9 H1 r H=some (r,H):=fun H1 r H=>rfl
 have hgl:=fun x:MB=>kget_last H x
 refine⟨H++[.row 3 [ownAV id g] 0],?_,by simp,fun i hi=>List.getElem?_append_left hi⟩
 refine call_run2 (pol:=pol1) Try.func9 rfl rfl rfl rfl (frzArgs_mix _ _ _ rfl) ?_
 by_cases h1:cache < 1
 ·simp +contextual (disch:=omega) only[Try.f9,dd9,go_sem,simprocAttr,frzB,mu9,↓wrap_up,↓wrap_down,↓wrap_pred,↓wrap_sub_nat,hv,hgl]
  rfl
 ·simp +contextual (disch:=omega) only[Try.f9,dd9,go_sem,simprocAttr,frzB,mu9,↓wrap_up,↓wrap_down,↓wrap_pred,↓wrap_sub_nat,hv,hgl]
  rfl
theorem kf9n (g:Prg) (hb:PrgB g) (hl:Leads g.ins) (h0:0 < g.ins.length) (hN:g.ins.length≤8192) (size:Nat) (hs:1≤size∧size≤1024) (H:List MB) {id z:Nat} (hr:H[id]?=some (.row 5 (g.ins.map insAV) z)) (h:acceptG g=0) :
  ∃ r,(∃ D C H' a,r=(AV.tup [.rf D 1 0 0,I 0],H')∧DI g.ins (stateL g.ins [0]) size (fun i=>i < H.length) D C a ⟨[],0,0⟩ H'∧KeepsLow (fun i=>i < H.length) H H')∧call Try.prog pol1 9 [ownAV id g,I size] H=some r:=by
 have hidl:=(List.getElem?_eq_some_iff.1 hr).1
 have hr1:∀ x:MB,(H++[x])[id]?=some (.row 5 (g.ins.map insAV) z):=fun x=>by rw[List.getElem?_append_left hidl];exact hr
 have hv:=fun x:MB=>thaw27 g hb (hr1 x)
 simp only[h]at hv
 have rp:∀ H1 r H,retPol pol1 9 H1 r H=some (r,H):=fun H1 r H=>rfl
 have hgl:=fun x:MB=>kget_last H x
 have hc30:=kf30l g.ins (by omega) hl [0] (by simp) (by simpa using h0)
 simp only[List.map_cons,List.map_nil]at hc30
 have hcl:=fun x:MB=>kf28m g ⟨h0,by omega⟩ (hr1 x)
 refine call_run2E (pol:=pol1) Try.func9 rfl rfl rfl rfl (frzArgs_mix _ _ _ rfl) ?_
 simp +contextual (disch:=omega) only[Try.f9,dd9,go_sem,simprocAttr,frzB,mu9,↓wrap_up,↓wrap_down,↓wrap_pred,↓wrap_sub_nat,hv,hgl,hcl]
 rw[List.append_assoc]
 simp only[List.cons_append,List.nil_append]
 have gg:∀ y z:MB,(H++[y,z])[H.length+1]?=some z:=fun y z=>by rw[List.getElem?_append_right (by omega)];simp
 have ss:∀ y z v:MB,(H++[y,z]).set (H.length+1) v=H++[y,v]:=fun y z v=>by rw[List.set_append_right _ _ (by omega)];simp
 refine W_count (M:=(mskOf (pol1.mask 9) (pol1.gc 9) (pol1.acts 9) 0 8)) rfl g.ins.length (fun i=>(⟨47,[(25,I i),(24,I g.ins.length),(7,.ms (H.length+1) 5 g.ins.length 0 g.ins.length),(1,I size)],H++[.row 3 [ownAV id g] 0,.row 5 (g.ins.map insAV) 0]⟩:St)) (fun _=>True) ?_ ?_ trivial _ ?_
 ·intro i hi _
  obtain⟨p,hp⟩:∃ p,g.ins[i]?=some p:=⟨_,List.getElem?_eq_getElem hi⟩
  have hp':(g.ins.map insAV)[i]?=some (insAV p):=by simp[hp]
  have hset:(g.ins.map insAV).set i (insAV p)=g.ins.map insAV:=by
   apply List.ext_getElem?
   intro q
   by_cases e:i=q
   ·subst e;rw[List.getElem?_set_self (by simpa using hi),hp']
   ·rw[List.getElem?_set_ne e]
  have hc29:=fun x y:MB=>kf29n p.set (hb.2 p (List.mem_of_getElem? hp)) (H++[x]) y
  simp only[List.append_assoc,List.cons_append,List.nil_append]at hc29
  simp +contextual (disch:=omega) only[Try.f9,dd9,go_sem,simprocAttr,frzB,mu9,↓wrap_up,↓wrap_down,↓wrap_pred,↓wrap_sub_nat,gg,ss,hp',hc29,hset]
  rfl
 ·intro _
  have hcl30:call Try.prog pol1 30 [.ms (H.length+1) 5 g.ins.length 0 g.ins.length,.sl true [I 0]] (H++[.row 3 [ownAV id g] 0,.row 5 (g.ins.map insAV) 0]) =
    some (.sl false ((stateL g.ins [0]).map NV),H++[.row 3 [ownAV id g] 0,.row 5 (g.ins.map insAV) g.ins.length]):=by
   have hrow:getRow (H++[.row 3 [ownAV id g] 0,.row 5 (g.ins.map insAV) 0]) (H.length+1)=some (5,g.ins.map insAV,0):=by unfold getRow;rw[gg]
   have hz:=fz_row (tot:=g.ins.length) hrow (by simp) (plain_ins g.ins)
   have hm:mark (H++[.row 3 [ownAV id g] 0,.row 5 (g.ins.map insAV) 0]) (H.length+1) g.ins.length=H++[.row 3 [ownAV id g] 0,.row 5 (g.ins.map insAV) g.ins.length]:=by
    unfold mark
    rw[hrow]
    simp only[ss,Nat.zero_max,Nat.max_eq_right (Nat.zero_le _)]
   rw[hm]at hz
   rw[call_frz2 (l:=[.sl false (g.ins.map insAV),.sl false [I 0]]) rfl ?_ (by simp[AV.plainL,AV.plain,plain_ins])]
   ·exact hc30 _
   ·have h1:pol1.byref 30 0=false:=rfl
    have h2:pol1.byref 30 (0+1)=false:=rfl
    simp only[frzArgs,h1,h2,Bool.false_eq_true,if_false,hz,fz_slp (l:=[I 0]) rfl]
  have hfrz:∀(n:Nat) (t:Tm),frzB ⟨n,t,H++[.row 3 [ownAV id g] 0,.row 5 (g.ins.map insAV) g.ins.length]++[.mp .str []]++[.row 6 [.agg [.ms (H.length+1) 5 g.ins.length 0 g.ins.length,.sl false ((stateL g.ins [0]).map NV),I size,.mpr (H.length+2),.int .i64 0,.int .i64 0]] 0]⟩ (H.length+2+1) =
    ⟨n,t,H++[.row 3 [ownAV id g] 0,.row 5 (g.ins.map insAV) g.ins.length,.mp .str [],.row 6 [dfaAV g.ins (stateL g.ins [0]) size (H.length+2) ⟨[],0,0⟩] 0]⟩:=by
   intro n t
   simp only[List.append_assoc,List.cons_append,List.nil_append]
   generalize hHH:H++[.row 3 [ownAV id g] 0,.row 5 (g.ins.map insAV) g.ins.length,.mp .str [],.row 6 [.agg [.ms (H.length+1) 5 g.ins.length 0 g.ins.length,.sl false ((stateL g.ins [0]).map NV),I size,.mpr (H.length+2),.int .i64 0,.int .i64 0]] 0]=HH
   have r1:getRow HH (H.length+1)=some (5,g.ins.map insAV,g.ins.length):=by
    unfold getRow;rw[← hHH,List.getElem?_append_right (by omega)];simp
   have r3:getRow HH (H.length+2+1)=some (6,[.agg [.ms (H.length+1) 5 g.ins.length 0 g.ins.length,.sl false ((stateL g.ins [0]).map NV),I size,.mpr (H.length+2),.int .i64 0,.int .i64 0]],0):=by
    unfold getRow;rw[← hHH,List.getElem?_append_right (by omega)];simp[show H.length+2+1 - H.length=3 by omega]
   have hm:mark HH (H.length+1) g.ins.length=HH:=by
    unfold mark
    rw[r1]
    simp only[Nat.max_self]
    rw[← hHH,List.set_append_right _ _ (by omega)];simp
   have hz:=fzA_row (n:=5) (tot:=g.ins.length) r1 (by simp) (plain_ins g.ins)
   rw[hm]at hz
   have hp:=fzL_plain (fzJ 6) ((stateL g.ins [0]).map NV) HH (plain_nv _)
   have hfz:fzs [.agg [.ms (H.length+1) 5 g.ins.length 0 g.ins.length,.sl false ((stateL g.ins [0]).map NV),I size,.mpr (H.length+2),.int .i64 0,.int .i64 0]] HH=some ([dfaAV g.ins (stateL g.ins [0]) size (H.length+2) ⟨[],0,0⟩],HH):=by
    simp only[fzs,fzL,fzA_agg,hz,fzA_sl,hp,fzA_int]
    rfl
   unfold frzB
   simp only[r3,hfz,AV.beqL_refl,if_true]
   rw[← hHH,List.set_append_right _ _ (by omega)]
   simp[show H.length+2+1 - H.length=3 by omega]
  simp +contextual (disch:=omega) only[Try.f9,dd9,go_sem,simprocAttr,mu9,↓wrap_up,↓wrap_down,↓wrap_pred,↓wrap_sub_nat,gg,ss,hcl30,hfrz]
  refine⟨_,⟨_,H.length+2,_,⟨fun _=>none,fun _=>none⟩,rfl,?_,?_⟩,rp _ _ _⟩
  ·refine⟨?_,⟨fun i hi=>by simp;omega,⟨by omega,by omega⟩,fun i x h=>(by cases h),fun i x h=>(by cases h)⟩,⟨[],?_,rfl,fun i l h=>by simp at h⟩,fun t l f h=>(by cases h),fun q l h=>(by cases h),⟨by simp,by simp,by simp,hs.1,hs.2⟩⟩
   ·rw[List.getElem?_append_right (by omega)];simp[show H.length+2+1 - H.length=3 by omega]
   ·rw[List.getElem?_append_right (by omega)];simp
  ·exact⟨by simp,fun i hi=>List.getElem?_append_left hi⟩
 ·rfl
end
section
attribute [local go_sem] frzB List.length_append List.map_append tySzE List.head?_drop Nat.mul_one sameAt_zero sameAt_two sameAt_three sameAt_four sameAt_five room_ok
open Go.Proofs Go.RowKit Go.IntWalk
set_option maxRecDepth 100000
set_option maxHeartbeats 4000000
theorem app_in {K:List MB} {i n:Nat} {rs:List Ins} {p:Ins} {t:Bool} (hi:getRow K i=some (5,rs.map insAV,0)) (hn:rs.length=n) (hr:n+1≤4000000000) :
  evAppend Try.prog K 42 42 (.ms i 5 n 0 n) (.sl t [.agg [I p.op,I p.x,I p.y,I p.n,.sl false (p.set.map spanAV)]])=some (.ms i 5 (n+1) 0 (n+1),K.set i (.row 5 ((rs++[p]).map insAV) 0)):=by
 have hs:srcElems Try.prog K 51 (.sl t [insAV p])=some [insAV p]:=rfl
 rw[evAppend_end (e:=51) (by kernel_rfl) (by kernel_rfl) (k:=5) (by kernel_rfl) (by_:=56) (by kernel_rfl) (ze:=.agg [.int .i64 0,.int .i64 0,.int .i64 0,.int .i64 0,.sl true []]) (by kernel_rfl) rfl (by omega) hs (by simp[AV.cells,AV.ok]) hi (by rw[List.length_map];exact hn) (Nat.zero_le _) (room_ok (by simp;omega) (by omega))]
 rw[List.map_append];rfl
structure RKS where
 i:Nat
 K:List MB
theorem kf10 (g:Prg) (hl:g.ins.length≤1000000) (H:List MB):∃ H',call Try.prog pol1 10 [prgAV g] H=some (ownAV (H.length+3) g,H')∧H'[H.length+3]?=some (.row 5 (g.ins.map insAV) 0)∧KeepsLow (fun i=>i < H.length) H H':=by
 suffices h:∃ r:AV×List MB,(∃ H',r=(ownAV (H.length+3) g,H')∧H'[H.length+3]?=some (.row 5 (g.ins.map insAV) 0)∧KeepsLow (fun i=>i < H.length) H H')∧call Try.prog pol1 10 [prgAV g] H=some r by
  obtain⟨_,⟨H',rfl,h1,h2⟩,h3⟩:=h
  exact⟨H',h3,h1,h2⟩
 have rp:∀ H1 r H,retPol pol1 10 H1 r H=some (r,H):=fun H1 r H=>rfl
 refine call_run2E (pol:=pol1) Try.func10 rfl rfl rfl rfl (frzArgs_mix _ _ _ (by have h:=plain_prg g;simp only[mixOk,h,Bool.or_true,Bool.true_and])) ?_
 have e0:∀ a:MB,(H++[a])[H.length]?=some a:=fun a=>kget_last H a
 have e1:∀ a b:MB,(H++[a]++[b])[H.length]?=some a:=fun a b=>by simp
 have e2:∀ a b c:MB,(H++[a]++[b]++[c])[H.length]?=some a:=fun a b c=>by simp
 have e3:∀ a b c:MB,(H++[a]++[b]++[c])[H.length+2]?=some c:=fun a b c=>by rw[List.getElem?_append_right (by simp)]<;>simp
 have s3:∀ a b c d:MB,(H++[a]++[b]++[c]).set (H.length+2) d=H++[a]++[b]++[d]:=fun a b c d=>by rw[List.set_append_right _ _ (by simp)]<;>simp
 simp +contextual (disch:=omega) only[Try.f10,dd10,go_sem,simprocAttr,evAppend,mu10,↓wrap_up,↓wrap_down,↓wrap_pred,↓wrap_sub_nat,e0,e1,e2,e3,s3]
 refine W_for (σ:=RKS) (M:=(mskOf (pol1.mask 10) (pol1.gc 10) (pol1.acts 10) H.length 3)) rfl (fun x=>(⟨40,[(4,I x.i),(3,.rf (H.length+1+1) 1 0 0),(2,.rf (H.length+1) 1 0 0),(1,.rf H.length 1 0 0)],x.K⟩:St))
  (fun x=>x.i≤g.ins.length∧x.K[H.length]?=some (.row 3 [prgAV g] 0)∧x.K[H.length+1]?=some (.row 3 [.agg [.sl true [],I 0,.bool false]] 0)∧x.K[H.length+1+1]?=some (.row 3 [.agg [.ms (H.length+1+1+1) 5 x.i 0 x.i,I g.caps,.bool g.runes]] 0) ∧
    x.K[H.length+1+1+1]?=some (.row 5 ((g.ins.take x.i).map insAV) 0)∧∀ j,j < H.length→x.K[j]?=H[j]?) (fun x=>g.ins.length - x.i)
  ⟨0,H++[.row 3 [prgAV g] 0]++[.row 3 [.agg [.sl true [],I 0,.bool false]] 0]++[.row 3 [.agg [.ms (H.length+1+1+1) 5 0 0 0,I g.caps,.bool g.runes]] 0]++[.row 5 [] 0]⟩ ?_ ⟨Nat.zero_le _,by simp,?_,?_,?_,fun j hj=>?_⟩ _ rfl
 ·rintro⟨i,K⟩ ⟨q1,q2,q3,q4,q5,q6⟩
  simp only at q1 q2 q3 q4 q5 q6 ⊢
  have hK:=(List.getElem?_eq_some_iff.1 q5).1
  by_cases hi:i < g.ins.length
  ·obtain⟨p,hp⟩:∃ p,g.ins[i]?=some p:=⟨_,List.getElem?_eq_getElem hi⟩
   have hp':(g.ins.map insAV)[i]?=some (insAV p):=by simp[hp]
   have hlen:(g.ins.take i).length=i:=by simp;omega
   have htake:g.ins.take (i+1)=g.ins.take i++[p]:=by rw[List.take_add_one,hp];rfl
   have k0:∀ b:MB,(K++[b])[H.length]?=_:=fun b=>(List.getElem?_append_left (by omega)).trans q2
   have k2:∀ b:MB,(K++[b])[H.length+1+1]?=_:=fun b=>(List.getElem?_append_left (by omega)).trans q4
   have k3:∀ b:MB,(K++[b])[H.length+1+1+1]?=_:=fun b=>(List.getElem?_append_left (by omega)).trans q5
   have kl:=fun b:MB=>kget_last K b
   have ks:=fun b c:MB=>kset_last K b c
   have ka:∀(b:MB) (t:Bool),_:=fun b t=>app_in (K:=K++[b]) (i:=H.length+1+1+1) (rs:=g.ins.take i) (p:=p) (t:=t) (by unfold getRow;rw[k3]) hlen (by omega)
   have k4:∀ b v:MB,((K++[b]).set (H.length+1+1+1) v)[H.length+1+1]?=_:=fun b v=>(List.getElem?_set_ne (by omega)).trans (k2 b)
   simp +contextual (disch:=omega) only[Try.f10,dd10,go_sem,simprocAttr,mu10,↓wrap_up,↓wrap_down,↓wrap_pred,↓wrap_sub_nat,q2,k0,k2,k3,kl,ks,hp',ka,k4]
   refine⟨⟨i+1,((K++[MB.row 5 [insAV p] 0]).set (H.length+1+1+1) (.row 5 ((g.ins.take i).map insAV++[insAV p]) 0)).set (H.length+1+1) (.row 3 [.agg [.ms (H.length+1+1+1) 5 (i+1) 0 (i+1),I g.caps,.bool g.runes]] 0)⟩,⟨hi,?_,?_,?_,?_,fun j hj=>?_⟩,by show g.ins.length - (i+1) < g.ins.length - i;omega,rfl⟩
   ·simp only;rw[List.getElem?_set_ne (by omega),List.getElem?_set_ne (by omega)];exact k0 _
   ·simp only;rw[List.getElem?_set_ne (by omega),List.getElem?_set_ne (by omega),List.getElem?_append_left (by omega)];exact q3
   ·simp only;rw[List.getElem?_set_self (by simp;omega)]
   ·simp only;rw[List.getElem?_set_ne (by omega),List.getElem?_set_self (by simp;omega),htake,List.map_append];rfl
   ·simp only;rw[List.getElem?_set_ne (by omega),List.getElem?_set_ne (by omega),List.getElem?_append_left (by omega)];exact q6 j hj
  ·obtain rfl:i=g.ins.length:=by omega
   rw[List.take_length]at q5
   have hse:=fun v:MB=>List.getElem?_set_self (a:=v) (show H.length+1 < K.length by omega)
   simp +contextual (disch:=omega) only[Try.f10,dd10,go_sem,simprocAttr,evAppend,mu10,↓wrap_up,↓wrap_down,↓wrap_pred,↓wrap_sub_nat,q2,q3,q4,hse]
   refine⟨_,⟨_,rfl,?_,?_,fun j hj=>?_⟩,rp _ _ _⟩
   ·rw[List.getElem?_set_ne (by omega)];exact q5
   ·rw[List.length_set];omega
   ·rw[List.getElem?_set_ne (by omega)];exact q6 j hj
 ·rw[List.append_assoc,List.append_assoc,List.append_assoc,List.getElem?_append_right (by omega)];simp
 ·rw[List.append_assoc,List.append_assoc,List.append_assoc,List.getElem?_append_right (by omega)];simp[show H.length+1+1 - H.length=2 by omega]
 ·rw[List.append_assoc,List.append_assoc,List.append_assoc,List.getElem?_append_right (by omega)];simp[show H.length+1+1+1 - H.length=3 by omega]
 ·show (H++_++_++_++_)[j]?=_
  rw[List.append_assoc,List.append_assoc,List.append_assoc,List.getElem?_append_left hj]
end
end Go.Ev
namespace Go.Ev
attribute [local go_sem] evBin AV.cells
section
attribute [local go_sem] evAppend frzB List.length_append List.map_append tySzE List.head?_drop Nat.mul_one sameAt_zero sameAt_two sameAt_three sameAt_four sameAt_five room_ok
open Go.Proofs Go.RowKit Go.IntWalk
set_option maxRecDepth 100000
set_option maxHeartbeats 8000000
section
variable {α:Type} (A K:List α) (x y v:α)
theorem pre_get:(A++x::K)[A.length]?=some x:=by simp
theorem pre_get1:(A++x::y::K)[A.length+1]?=some y:=by
 rw[List.getElem?_append_right (by omega)];simp
theorem pre_set:(A++x::K).set A.length v=A++v::K:=by simp
theorem pre_set1:(A++x::y::K).set (A.length+1) v=A++x::v::K:=by
 rw[List.set_append_right _ _ (by omega)];simp
end
section
variable {k:IntKind} {a b:Int}
end
end
section
attribute [local go_sem] evAppend frzB List.length_append List.map_append
open Go.Proofs Go.RowKit Go.IntWalk
set_option maxRecDepth 100000
set_option maxHeartbeats 4000000
def assertI (n:Int) (b a:Option Int):Bool:=
 let w:=fun(o:Option Int)=>match o with
  | some x=>wordI x
  | none=>false
 let e:=fun(o:Option Int)=>match o with
  | some x=>x == 10
  | none=>true
 if n=0 then b.isNone else if n=1 then a.isNone else if n=2 then e b else if n=3 then e a else if n=4 then w b != w a else if n=5 then w b == w a else false
def befS (t:List Int) (k:Nat):Option Int:=if k=0 then none else t[k - 1]?
end
inductive Goal where
 | nil
 | mk (kind:Int) (re:Re) (k fr:Int) (next:Goal)
def goalA:Goal→AV
 | .nil=>.nilp
 | .mk kind re k fr next=>.pt (I kind::(reC re++[I k,I fr,goalA next]))
abbrev goalC (kind:Int) (re:Re) (k fr:Int) (next:Goal):List AV:=I kind::(reC re++[I k,I fr,goalA next])
theorem plainL_append:∀(a b:List AV),AV.plainL (a++b)=(AV.plainL a && AV.plainL b)
 | [],b=>by simp[AV.plainL]
 | x::a,b=>by simp[AV.plainL,plainL_append a b,Bool.and_assoc]
theorem plain_goal:∀ g:Goal,AV.plain (goalA g)=true
 | .nil=>rfl
 | .mk kind re k fr next=>by
   have h1:=plain_goal next
   have h2:=plain_reC re
   simp[goalA,AV.plain,AV.plainL,plainL_append,h1,h2]
theorem plain_goalC (kind:Int) (re:Re) (k fr:Int) (next:Goal):AV.plainL (goalC kind re k fr next)=true:=by
 have h1:=plain_goal next
 have h2:=plain_reC re
 simp[AV.plain,AV.plainL,plainL_append,h1,h2]
abbrev Caps:=List (Int×Int)
abbrev capA (c:Caps):AV:=.sl false (c.map spanAV)
structure SS where
 steps:Int
 empty:Bool
 ends:List Int
 caps:List Caps
def withI (c:Caps) (n fr to:Int):Caps:=if 1≤n∧n≤c.length then c.set (n - 1).toNat (fr,to) else c
def Re.op:Re→Int | .mk op _ _ _ _ _ _ _=>op
def Re.set:Re→List (Int×Int) | .mk _ set _ _ _ _ _ _=>set
def Re.kids:Re→List Re | .mk _ _ kids _ _ _ _ _=>kids
def Re.mn:Re→Int | .mk _ _ _ mn _ _ _ _=>mn
def Re.mx:Re→Int | .mk _ _ _ _ mx _ _ _=>mx
def Re.md:Re→Int | .mk _ _ _ _ _ md _ _=>md
def Re.n:Re→Int | .mk _ _ _ _ _ _ n _=>n
def stepS (fuel:Int) (s:SS):SS:=⟨s.steps+1,s.empty || decide (fuel < s.steps+1),s.ends,s.caps⟩
abbrev RunT:=Goal→Int→Caps→SS→Option (Bool×SS)
def orR (a:Option (Bool×SS)) (f:SS→Option (Bool×SS)):Option (Bool×SS):=
 match a with
 | none=>none
 | some (true,s)=>some (true,s)
 | some (false,s)=>f s
def repR (fuel:Int) (R:RunT) (re:Re) (k:Int) (next:Goal) (i:Int) (c:Caps) (s:SS):Option (Bool×SS):=
 let s1:=stepS fuel s
 if s1.empty=true then some (true,s1)
 else
  match re.kids with
  | []=>none
  | kid::_=>
    let once:=Goal.mk 0 kid 0 0 (.mk 2 re k i next)
    let more:Bool:=decide (re.mx = -1) || decide (k < re.mx)
    if k < re.mn then R once i c s1
    else if re.md=1 then orR (R next i c s1) fun s2=>if more then R once i c s2 else some (false,s2)
    else orR (if more then R once i c s1 else some (false,s1)) fun s2=>R next i c s2
def catG (next:Goal):List Re→Goal
 | []=>next
 | k::ks=>.mk 0 k 0 0 (catG next ks)
def altR (R:RunT) (next:Goal) (i:Int) (c:Caps):List Re→SS→Option (Bool×SS)
 | [],s=>some (false,s)
 | k::ks,s=>orR (R (.mk 0 k 0 0 next) i c s) (altR R next i c ks)
def nodeR (t:List Int) (fuel:Int) (R:RunT) (re:Re) (next:Goal) (i:Int) (c:Caps) (s:SS):Option (Bool×SS):=
 if re.op=4 then repR fuel R re 0 next i c s
 else
  let s1:=stepS fuel s
  if s1.empty=true then some (true,s1)
  else if re.op=1 then
   match t[i.toNat]? with
   | some x=>if hasSpan re.set x=true then R next (i+1) c s1 else some (false,s1)
   | none=>some (false,s1)
  else if re.op=2 then R (catG next re.kids) i c s1
  else if re.op=3 then altR R next i c re.kids s1
  else if re.op=5 then
   match re.kids with
   | []=>none
   | kid::_=>R (.mk 0 kid 0 0 (.mk 3 re 0 i next)) i c s1
  else if re.op=11 then(if assertI re.n (befS t i.toNat) t[i.toNat]?=true then R next i c s1 else some (false,s1))
  else R next i c s1
def runG (t:List Int) (fuel:Int):Nat→RunT
 | 0,_,_,_,_=>none
 | _+1,.nil,i,c,s=>some (false,⟨s.steps,s.empty,s.ends++[i],s.caps++[c]⟩)
 | d+1,.mk kind re k fr next,i,c,s=>
   if kind=1 then repR fuel (runG t fuel d) re k next i c s
   else if kind=2 then(if re.mn≤k∧i=fr then some (false,s) else runG t fuel d (.mk 1 re (k+1) 0 next) i c s)
   else if kind=3 then runG t fuel d next i (withI c re.n fr i) s
   else nodeR t fuel (runG t fuel d) re next i c s
end Go.Ev
namespace Go.Ev
attribute [local go_sem] evBin AV.cells
section
attribute [local go_sem] evAppend frzB List.length_append List.map_append tySzE List.head?_drop Nat.mul_one sameAt_zero sameAt_two sameAt_three sameAt_four sameAt_five room_ok
open Go.Proofs Go.RowKit Go.IntWalk
set_option maxRecDepth 100000
set_option maxHeartbeats 8000000
section
variable {α:Type} (A K:List α) (x y z v:α)
theorem pre_get2:(A++x::y::z::K)[A.length+2]?=some z:=by
 rw[List.getElem?_append_right (by omega)];simp
theorem pre_set2:(A++x::y::z::K).set (A.length+2) v=A++x::y::v::K:=by
 rw[List.set_append_right _ _ (by omega)];simp
end
abbrev sB (m:Nat) (t:List Int) (fuel steps:Int) (empty:Bool) (e:Nat):MB:=.row 7 [.agg [.sl false (t.map I),I (-1),I fuel,I steps,.bool empty,.ms (m+1) 1 e 0 e,.ms (m+2) 1 e 0 e]] 0
abbrev srH (A:List MB) (t:List Int) (fuel:Int) (s:SS) (e:Nat) (K:List MB):List MB:=
 A++sB A.length t fuel s.steps s.empty e::.row 1 (s.ends.map I) 0::.row 1 (s.caps.map capA) 0::K
theorem plain_caps (l:List Caps):AV.plainL (l.map capA)=true:=by
 induction l with
 | nil=>rfl
 | cons a l ih=>simp[AV.plainL,AV.plain,plain_span,ih]
theorem keptOk_pre3 (n:Nat) (x y z x' y' z':MB) (K L:List MB) (h1:MB.under n x' = true) (h2:MB.under n y' = true) (h3:MB.under n z' = true):∀ A:List MB,keptOk n (A++x::y::z::K) (A++x'::y'::z'::(K++L))=true
 | []=>by
   simp only[List.nil_append,keptOk,h1,h2,h3,Bool.or_true,Bool.true_and]
   exact keptOk_self n L K
 | a::A=>by simp[keptOk,MB.beq_refl,keptOk_pre3 n x y z x' y' z' K L h1 h2 h3 A]
theorem take_pre3 {α:Type} (x y z x' y' z':α) (K L:List α):∀ A:List α,(A++x'::y'::z'::(K++L)).take (A++x::y::z::K).length=A++x'::y'::z'::K
 | []=>by simp
 | a::A=>by
   simp only[List.cons_append,List.length_cons,List.take_succ_cons,take_pre3 x y z x' y' z' K L A]
theorem ret_sr {f:Nat} (hk:pol1.keep f=false) (ho:pol1.own f=false) (b:Bool) (A K L:List MB) (t:List Int) (fuel:Int) (s s':SS) (e e':Nat) :
  retPol pol1 f (srH A t fuel s e K) (.bool b) (srH A t fuel s' e' (K++L))=some (.bool b,srH A t fuel s' e' K):=
 retPol_keep hk ho rfl (keptOk_pre3 _ _ _ _ _ _ _ _ _ (by simp[MB.under,AV.underL,AV.under,underL_plain,plain_ints]<;>omega) (by simp[MB.under,underL_plain,plain_ints]) (by simp[MB.under,underL_plain,plain_caps]) A) (take_pre3 _ _ _ _ _ _ _ _ _)
theorem ret_sr0 {f:Nat} (hk:pol1.keep f=false) (ho:pol1.own f=false) (b:Bool) (A K:List MB) (t:List Int) (fuel:Int) (s s':SS) (e e':Nat) :
  retPol pol1 f (srH A t fuel s e K) (.bool b) (srH A t fuel s' e' K)=some (.bool b,srH A t fuel s' e' K):=by
 have:=ret_sr hk ho b A K [] t fuel s s' e e'
 rwa [List.append_nil]at this
theorem f161 (A K:List MB) (t:List Int) (fuel:Int) (s:SS) (e:Nat) (hs:0≤s.steps∧s.steps≤1000000000000) :
  call Try.prog pol1 85 [.rf A.length 1 0 0] (srH A t fuel s e K)=some (.bool (!(stepS fuel s).empty),srH A t fuel (stepS fuel s) e K):=by
 have fr:frzArgs pol1 85 0 [.rf A.length 1 0 0] (srH A t fuel s e K)=some ([.rf A.length 1 0 0],srH A t fuel s e K):=frzArgs_mix _ _ _ rfl
 refine call_run2 (pol:=pol1) Try.func85 rfl rfl rfl rfl fr ?_
 have hw:IntKind.i64.wrap (s.steps+1)=s.steps+1:=by rw[i64_in]<;>omega
 have ret:=fun b s'=>ret_sr0 (f:=85) rfl rfl b A K t fuel s s' e e
 obtain⟨steps,empty,ends,caps⟩:=s
 simp only at hs hw
 by_cases h:fuel < steps+1
 ·have e1:stepS fuel ⟨steps,empty,ends,caps⟩=⟨steps+1,true,ends,caps⟩:=by simp[stepS,h]
  rw[e1]
  simp +contextual (disch:=omega) only[Try.f85,dd85,go_sem,simprocAttr,mu85,↓wrap_up,↓wrap_down,↓wrap_pred,↓wrap_sub_nat,pre_get,pre_set,hw]
  repeat' (first|intro _|apply And.intro|(unfold dOk;kernel_rfl)|exact St.beq_refl _|(show altO _ _ _ _=true;kernel_rfl)|(show (_ || _)=true;kernel_rfl)|(show (_ && _)=true;kernel_rfl))
  exact ret false ⟨steps+1,true,ends,caps⟩
 ·have e1:stepS fuel ⟨steps,empty,ends,caps⟩=⟨steps+1,empty,ends,caps⟩:=by simp[stepS,h]
  rw[e1]
  simp +contextual (disch:=omega) only[Try.f85,dd85,go_sem,simprocAttr,mu85,↓wrap_up,↓wrap_down,↓wrap_pred,↓wrap_sub_nat,pre_get,pre_set,hw]
  repeat' (first|intro _|apply And.intro|(unfold dOk;kernel_rfl)|exact St.beq_refl _|(show altO _ _ _ _=true;kernel_rfl)|(show (_ || _)=true;kernel_rfl)|(show (_ && _)=true;kernel_rfl))
  exact ret (!empty) ⟨steps+1,empty,ends,caps⟩
theorem f162 (l:List (Int×Int)) (x:Int) (hl:l.length≤1000000) (H:List MB):call Try.prog pol1 86 [.sl false (l.map spanAV),I x] H=some (.bool (hasSpan l x),H):=by
 refine call_run Try.func86 rfl rfl rfl rfl rfl rfl (fun _=>rfl) (by simp[AV.plain,AV.plainL,plain_span]) rfl ?_ H
 simp +contextual (disch:=omega) only[Try.f86,dd86,go_sem,simprocAttr,mu86,↓wrap_up,↓wrap_down,↓wrap_pred,↓wrap_sub_nat]
 refine W_count (M:=(mskOf (pol1.mask 86) (pol1.gc 86) (pol1.acts 86) 0 2)) rfl l.length (fun i=>(⟨28,[(5,I i),(1,I x),(0,.sl false (l.map spanAV))],[]⟩:St)) (fun i=>∀ k p,k < i→l[k]?=some p→¬ (p.1≤x∧x≤p.2)) ?_ ?_ (fun k p h=>by omega) _ (by first|rfl|(refine prep_cut rfl (by rfl) (by rfl) (by rfl) ?_ ?_<;>simp[AV.underL,AV.under,MB.under,underL_plain,under_plain,plain_ints,plain_span,plain_ins,plain_prg,-List.map_take]))
 ·intro i hi hg
  obtain⟨p,hp⟩:∃ p,l[i]?=some p:=⟨_,List.getElem?_eq_getElem hi⟩
  by_cases hin:p.1≤x∧x≤p.2
  ·rw[hasSpan_at hp hin]
   simp +contextual (disch:=omega) only[Try.f86,dd86,go_sem,simprocAttr,mu86,↓wrap_up,↓wrap_down,↓wrap_pred,↓wrap_sub_nat,hp,spanAV]
   exact fzEq rfl rfl
  ·have ext:∀ k q,k < i+1→l[k]?=some q→¬ (q.1≤x∧x≤q.2):=fun k q hk hq=>by
    rcases Nat.lt_or_ge k i with h|h
    ·exact hg k q h hq
    ·obtain rfl:k=i:=by omega
     rw[hp]at hq
     obtain rfl:=Option.some.inj hq
     exact hin
   by_cases h1:p.1≤x
   ·simp +contextual (disch:=omega) only[Try.f86,dd86,go_sem,simprocAttr,mu86,↓wrap_up,↓wrap_down,↓wrap_pred,↓wrap_sub_nat,hp,spanAV]
    exact⟨ext,(by first|rfl|(refine prep_cut rfl (by rfl) (by rfl) (by rfl) ?_ ?_<;>simp[AV.underL,AV.under,MB.under,underL_plain,under_plain,plain_ints,plain_span,plain_ins,plain_prg,-List.map_take]))⟩
   ·simp +contextual (disch:=omega) only[Try.f86,dd86,go_sem,simprocAttr,mu86,↓wrap_up,↓wrap_down,↓wrap_pred,↓wrap_sub_nat,hp,spanAV]
    exact⟨ext,(by first|rfl|(refine prep_cut rfl (by rfl) (by rfl) (by rfl) ?_ ?_<;>simp[AV.underL,AV.under,MB.under,underL_plain,under_plain,plain_ints,plain_span,plain_ins,plain_prg,-List.map_take]))⟩
 ·intro hg
  rw[hasSpan_no hg]
  simp +contextual (disch:=omega) only[Try.f86,dd86,go_sem,simprocAttr,mu86,↓wrap_up,↓wrap_down,↓wrap_pred,↓wrap_sub_nat]
  exact fzEq rfl rfl
theorem f167 (x:Int) (H:List MB):call Try.prog pol1 92 [I x] H=some (.bool (wordI x),H):=by
 refine call_run Try.func92 rfl rfl rfl rfl rfl rfl (fun _=>rfl) rfl rfl ?_ H
 simp +contextual (disch:=omega) only[Try.f92,dd92,go_sem,simprocAttr,mu92,↓wrap_up,↓wrap_down,↓wrap_pred,↓wrap_sub_nat]
 repeat' (first|intro _|apply And.intro|refine fzEq rfl (congrArg AV.bool ?_))
 all_goals (rw[Bool.eq_iff_iff];simp[wordI]<;>omega)
theorem f165 (n:Int) (t:List Int) (k:Nat) (hn:0≤n∧n≤5) (hk:k≤t.length) (ht:t.length≤1000000000) (H:List MB):call Try.prog pol1 89 [I n,.sl false (t.map I),I k] H=some (.bool (assertI n (befS t k) t[k]?),H):=by
 refine call_run Try.func89 rfl rfl rfl rfl rfl rfl (fun _=>rfl) (by simp[AV.plain,AV.plainL,plain_ints]) rfl ?_ H
 rcases k with _|k
 ·rcases t with _|⟨x,t⟩
  ·simp +contextual (disch:=omega) only[Try.f89,dd89,go_sem,simprocAttr,mu89,↓wrap_up,↓wrap_down,↓wrap_pred,↓wrap_sub_nat,f167]
   repeat' (first|intro _|apply And.intro|(unfold dOk;kernel_rfl)|(show (_ && _)=true;kernel_rfl)|(show (_ || _)=true;kernel_rfl)|refine fzEq rfl (congrArg AV.bool ?_))
   all_goals (simp_all [assertI,befS];try (intros;omega))
  ·simp +contextual (disch:=omega) only[Try.f89,dd89,go_sem,simprocAttr,mu89,↓wrap_up,↓wrap_down,↓wrap_pred,↓wrap_sub_nat,f167]
   repeat' (first|intro _|apply And.intro|(unfold dOk;kernel_rfl)|(show (_ && _)=true;kernel_rfl)|(show (_ || _)=true;kernel_rfl)|refine fzEq rfl (congrArg AV.bool ?_))
   all_goals (simp_all [assertI,befS];try (intros;omega))
 ·obtain⟨x,hx⟩:∃ x,t[k]?=some x:=⟨_,List.getElem?_eq_getElem (by omega)⟩
  by_cases hl:k+1 < t.length
  ·obtain⟨y,hy⟩:∃ y,t[k+1]?=some y:=⟨_,List.getElem?_eq_getElem hl⟩
   simp +contextual (disch:=omega) only[Try.f89,dd89,go_sem,simprocAttr,mu89,↓wrap_up,↓wrap_down,↓wrap_pred,↓wrap_sub_nat,f167,hx,hy]
   repeat' (first|intro _|apply And.intro|(unfold dOk;kernel_rfl)|(show (_ && _)=true;kernel_rfl)|(show (_ || _)=true;kernel_rfl)|refine fzEq rfl (congrArg AV.bool ?_))
   all_goals (simp_all [assertI,befS];try (intros;omega))
   all_goals (cases wordI x<;>cases wordI y<;>rfl)
  ·have hy:t[k+1]?=none:=List.getElem?_eq_none (by omega)
   simp +contextual (disch:=omega) only[Try.f89,dd89,go_sem,simprocAttr,mu89,↓wrap_up,↓wrap_down,↓wrap_pred,↓wrap_sub_nat,f167,hx]
   repeat' (first|intro _|apply And.intro|(unfold dOk;kernel_rfl)|(show (_ && _)=true;kernel_rfl)|(show (_ || _)=true;kernel_rfl)|refine fzEq rfl (congrArg AV.bool ?_))
   all_goals (simp_all [assertI,befS];try (intros;omega))
theorem f153 (c:Caps) (n fr to:Int) (hc:c.length≤1000) (H:List MB):call Try.prog pol1 76 [capA c,I n,I fr,I to] H=some (capA (withI c n fr to),H):=by
 refine call_run Try.func76 rfl rfl rfl rfl rfl rfl (fun _=>rfl) (by simp[AV.plain,AV.plainL,plain_span]) (by simp[AV.plain,plain_span]) ?_ H
 unfold withI
 rcases c with _|⟨x,c⟩
 ·rw[if_neg (by simp;omega)]
  by_cases h1:1≤n
  ·simp +contextual (disch:=omega) only[Try.f76,dd76,go_sem,simprocAttr,mu76,↓wrap_up,↓wrap_down,↓wrap_pred,↓wrap_sub_nat]
   exact⟨_,rfl⟩
  ·simp +contextual (disch:=omega) only[Try.f76,dd76,go_sem,simprocAttr,mu76,↓wrap_up,↓wrap_down,↓wrap_pred,↓wrap_sub_nat]
   exact⟨_,rfl⟩
 ·simp only[List.length_cons]at hc
  have hroom:=room_ok (n:=c.length+1) (b:=16) (by omega) (by omega)
  have hal:((c.map spanAV).all fun y=>decide ((match y with | .agg cs=>cs|x=>[x]).length=2) && (match y with | .agg cs=>cs|x=>[x]).all AV.ok)=true:=by
   rw[List.all_eq_true];intro y hy;obtain⟨p,_,rfl⟩:=List.mem_map.1 hy;rfl
  have hz:∀ d:Caps,d.length=c.length+1→∃ H',fz (.ms 0 2 (c.length+1) 0 (c.length+1)) [.row 2 (d.map spanAV) 0]=some (capA d,H'):=fun d hd=>
   ⟨_,fz_row rfl (by rw[List.length_map];exact hd) (plain_span d)⟩
  by_cases h1:1≤n
  ·by_cases h2:n≤((x::c).length:Int)
   ·rw[if_pos ⟨h1,h2⟩]
    obtain⟨j,rfl⟩:∃ j:Nat,n=(j:Int)+1:=⟨(n - 1).toNat,by omega⟩
    simp only[List.length_cons]at h2
    obtain⟨y,hy⟩:∃ y,(x::c)[j]?=some y:=⟨_,List.getElem?_eq_getElem (by simp;omega)⟩
    have hy2:(spanAV x::List.map spanAV c)[j]?=some (spanAV y):=by
     have:((x::c).map spanAV)[j]?=some (spanAV y):=by rw[List.getElem?_map,hy];rfl
     exact this
    have hw:IntKind.i64.wrap ((j:Int)+1 - 1)=(j:Int):=by rw[i64_in]<;>omega
    have hj:((j:Int)+1 - 1)=(j:Int):=by omega
    have hset:(spanAV x::List.map spanAV c).set j (.agg [I fr,I to])=((x::c).set j (fr,to)).map spanAV:=by rw[List.map_set];rfl
    simp +contextual (disch:=omega) only[Try.f76,dd76,go_sem,simprocAttr,mu76,↓wrap_up,↓wrap_down,↓wrap_pred,↓wrap_sub_nat,hroom,hw,hy2,hj,hset]
    exact⟨hal,hz _ (by simp)⟩
   ·rw[if_neg (by omega)]
    simp only[List.length_cons]at h2
    simp +contextual (disch:=omega) only[Try.f76,dd76,go_sem,simprocAttr,mu76,↓wrap_up,↓wrap_down,↓wrap_pred,↓wrap_sub_nat,hroom]
    exact⟨hal,hz (x::c) rfl⟩
  ·rw[if_neg (by omega)]
   simp +contextual (disch:=omega) only[Try.f76,dd76,go_sem,simprocAttr,mu76,↓wrap_up,↓wrap_down,↓wrap_pred,↓wrap_sub_nat,hroom]
   exact⟨hal,hz (x::c) rfl⟩
section
variable {cs xs:List AV} {k:IntKind} {n:Int} {b:Bool} {x a c d e f:Nat}
theorem cl_agg:(AV.agg cs).cells=cs:=rfl
theorem cl_int:(AV.int k n).cells=[.int k n]:=rfl
theorem cl_bool:(AV.bool b).cells=[.bool b]:=rfl
theorem cl_sl:(AV.sl b xs).cells=[.sl b xs]:=rfl
theorem cl_rf:(AV.rf a c d e).cells=[.rf a c d e]:=rfl
theorem cl_pt:(AV.pt xs).cells=[.pt xs]:=rfl
theorem cl_nilp:AV.nilp.cells=[.nilp]:=rfl
end
theorem cl_goal (g:Goal):(goalA g).cells=[goalA g]:=by cases g<;>rfl
theorem ok_goal (g:Goal):AV.ok (goalA g)=true:=by cases g<;>rfl
theorem re_take (r:Re) (n:Nat) (l:List AV):List.take (n+8) (reC r++l)=reC r++List.take n l:=by
 rw[List.take_append,reC_len,List.take_of_length_le (by rw[reC_len];omega)];congr 2
theorem re_drop (r:Re) (n:Nat) (l:List AV):List.drop (n+8) (reC r++l)=List.drop n l:=by
 rw[List.drop_append,reC_len,List.drop_of_length_le (by rw[reC_len];omega),List.nil_append];congr 1
end
section
attribute [local go_sem] evAppend frzB List.length_append List.map_append tySzE List.head?_drop Nat.mul_one sameAt_zero sameAt_two sameAt_three sameAt_four sameAt_five room_ok
open Go.Proofs Go.RowKit Go.IntWalk
set_option maxRecDepth 100000
set_option maxHeartbeats 4000000
theorem badS_lt {l:List (Int×Int)} {top:Int} {i:Nat} {p:Int×Int} (hp:l[i]?=some p) (h:p.1 < 0∨p.2 < p.1∨top < p.2):badS l top i=true:=by
 simp only[badS,hp]
 rcases h with h|h|h<;>simp[h]
theorem badS_zero {l:List (Int×Int)} {top:Int} {p:Int×Int} (hp:l[0]?=some p) (h:¬ (p.1 < 0∨p.2 < p.1∨top < p.2)):badS l top 0=false:=by
 have h1:¬ p.1 < 0:=fun e=>h (.inl e)
 have h2:¬ p.2 < p.1:=fun e=>h (.inr (.inl e))
 have h3:¬ top < p.2:=fun e=>h (.inr (.inr e))
 simp[badS,hp,h1,h2,h3]
theorem badS_succ {l:List (Int×Int)} {top:Int} {i:Nat} {p q:Int×Int} (hp:l[i+1]?=some p) (hq:l[i]?=some q) (h:¬ (p.1 < 0∨p.2 < p.1∨top < p.2)):badS l top (i+1)=decide (p.1 < q.2+2):=by
 have h1:¬ p.1 < 0:=fun e=>h (.inl e)
 have h2:¬ p.2 < p.1:=fun e=>h (.inr (.inl e))
 have h3:¬ top < p.2:=fun e=>h (.inr (.inr e))
 simp[badS,hp,hq,h1,h2,h3]
theorem badS_hi {l:List (Int×Int)} {top:Int} {i:Nat} {q:Int×Int} (hq:l[i]?=some q) (h:badS l top i=false):0≤q.1∧q.1≤q.2∧q.2≤top:=by
 simp only[badS,hq,Bool.or_eq_false_iff,decide_eq_false_iff_not]at h
 omega
end
section
attribute [local go_sem] evAppend frzB List.length_append List.map_append tySzE List.head?_drop Nat.mul_one sameAt_zero sameAt_two sameAt_three sameAt_four sameAt_five room_ok
open Go.Proofs Go.RowKit Go.IntWalk
set_option maxRecDepth 100000
set_option maxHeartbeats 8000000
abbrev nodeL (op:Int) (set:List (Int×Int)) (kids:List Re) (mn mx md n:Int) (neg:Bool):List AV:=[I op,.sl false (set.map spanAV),.sl false (kids.map reAV),I mn,I mx,I md,I n,.bool neg]
end
section
attribute [local go_sem] evAppend frzB List.length_append List.map_append tySzE List.head?_drop Nat.mul_one sameAt_zero sameAt_two sameAt_three sameAt_four sameAt_five room_ok
open Go.Proofs Go.RowKit Go.IntWalk
set_option maxRecDepth 100000
set_option maxHeartbeats 8000000
theorem f112:∀(N:Nat) (r:Re),r.wt≤N→r.wt≤1000000→∀ H,call Try.prog pol1 41 [reAV r] H=some (I r.size,H)
 | 0,r,h,_,_=>by have:=r.wt_pos;omega
 | N+1,.mk op set kids mn mx md n neg,h,hN,H=>by
   have hkl:=Re.wtL_len kids
   have hwt:1+set.length+Re.wtL kids=(Re.mk op set kids mn mx md n neg).wt:=by simp[Re.wt]
   have ih:=fun k (hk:k∈kids)=>f112 N k (by have:=Re.wtL_mem hk;omega) (by have:=Re.wtL_mem hk;omega)
   have hsz:=Re.sizeL_wt kids
   rw[show reAV (.mk op set kids mn mx md n neg)=.agg (nodeL op set kids mn mx md n neg) from congrArg AV.agg reC_mk]
   refine call_run Try.func41 rfl rfl rfl rfl rfl rfl (fun _=>rfl) (by simp[AV.plain,AV.plainL,plain_span,plain_kids]) rfl ?_ H
   simp +contextual (disch:=omega) only[Try.f41,dd41,go_sem,simprocAttr,mu41,↓wrap_up,↓wrap_down,↓wrap_pred,↓wrap_sub_nat]
   refine W_count (M:=(mskOf (pol1.mask 41) (pol1.gc 41) (pol1.acts 41) 0 3)) rfl kids.length (fun i=>(⟨21,[(4,I i),(3,I ((1+Re.sizeL (kids.take i):Nat):Int)),(1,.rf 0 1 0 0)],[.row 8 [.agg (nodeL op set kids mn mx md n neg)] 0]⟩:St)) (fun _=>True) ?_ ?_ trivial _ (by first|rfl|(refine prep_to (n:=1) (m:=⟨some [4,3,1],some 1,[]⟩) rfl rfl ?_ ?_ ?_<;>first|rfl|(simp[keepT,AV.underL,AV.under,MB.under,underL_plain,under_plain,underL_append,plain_ints,plain_span,plain_ins,plain_prg,-List.map_take,-List.map_replicate,-List.map_set,Re.sizeL,plain_kids];done)|(simp[keepT,AV.underL,AV.under,MB.under,underL_plain,under_plain,underL_append,plain_ints,plain_span,plain_ins,plain_prg,-List.map_take,-List.map_replicate,-List.map_set,Re.sizeL,plain_kids];omega)))
   ·intro i hi _
    obtain⟨k,hk⟩:∃ k,kids[i]?=some k:=⟨_,List.getElem?_eq_getElem hi⟩
    have hkm:=List.mem_of_getElem? hk
    have ihk:=ih k hkm
    have hle:=Re.sizeL_take hk
    have hle2:=Re.sizeL_le (l:=kids) (i:=i+1)
    have hadd:((1+Re.sizeL (kids.take i):Nat):Int)+(k.size:Int)=((1+Re.sizeL (kids.take (i+1)):Nat):Int):=by omega
    have hl8:=reC_len k
    have ht8:=reC_take k
    simp +contextual (disch:=omega) only[Try.f41,dd41,go_sem,simprocAttr,mu41,↓wrap_up,↓wrap_down,↓wrap_pred,↓wrap_sub_nat,hk,ihk,hadd,hl8,ht8]
    exact(by first|rfl|(refine prep_to (n:=1) (m:=⟨some [4,3,1],some 1,[]⟩) rfl rfl ?_ ?_ ?_<;>first|rfl|(simp[keepT,AV.underL,AV.under,MB.under,underL_plain,under_plain,underL_append,plain_ints,plain_span,plain_ins,plain_prg,-List.map_take,-List.map_replicate,-List.map_set,plain_kids];done)|(simp[keepT,AV.underL,AV.under,MB.under,underL_plain,under_plain,underL_append,plain_ints,plain_span,plain_ins,plain_prg,-List.map_take,-List.map_replicate,-List.map_set,plain_kids];omega)))
   ·intro _
    rw[List.take_length]
    simp +contextual (disch:=omega) only[Try.f41,dd41,go_sem,simprocAttr,mu41,↓wrap_up,↓wrap_down,↓wrap_pred,↓wrap_sub_nat]
    exact fzEq rfl (by simp[Re.size])
theorem f113:∀(N:Nat) (r:Re),r.wt≤N→r.wt≤1000000→∀ H,call Try.prog pol1 42 [reAV r] H=some (I r.depth,H)
 | 0,r,h,_,_=>by have:=r.wt_pos;omega
 | N+1,.mk op set kids mn mx md n neg,h,hN,H=>by
   have hkl:=Re.wtL_len kids
   have hwt:1+set.length+Re.wtL kids=(Re.mk op set kids mn mx md n neg).wt:=by simp[Re.wt]
   have ih:=fun k (hk:k∈kids)=>f113 N k (by have:=Re.wtL_mem hk;omega) (by have:=Re.wtL_mem hk;omega)
   have hsz:=Re.sizeL_wt kids
   have hdz:=Re.depthL_size kids
   rw[show reAV (.mk op set kids mn mx md n neg)=.agg (nodeL op set kids mn mx md n neg) from congrArg AV.agg reC_mk]
   refine call_run Try.func42 rfl rfl rfl rfl rfl rfl (fun _=>rfl) (by simp[AV.plain,AV.plainL,plain_span,plain_kids]) rfl ?_ H
   simp +contextual (disch:=omega) only[Try.f42,dd42,go_sem,simprocAttr,mu42,↓wrap_up,↓wrap_down,↓wrap_pred,↓wrap_sub_nat]
   refine W_count (M:=(mskOf (pol1.mask 42) (pol1.gc 42) (pol1.acts 42) 0 3)) rfl kids.length (fun i=>(⟨22,[(4,I i),(3,I ((Re.depthL (kids.take i):Nat):Int)),(1,.rf 0 1 0 0)],[.row 8 [.agg (nodeL op set kids mn mx md n neg)] 0]⟩:St)) (fun _=>True) ?_ ?_ trivial _ (by first|rfl|(refine prep_to (n:=1) (m:=⟨some [4,3,1],some 1,[]⟩) rfl rfl ?_ ?_ ?_<;>first|rfl|(simp[keepT,AV.underL,AV.under,MB.under,underL_plain,under_plain,underL_append,plain_ints,plain_span,plain_ins,plain_prg,-List.map_take,-List.map_replicate,-List.map_set,Re.depthL,plain_kids];done)|(simp[keepT,AV.underL,AV.under,MB.under,underL_plain,under_plain,underL_append,plain_ints,plain_span,plain_ins,plain_prg,-List.map_take,-List.map_replicate,-List.map_set,Re.depthL,plain_kids];omega)))
   ·intro i hi _
    obtain⟨k,hk⟩:∃ k,kids[i]?=some k:=⟨_,List.getElem?_eq_getElem hi⟩
    have hkm:=List.mem_of_getElem? hk
    have ihk:=ih k hkm
    have hle:=Re.depthL_take hk
    have hadd:(if(k.depth:Int) > (Re.depthL (kids.take i):Nat) then(k.depth:Int) else(Re.depthL (kids.take i):Nat))=((Re.depthL (kids.take (i+1)):Nat):Int):=by rw[hle];split<;>omega
    have hl8:=reC_len k
    have ht8:=reC_take k
    simp +contextual (disch:=omega) only[Try.f42,dd42,go_sem,simprocAttr,mu42,↓wrap_up,↓wrap_down,↓wrap_pred,↓wrap_sub_nat,hk,ihk,evMax,hadd,hl8,ht8]
    exact(by first|rfl|(refine prep_to (n:=1) (m:=⟨some [4,3,1],some 1,[]⟩) rfl rfl ?_ ?_ ?_<;>first|rfl|(simp[keepT,AV.underL,AV.under,MB.under,underL_plain,under_plain,underL_append,plain_ints,plain_span,plain_ins,plain_prg,-List.map_take,-List.map_replicate,-List.map_set,plain_kids];done)|(simp[keepT,AV.underL,AV.under,MB.under,underL_plain,under_plain,underL_append,plain_ints,plain_span,plain_ins,plain_prg,-List.map_take,-List.map_replicate,-List.map_set,plain_kids];omega)))
   ·intro _
    rw[List.take_length]
    simp +contextual (disch:=omega) only[Try.f42,dd42,go_sem,simprocAttr,mu42,↓wrap_up,↓wrap_down,↓wrap_pred,↓wrap_sub_nat]
    exact fzEq rfl (by simp[Re.depth];omega)
end
end Go.Ev
