/- Functions of the program, each with what it computes; no further conditions. -/
import Derived.Test.YtjgmfjneajcbmaaA06
import Derived.Test.YtjgmfjneajcbmaaA13
import Derived.Test.YtjgmfjneajcbmaaA11
set_option linter.unusedVariables false
set_option linter.unusedSimpArgs false
namespace Go.Ev
attribute [local go_sem] evAppend evBin AV.cells frzB List.length_append List.map_append
section
attribute [local go_sem] tySzE List.head?_drop Nat.mul_one sameAt_zero sameAt_two sameAt_three sameAt_four sameAt_five room_ok
open Go.Proofs Go.RowKit Go.IntWalk
set_option maxRecDepth 100000
set_option maxHeartbeats 8000000
theorem nullAll_false:∀ {l:List Re} {k:Re},k∈l→nullG k=false→nullAll l=false
 | x::l,k,h,hk=>by
   rcases List.mem_cons.1 h with e|e
   ·rw[← e];simp[nullAll,hk]
   ·simp[nullAll,nullAll_false e hk]
theorem nullAll_true:∀ {l:List Re},(∀(i:Nat) (k:Re),i < l.length→l[i]?=some k→nullG k=true)→nullAll l=true
 | [],_=>by simp[nullAll]
 | x::l,h=>by
   simp only[nullAll,Bool.and_eq_true]
   exact⟨h 0 x (by simp) rfl,nullAll_true fun i k hi hk=>h (i+1) k (by simp;omega) (by simpa using hk)⟩
theorem nullAny_true:∀ {l:List Re} {k:Re},k∈l→nullG k=true→nullAny l=true
 | x::l,k,h,hk=>by
   rcases List.mem_cons.1 h with e|e
   ·rw[← e];simp[nullAny,hk]
   ·simp[nullAny,nullAny_true e hk]
theorem nullAny_false:∀ {l:List Re},(∀(i:Nat) (k:Re),i < l.length→l[i]?=some k→nullG k=false)→nullAny l=false
 | [],_=>by simp[nullAny]
 | x::l,h=>by
   simp only[nullAny,Bool.or_eq_false_iff]
   exact⟨h 0 x (by simp) rfl,nullAny_false fun i k hi hk=>h (i+1) k (by simp;omega) (by simpa using hk)⟩
theorem f20:∀(N:Nat) (r:Re),r.wt≤N→r.wt≤1000000→∀ H,call Try.prog pol1 39 [reAV r] H=some (.bool (nullG r),H)
 | 0,r,h,_,_=>by have:=r.wt_pos;omega
 | N+1,.mk op set kids mn mx md n neg,h,hN,H=>by
   have hkl:=Re.wtL_len kids
   have hwt:1+set.length+Re.wtL kids=(Re.mk op set kids mn mx md n neg).wt:=by simp[Re.wt]
   have ih:=fun k (hk:k∈kids)=>f20 N k (by have:=Re.wtL_mem hk;omega) (by have:=Re.wtL_mem hk;omega)
   rw[show reAV (.mk op set kids mn mx md n neg)=.agg (nodeL op set kids mn mx md n neg) from congrArg AV.agg reC_mk]
   refine call_run Try.func39 rfl rfl rfl rfl rfl rfl (fun _=>rfl) (by simp[AV.plain,AV.plainL,plain_span,plain_kids]) rfl ?_ H
   rw[nullG]
   by_cases h1:op=1
   ·subst h1
    rw[if_pos rfl]
    simp +contextual (disch:=omega) only[Try.f39,dd39,go_sem,simprocAttr,mu39,↓wrap_up,↓wrap_down,↓wrap_pred,↓wrap_sub_nat]
    exact fzEq rfl rfl
   rw[if_neg h1]
   by_cases h2:op=2
   ·subst h2
    rw[if_pos rfl]
    simp +contextual (disch:=omega) only[Try.f39,dd39,go_sem,simprocAttr,mu39,↓wrap_up,↓wrap_down,↓wrap_pred,↓wrap_sub_nat]
    refine W_count (M:=(mskOf (pol1.mask 39) (pol1.gc 39) (pol1.acts 39) 0 6)) rfl kids.length (fun i=>(⟨73,[(3,I i),(1,.rf 0 1 0 0)],[.row 8 [.agg (nodeL 2 set kids mn mx md n neg)] 0]⟩:St)) (fun i=>∀ j k,j < i→kids[j]?=some k→nullG k=true) ?_ ?_ (fun j k h=>by omega) _ (by first|rfl|(refine prep_to (n:=1) (m:=⟨some [3,1],some 1,[]⟩) rfl rfl ?_ ?_ ?_<;>first|rfl|(simp[keepT,AV.underL,AV.under,MB.under,underL_plain,under_plain,underL_append,plain_ints,plain_span,plain_ins,plain_prg,-List.map_take,-List.map_replicate,-List.map_set,plain_kids];done)|(simp[keepT,AV.underL,AV.under,MB.under,underL_plain,under_plain,underL_append,plain_ints,plain_span,plain_ins,plain_prg,-List.map_take,-List.map_replicate,-List.map_set,plain_kids];omega)))
    ·intro i hi hg
     obtain⟨k,hk⟩:∃ k,kids[i]?=some k:=⟨_,List.getElem?_eq_getElem hi⟩
     have ihk:=ih k (List.mem_of_getElem? hk)
     have hl8:=reC_len k
     have ht8:=reC_take k
     cases hn:nullG k with
     | false=>
       rw[hn]at ihk
       rw[nullAll_false (List.mem_of_getElem? hk) hn]
       simp +contextual (disch:=omega) only[Try.f39,dd39,go_sem,simprocAttr,mu39,↓wrap_up,↓wrap_down,↓wrap_pred,↓wrap_sub_nat,hk,ihk,hl8,ht8]
       exact fzEq rfl rfl
     | true=>
       rw[hn]at ihk
       simp +contextual (disch:=omega) only[Try.f39,dd39,go_sem,simprocAttr,mu39,↓wrap_up,↓wrap_down,↓wrap_pred,↓wrap_sub_nat,hk,ihk,hl8,ht8]
       refine⟨fun j q hj hq=>?_,(by first|rfl|(refine prep_to (n:=1) (m:=⟨some [3,1],some 1,[]⟩) rfl rfl ?_ ?_ ?_<;>first|rfl|(simp[keepT,AV.underL,AV.under,MB.under,underL_plain,under_plain,underL_append,plain_ints,plain_span,plain_ins,plain_prg,-List.map_take,-List.map_replicate,-List.map_set,plain_kids];done)|(simp[keepT,AV.underL,AV.under,MB.under,underL_plain,under_plain,underL_append,plain_ints,plain_span,plain_ins,plain_prg,-List.map_take,-List.map_replicate,-List.map_set,plain_kids];omega)))⟩
       rcases Nat.lt_or_ge j i with h|h
       ·exact hg j q h hq
       ·obtain rfl:j=i:=by omega
        rw[hk]at hq;obtain rfl:=Option.some.inj hq
        exact hn
    ·intro hg
     rw[nullAll_true fun j k hj hk=>hg j k hj hk]
     simp +contextual (disch:=omega) only[Try.f39,dd39,go_sem,simprocAttr,mu39,↓wrap_up,↓wrap_down,↓wrap_pred,↓wrap_sub_nat]
     exact fzEq rfl rfl
   rw[if_neg h2]
   by_cases h3:op=3∨op=10
   ·rw[if_pos h3]
    rcases h3 with rfl|rfl
    all_goals (
     simp +contextual (disch:=omega) only[Try.f39,dd39,go_sem,simprocAttr,mu39,↓wrap_up,↓wrap_down,↓wrap_pred,↓wrap_sub_nat]
     refine W_count (M:=(mskOf (pol1.mask 39) (pol1.gc 39) (pol1.acts 39) 0 14)) rfl kids.length (fun i=>(⟨73,[(4,I i),(1,.rf 0 1 0 0)],[.row 8 [.agg (nodeL _ set kids mn mx md n neg)] 0]⟩:St)) (fun i=>∀ j k,j < i→kids[j]?=some k→nullG k=false) ?_ ?_ (fun j k h=>by omega) _ (by first|rfl|(refine prep_to (n:=1) (m:=⟨some [4,1],some 1,[]⟩) rfl rfl ?_ ?_ ?_<;>first|rfl|(simp[keepT,AV.underL,AV.under,MB.under,underL_plain,under_plain,underL_append,plain_ints,plain_span,plain_ins,plain_prg,-List.map_take,-List.map_replicate,-List.map_set,plain_kids];done)|(simp[keepT,AV.underL,AV.under,MB.under,underL_plain,under_plain,underL_append,plain_ints,plain_span,plain_ins,plain_prg,-List.map_take,-List.map_replicate,-List.map_set,plain_kids];omega)))
     ·intro i hi hg
      obtain⟨k,hk⟩:∃ k,kids[i]?=some k:=⟨_,List.getElem?_eq_getElem hi⟩
      have ihk:=ih k (List.mem_of_getElem? hk)
      have hl8:=reC_len k
      have ht8:=reC_take k
      cases hn:nullG k with
      | true=>
        rw[hn]at ihk
        rw[nullAny_true (List.mem_of_getElem? hk) hn]
        simp +contextual (disch:=omega) only[Try.f39,dd39,go_sem,simprocAttr,mu39,↓wrap_up,↓wrap_down,↓wrap_pred,↓wrap_sub_nat,hk,ihk,hl8,ht8]
        exact fzEq rfl rfl
      | false=>
        rw[hn]at ihk
        simp +contextual (disch:=omega) only[Try.f39,dd39,go_sem,simprocAttr,mu39,↓wrap_up,↓wrap_down,↓wrap_pred,↓wrap_sub_nat,hk,ihk,hl8,ht8]
        refine⟨fun j q hj hq=>?_,(by first|rfl|(refine prep_to (n:=1) (m:=⟨some [4,1],some 1,[]⟩) rfl rfl ?_ ?_ ?_<;>first|rfl|(simp[keepT,AV.underL,AV.under,MB.under,underL_plain,under_plain,underL_append,plain_ints,plain_span,plain_ins,plain_prg,-List.map_take,-List.map_replicate,-List.map_set,plain_kids];done)|(simp[keepT,AV.underL,AV.under,MB.under,underL_plain,under_plain,underL_append,plain_ints,plain_span,plain_ins,plain_prg,-List.map_take,-List.map_replicate,-List.map_set,plain_kids];omega)))⟩
        rcases Nat.lt_or_ge j i with h|h
        ·exact hg j q h hq
        ·obtain rfl:j=i:=by omega
         rw[hk]at hq;obtain rfl:=Option.some.inj hq
         exact hn
     ·intro hg
      rw[nullAny_false fun j k hj hk=>hg j k hj hk]
      simp +contextual (disch:=omega) only[Try.f39,dd39,go_sem,simprocAttr,mu39,↓wrap_up,↓wrap_down,↓wrap_pred,↓wrap_sub_nat]
      exact fzEq rfl rfl)
   rw[if_neg h3]
   by_cases h4:op=4
   ·subst h4
    rw[if_pos rfl]
    by_cases hm:mn≤0
    ·simp +contextual (disch:=omega) only[Try.f39,dd39,go_sem,simprocAttr,mu39,↓wrap_up,↓wrap_down,↓wrap_pred,↓wrap_sub_nat]
     exact fzEq rfl (by simp[hm])
    ·cases kids with
     | nil=>
       simp +contextual (disch:=omega) only[Try.f39,dd39,go_sem,simprocAttr,mu39,↓wrap_up,↓wrap_down,↓wrap_pred,↓wrap_sub_nat]
       exact fzEq rfl (by simp[hm,nullHd])
     | cons k ks=>
       have ihk:=ih k (List.mem_cons_self ..)
       have hl8:=reC_len k
       have ht8:=reC_take k
       simp only[List.length_cons]at hkl
       simp +contextual (disch:=omega) only[Try.f39,dd39,go_sem,simprocAttr,mu39,↓wrap_up,↓wrap_down,↓wrap_pred,↓wrap_sub_nat,ihk,hl8,ht8]
       exact fzEq rfl (by simp[hm,nullHd])
   rw[if_neg h4]
   by_cases h5:op=5∨op=9
   ·rw[if_pos h5]
    rcases h5 with rfl|rfl
    all_goals (
     cases kids with
     | nil=>
       simp +contextual (disch:=omega) only[Try.f39,dd39,go_sem,simprocAttr,mu39,↓wrap_up,↓wrap_down,↓wrap_pred,↓wrap_sub_nat]
       exact fzEq rfl (by simp[nullHd])
     | cons k ks=>
       have ihk:=ih k (List.mem_cons_self ..)
       have hl8:=reC_len k
       have ht8:=reC_take k
       simp only[List.length_cons]at hkl
       simp +contextual (disch:=omega) only[Try.f39,dd39,go_sem,simprocAttr,mu39,↓wrap_up,↓wrap_down,↓wrap_pred,↓wrap_sub_nat,ihk,hl8,ht8]
       exact fzEq rfl (by simp[nullHd]))
   rw[if_neg h5]
   simp +contextual (disch:=omega) only[Try.f39,dd39,go_sem,simprocAttr,mu39,↓wrap_up,↓wrap_down,↓wrap_pred,↓wrap_sub_nat]
   exact fzEq rfl rfl
end
section
attribute [local go_sem] tySzE List.head?_drop Nat.mul_one sameAt_zero sameAt_two sameAt_three sameAt_four sameAt_five room_ok
open Go.Proofs Go.RowKit Go.IntWalk
set_option maxRecDepth 100000
set_option maxHeartbeats 8000000
theorem whole_facts {caps top op:Int} {set:List (Int×Int)} {kids:List Re} {mn mx md n:Int} {neg:Bool} (h:wholeG caps top (.mk op set kids mn mx md n neg)=true) :
  (∀ k∈kids,wholeG caps top k=true)∧kidsG op kids.length=true∧(op=4→repG mn mx md=true)∧(op=5∨op=6∨op=10→1≤n∧n≤caps)∧0≤op∧op≤11:=by
 rw[wholeG,Bool.and_eq_true,wholeL_iff]at h
 obtain⟨h1,h2⟩:=h
 simp only[formedG,Bool.and_eq_true,decide_eq_true_eq]at h1
 obtain⟨⟨⟨⟨⟨⟨a1,a2⟩,a3⟩,a4⟩,a5⟩,a6⟩,a7⟩:=h1
 refine⟨h2,a3,fun e=>?_,fun e=>?_,a1,a2⟩
 ·rw[if_pos e]at a5;exact a5
 ·rw[if_pos e]at a6;simpa using a6
end
section
attribute [local go_sem] tySzE List.head?_drop Nat.mul_one sameAt_zero sameAt_two sameAt_three sameAt_four sameAt_five room_ok
open Go.Proofs Go.RowKit Go.IntWalk
set_option maxRecDepth 100000
set_option maxHeartbeats 8000000
mutual
def lenG:Re→Nat
 | .mk op set kids mn mx md n neg=>
   if op=1∨op=11 then 1 else if op=3 then lenL kids+2 * (kids.length - 1) else if op=5 then lenL kids+2
   else if op=4 then(if mx = -1 then(mn.toNat+1) * lenL kids+2 else mx.toNat * lenL kids+(mx.toNat - mn.toNat)) else lenL kids
def lenL:List Re→Nat
 | []=>0
 | k::ks=>lenG k+lenL ks
end
theorem lenL_append:∀(a b:List Re),lenL (a++b)=lenL a+lenL b
 | [],b=>by simp[lenL]
 | k::ks,b=>by simp[lenL,lenL_append ks b,Nat.add_assoc]
theorem lenL_take {l:List Re} {i:Nat} {k:Re} (h:l[i]?=some k):lenL (l.take (i+1))=lenL (l.take i)+lenG k:=by
 rw[List.take_add_one,h,lenL_append];simp[lenL]
def cutL:List Re→Nat
 | []=>0
 | k::ks=>min (lenG k) 10000+cutL ks
theorem cutL_append:∀(a b:List Re),cutL (a++b)=cutL a+cutL b
 | [],b=>by simp[cutL]
 | k::ks,b=>by simp[cutL,cutL_append ks b,Nat.add_assoc]
theorem cutL_take {l:List Re} {i:Nat} {k:Re} (h:l[i]?=some k):cutL (l.take (i+1))=cutL (l.take i)+min (lenG k) 10000:=by
 rw[List.take_add_one,h,cutL_append];simp[cutL]
theorem cutL_len:∀(l:List Re),cutL l≤l.length * 10000
 | []=>by simp[cutL]
 | k::ks=>by
   have:=cutL_len ks
   simp only[cutL,List.length_cons];omega
theorem cutL_eq:∀(l:List Re),min (cutL l) 10000=min (lenL l) 10000∧cutL l≤lenL l
 | []=>by simp[cutL,lenL]
 | k::ks=>by
   have:=cutL_eq ks
   simp only[cutL,lenL];omega
theorem f54 (caps top:Int):∀(N:Nat) (r:Re),r.wt≤N→r.wt≤1000000→wholeG caps top r=true→∀ H,call Try.prog pol1 24 [reAV r] H=some (I ((min (lenG r) 10000:Nat):Int),H)
 | 0,r,h,_,_=>by have:=r.wt_pos;omega
 | N+1,.mk op set kids mn mx md n neg,h,hN,hw=>by
   intro H
   have hkl:=Re.wtL_len kids
   have hwt:1+set.length+Re.wtL kids=(Re.mk op set kids mn mx md n neg).wt:=by simp[Re.wt]
   obtain⟨hwk,hkd,hrp,_,ho1,ho2⟩:=whole_facts hw
   have ih:=fun k (hk:k∈kids)=>f54 caps top N k (by have:=Re.wtL_mem hk;omega) (by have:=Re.wtL_mem hk;omega) (hwk k hk)
   rw[show reAV (.mk op set kids mn mx md n neg)=.agg (nodeL op set kids mn mx md n neg) from congrArg AV.agg reC_mk]
   refine call_run Try.func24 rfl rfl rfl rfl rfl rfl (fun _=>rfl) (by simp[AV.plain,AV.plainL,plain_span,plain_kids]) rfl ?_ H
   simp +contextual (disch:=omega) only[Try.f24,dd24,go_sem,simprocAttr,mu24,↓wrap_up,↓wrap_down,↓wrap_pred,↓wrap_sub_nat]
   refine W_count (M:=(mskOf (pol1.mask 24) (pol1.gc 24) (pol1.acts 24) 0 3)) rfl kids.length (fun i=>(⟨61,[(4,I i),(3,I ((cutL (kids.take i):Nat):Int)),(1,.rf 0 1 0 0)],[.row 8 [.agg (nodeL op set kids mn mx md n neg)] 0]⟩:St)) (fun _=>True) ?_ ?_ trivial _ (by first|rfl|(refine prep_to (n:=1) (m:=⟨some [4,3,1],some 1,[]⟩) rfl rfl ?_ ?_ ?_<;>first|rfl|(simp[keepT,AV.underL,AV.under,MB.under,underL_plain,under_plain,underL_append,plain_ints,plain_span,plain_ins,plain_prg,-List.map_take,-List.map_replicate,-List.map_set,cutL,plain_kids];done)|(simp[keepT,AV.underL,AV.under,MB.under,underL_plain,under_plain,underL_append,plain_ints,plain_span,plain_ins,plain_prg,-List.map_take,-List.map_replicate,-List.map_set,cutL,plain_kids];omega)))
   ·intro i hi _
    obtain⟨k,hk⟩:∃ k,kids[i]?=some k:=⟨_,List.getElem?_eq_getElem hi⟩
    have ihk:=ih k (List.mem_of_getElem? hk)
    have hl8:=reC_len k
    have ht8:=reC_take k
    have e1:=cutL_take hk
    have hb:=cutL_len (kids.take (i+1))
    have hbl:(kids.take (i+1)).length≤1000000:=by simp;omega
    have hm:((cutL (kids.take i):Nat):Int)+((min (lenG k) 10000:Nat):Int)=((cutL (kids.take (i+1)):Nat):Int):=by omega
    have hbb:cutL (kids.take (i+1))≤10000000000:=by omega
    simp +contextual (disch:=omega) only[Try.f24,dd24,go_sem,simprocAttr,mu24,↓wrap_up,↓wrap_down,↓wrap_pred,↓wrap_sub_nat,hk,ihk,hm,hl8,ht8]
    exact(by first|rfl|(refine prep_to (n:=1) (m:=⟨some [4,3,1],some 1,[]⟩) rfl rfl ?_ ?_ ?_<;>first|rfl|(simp[keepT,AV.underL,AV.under,MB.under,underL_plain,under_plain,underL_append,plain_ints,plain_span,plain_ins,plain_prg,-List.map_take,-List.map_replicate,-List.map_set,plain_kids];done)|(simp[keepT,AV.underL,AV.under,MB.under,underL_plain,under_plain,underL_append,plain_ints,plain_span,plain_ins,plain_prg,-List.map_take,-List.map_replicate,-List.map_set,plain_kids];omega)))
   ·intro _
    rw[List.take_length]
    have hop:op=0∨op=1∨op=2∨op=3∨op=4∨op=5∨op=6∨op=7∨op=8∨op=9∨op=10∨op=11:=by omega
    rw[lenG]
    have hcl:=cutL_len kids
    have hce:=cutL_eq kids
    have hbc:cutL kids≤10000000000:=by omega
    clear hcl ih hwk hw
    generalize cutL kids=C at *
    generalize lenL kids=L at *
    by_cases h1:op=1∨op=11
    ·rw[if_pos h1]
     rcases h1 with rfl|rfl
     all_goals (
      simp +contextual (disch:=omega) only[Try.f24,dd24,go_sem,simprocAttr,mu24,↓wrap_up,↓wrap_down,↓wrap_pred,↓wrap_sub_nat,evMin]
      exact fzEq rfl rfl)
    rw[if_neg h1]
    by_cases h3:op=3
    ·subst h3
     rw[if_pos rfl]
     have hk2:2≤kids.length:=by simpa [kidsG] using hkd
     simp +contextual (disch:=omega) only[Try.f24,dd24,go_sem,simprocAttr,mu24,↓wrap_up,↓wrap_down,↓wrap_pred,↓wrap_sub_nat,evMin]
     refine fzEq rfl (congrArg (AV.int .i64) ?_)
     split<;>omega
    rw[if_neg h3]
    by_cases h5:op=5
    ·subst h5
     rw[if_pos rfl]
     simp +contextual (disch:=omega) only[Try.f24,dd24,go_sem,simprocAttr,mu24,↓wrap_up,↓wrap_down,↓wrap_pred,↓wrap_sub_nat,evMin]
     refine fzEq rfl (congrArg (AV.int .i64) ?_)
     split<;>omega
    rw[if_neg h5]
    by_cases h4:op=4
    ·subst h4
     rw[if_pos rfl]
     have hr:=hrp rfl
     simp only[repG,Bool.and_eq_true,Bool.or_eq_true,decide_eq_true_eq,beq_iff_eq]at hr
     obtain⟨mn',rfl⟩:∃ m:Nat,mn=m:=⟨mn.toNat,by omega⟩
     have hmn:mn'≤32:=by omega
     by_cases hmx:mx = -1
     ·subst hmx
      rw[if_pos rfl]
      have hc1:((mn' + 1:Nat):Int) * (C:Int)=(((mn' + 1) * C:Nat):Int):=by simp
      have hml:(mn' + 1) * C≤33 * 10000000000:=Nat.mul_le_mul (by omega) (by omega)
      simp +contextual (disch:=omega) only[Try.f24,dd24,go_sem,simprocAttr,mu24,↓wrap_up,↓wrap_down,↓wrap_pred,↓wrap_sub_nat,evMin,hc1]
      refine fzEq rfl (congrArg (AV.int .i64) ?_)
      rw[Nat.succ_mul,Nat.succ_mul]
      by_cases hL:L≤9999
      ·have hCL:C=L:=by omega
       rw[hCL]
       split<;>omega
      ·split<;>omega
     ·rw[if_neg hmx]
      obtain⟨mx',rfl⟩:∃ m:Nat,mx=m:=⟨mx.toNat,by omega⟩
      have hc1:(mx':Int) * (C:Int)=((mx' * C:Nat):Int):=by simp
      have hml:mx' * C≤33 * 10000000000:=Nat.mul_le_mul (by omega) (by omega)
      simp +contextual (disch:=omega) only[Try.f24,dd24,go_sem,simprocAttr,mu24,↓wrap_up,↓wrap_down,↓wrap_pred,↓wrap_sub_nat,evMin,hc1]
      refine fzEq rfl (congrArg (AV.int .i64) ?_)
      by_cases hL:L≤9999
      ·have hCL:C=L:=by omega
       rw[hCL]at *
       split<;>omega
      ·have h1:L≤mx' * L:=Nat.le_mul_of_pos_left _ (by omega)
       have h2:C≤mx' * C:=Nat.le_mul_of_pos_left _ (by omega)
       split<;>omega
    rw[if_neg h4]
    simp +contextual (disch:=omega) only[Try.f24,dd24,go_sem,simprocAttr,mu24,↓wrap_up,↓wrap_down,↓wrap_pred,↓wrap_sub_nat,evMin]
    refine fzEq rfl (congrArg (AV.int .i64) ?_)
    split<;>omega
end
section
open Go.Proofs Go.RowKit Go.IntWalk
set_option maxRecDepth 100000
set_option maxHeartbeats 4000000
theorem all_int1 (l:List Int):((l.map I).all fun y=>decide (y.cells.length=1) && y.cells.all AV.ok)=true:=by
 simp only[List.all_eq_true,List.mem_map,Bool.and_eq_true,decide_eq_true_eq]
 rintro _ ⟨i,_,rfl⟩
 exact⟨rfl,fun x hx=>by
  simp only[AV.cells,List.mem_singleton]at hx
  rw[hx];rfl⟩
end
section
attribute [local go_sem] tySzE List.head?_drop Nat.mul_one sameAt_zero sameAt_two sameAt_three sameAt_four sameAt_five room_ok
open Go.Proofs Go.RowKit Go.IntWalk
set_option maxRecDepth 100000
set_option maxHeartbeats 4000000
def matAV (s e:Int) (caps:List (Int×Int)):AV:=.agg [I s,I e,.sl false (caps.map spanAV)]
theorem plain_mat (s e:Int) (caps:List (Int×Int)):AV.plain (matAV s e caps)=true:=by simp[matAV,AV.plain,AV.plainL,plain_span]
end
structure Way where
 pc:Nat
 at_:Nat
 regs:List Int
inductive Out where
 | done
 | ways (l:List Way)
structure Prog1 where
 ins:Nat→Option Ins
 has:List (Int×Int)→Nat→Bool
 holds:Int→Nat→Bool
def stepW (p:Prog1) (w:Way):Out:=
 match p.ins w.pc with
 | none=>.ways []
 | some i=>
   if i.op=0 then .done
   else if i.op=1 then(if p.has i.set w.at_ then .ways [⟨w.pc+1,w.at_+1,w.regs⟩] else .ways [])
   else if i.op=2 then .ways [⟨i.x.toNat,w.at_,w.regs⟩,⟨i.y.toNat,w.at_,w.regs⟩]
   else if i.op=3 then .ways [⟨i.x.toNat,w.at_,w.regs⟩]
   else if i.op=4 then .ways [⟨w.pc+1,w.at_,w.regs.set i.n.toNat w.at_⟩]
   else(if p.holds i.n w.at_ then .ways [⟨w.pc+1,w.at_,w.regs⟩] else .ways [])
def runW (p:Prog1) (most:Int):Nat→List Way→List Way→Option (List Way)
 | fuel,todo,out=>
   match todo with
   | []=>some out
   | w::rest=>
     if(out.length:Int)=most then some out
     else
      match fuel with
      | 0=>none
      | fuel+1=>
        match stepW p w with
        | .done=>runW p most fuel rest (out++[w])
        | .ways l=>runW p most fuel (l++rest) out
def Way.like (a b:Way):Prop:=a.pc=b.pc∧a.at_=b.at_
def likeL:List Way→List Way→Prop
 | [],[]=>True
 | a::l,b::m=>a.like b∧likeL l m
 | _,_=>False
theorem likeL_append:∀ {a b c d:List Way},likeL a b→likeL c d→likeL (a++c) (b++d)
 | [],[],_,_,_,h=>h
 | _::_,_::_,_,_,h1,h2=>⟨h1.1,likeL_append h1.2 h2⟩
 | [],_::_,_,_,h,_=>h.elim
 | _::_,[],_,_,h,_=>h.elim
def likeO:Out→Out→Prop
 | .done,.done=>True
 | .ways l,.ways m=>likeL l m
 | _,_=>False
theorem stepW_like (p:Prog1) {a b:Way} (h:a.like b):likeO (stepW p a) (stepW p b):=by
 obtain⟨h1,h2⟩:=h
 unfold stepW
 rw[h1,h2]
 cases p.ins b.pc with
 | none=>exact trivial
 | some i=>
   simp only[]
   repeat' split
   all_goals first|exact trivial|exact⟨⟨rfl,rfl⟩,trivial⟩|exact⟨⟨rfl,rfl⟩,⟨rfl,rfl⟩,trivial⟩
inductive Reach (p:Prog1):Way→Way→List Way→Nat→Nat→Prop where
 | refl (w:Way):Reach p w w [] 0 0
 | on {w0 w w':Way} {E l:List Way} {d m:Nat} (h:Reach p w0 w E d m) (hs:stepW p w=.ways (w'::l)):Reach p w0 w' (l++E) d (m+1)
 | pop {w0 w e:Way} {E:List Way} {d m:Nat} (h:Reach p w0 w (e::E) d m) (hs:stepW p w=.ways []):Reach p w0 e E d (m+1)
 | found {w0 w e:Way} {E:List Way} {d m:Nat} (h:Reach p w0 w (e::E) d m) (hs:stepW p w=.done):Reach p w0 e E (d+1) (m+1)
theorem Reach.like {p:Prog1} {w0 w:Way} {E:List Way} {d m:Nat} (h:Reach p w0 w E d m) {v0:Way} (hv:w0.like v0):∃ v F,w.like v∧likeL E F∧Reach p v0 v F d m:=by
 induction h with
 | refl=>exact⟨v0,[],hv,trivial,.refl v0⟩
 | on h hs ih=>
   obtain⟨v,F,h1,h2,h3⟩:=ih
   have h4:=stepW_like p h1
   rw[hs]at h4
   cases hq:stepW p v with
   | done=>rw[hq]at h4;exact h4.elim
   | ways l2=>
     rw[hq]at h4
     cases l2 with
     | nil=>exact h4.elim
     | cons a l2=>exact⟨a,l2++F,h4.1,likeL_append h4.2 h2,.on h3 hq⟩
 | pop h hs ih=>
   obtain⟨v,F,h1,h2,h3⟩:=ih
   have h4:=stepW_like p h1
   rw[hs]at h4
   cases hq:stepW p v with
   | done=>rw[hq]at h4;exact h4.elim
   | ways l2=>
     rw[hq]at h4
     cases l2 with
     | nil=>
       cases F with
       | nil=>exact h2.elim
       | cons f F=>exact⟨f,F,h2.1,h2.2,.pop h3 hq⟩
     | cons a l2=>exact h4.elim
 | found h hs ih=>
   obtain⟨v,F,h1,h2,h3⟩:=ih
   have h4:=stepW_like p h1
   rw[hs]at h4
   cases hq:stepW p v with
   | done=>
     cases F with
     | nil=>exact h2.elim
     | cons f F=>exact⟨f,F,h2.1,h2.2,.found h3 hq⟩
   | ways l2=>rw[hq]at h4;exact h4.elim
theorem runW_step {p:Prog1} {most:Int} {fuel:Nat} {w:Way} {rest out:List Way} (h:¬ (out.length:Int)=most) :
  runW p most (fuel+1) (w::rest) out=match stepW p w with
   | .done=>runW p most fuel rest (out++[w])
   | .ways l=>runW p most fuel (l++rest) out:=by
 conv=>lhs;unfold runW
 simp only[h,if_false]
theorem runW_zero {p:Prog1} {most:Int} {w:Way} {rest out:List Way} (h:¬ (out.length:Int)=most):runW p most 0 (w::rest) out=none:=by
 unfold runW
 simp only[h,if_false]
theorem Reach.run {p:Prog1} {most:Int} {w0 w:Way} {E:List Way} {d m:Nat} (h:Reach p w0 w E d m) (S out:List Way) (hm:most = -1∨(d=0∧¬ (out.length:Int)=most)) (fuel:Nat) :
  ∃ out',out'.length=out.length+d∧runW p most (m+fuel) (w0::S) out=runW p most fuel (w::(E++S)) out':=by
 induction h generalizing fuel with
 | refl=>exact⟨out,rfl,by rw[Nat.zero_add];rfl⟩
 | @on w w' E l d m h hs ih=>
   obtain⟨out',h1,h2⟩:=ih hm (fuel+1)
   refine⟨out',h1,?_⟩
   rw[show m+1+fuel=m+(fuel+1) by omega,h2,runW_step (by rcases hm with h|⟨h,h'⟩<;>omega),hs]
   simp only[List.cons_append,List.append_assoc]
 | @pop w e E d m h hs ih=>
   obtain⟨out',h1,h2⟩:=ih hm (fuel+1)
   refine⟨out',h1,?_⟩
   rw[show m+1+fuel=m+(fuel+1) by omega,h2,runW_step (by rcases hm with h|⟨h,h'⟩<;>omega),hs]
   rfl
 | @found w e E d m h hs ih=>
   rcases hm with hm|hm
   ·obtain⟨out',h1,h2⟩:=ih (.inl hm) (fuel+1)
    refine⟨out'++[w],by simp;omega,?_⟩
    rw[show m+1+fuel=m+(fuel+1) by omega,h2,runW_step (by omega),hs]
    rfl
   ·omega
theorem Reach.short {p:Prog1} {most:Int} {w0 w:Way} {E:List Way} {d m:Nat} (h:Reach p w0 w E d m) (S out:List Way) (hm:most = -1∨(d=0∧¬ (out.length:Int)=most)) (fuel:Nat) (hf:fuel < m) :
  runW p most fuel (w0::S) out=none:=by
 induction h generalizing fuel with
 | refl=>omega
 | @on w w' E l d m h hs ih=>
   rcases Nat.lt_or_ge fuel m with h1|h1
   ·exact ih hm fuel h1
   ·obtain rfl:fuel=m:=by omega
    obtain⟨out',h2,h3⟩:=h.run S out hm 0
    rw[Nat.add_zero]at h3
    rw[h3,runW_zero (by rcases hm with h|⟨h,h'⟩<;>omega)]
 | @pop w e E d m h hs ih=>
   rcases Nat.lt_or_ge fuel m with h1|h1
   ·exact ih hm fuel h1
   ·obtain rfl:fuel=m:=by omega
    obtain⟨out',h2,h3⟩:=h.run S out hm 0
    rw[Nat.add_zero]at h3
    rw[h3,runW_zero (by rcases hm with h|⟨h,h'⟩<;>omega)]
 | @found w e E d m h hs ih=>
   rcases hm with hm|hm
   ·rcases Nat.lt_or_ge fuel m with h1|h1
    ·exact ih (.inl hm) fuel h1
    ·obtain rfl:fuel=m:=by omega
     obtain⟨out',h2,h3⟩:=h.run S out (.inl hm) 0
     rw[Nat.add_zero]at h3
     rw[h3,runW_zero (by omega)]
   ·omega
theorem circle {p:Prog1} {most:Int} {w0 w:Way} {E:List Way} {d m:Nat} (h:Reach p w0 w E d (m+1)) (hl:w0.like w):∀(fuel:Nat) (v0:Way) (S out:List Way),w0.like v0→(most = -1∨(d=0∧¬ (out.length:Int)=most)) →
  runW p most fuel (v0::S) out=none:=by
 intro fuel
 induction fuel using Nat.strongRecOn with
 | ind fuel ih=>
   intro v0 S out hv hm
   obtain⟨v,F,h1,h2,h3⟩:=h.like hv
   rcases Nat.lt_or_ge fuel (m+1) with hf|hf
   ·exact h3.short S out hm fuel hf
   ·obtain⟨out',o1,o2⟩:=h3.run S out hm (fuel - (m+1))
    rw[show m+1+(fuel - (m+1))=fuel by omega]at o2
    rw[o2]
    refine ih _ (by omega) v (F++S) out' ⟨hl.1.trans h1.1,hl.2.trans h1.2⟩ ?_
    rcases hm with hm|⟨hm,hm'⟩
    ·exact .inl hm
    ·exact .inr ⟨hm,by omega⟩
structure WayI where
 w:Way
 idle:Nat
 found:Nat
theorem runW_none_len {p:Prog1} {most:Int}:∀(fuel:Nat) (todo out out':List Way),out.length=out'.length→runW p most fuel todo out=none→runW p most fuel todo out' = none
 | fuel,[],out,out',_,h=>by unfold runW at h;simp at h
 | 0,w::todo,out,out',hl,h=>by
   by_cases ho:(out.length:Int)=most
   ·unfold runW at h;simp only[ho,if_true]at h;cases h
   ·exact runW_zero (by rw[← hl];exact ho)
 | fuel+1,w::todo,out,out',hl,h=>by
   by_cases ho:(out.length:Int)=most
   ·unfold runW at h;simp only[ho,if_true]at h;cases h
   ·rw[runW_step ho]at h
    rw[runW_step (by rw[← hl];exact ho)]
    cases hs:stepW p w with
    | done=>rw[hs]at h;exact runW_none_len fuel todo _ _ (by simp[hl]) h
    | ways l=>rw[hs]at h;exact runW_none_len fuel _ _ _ hl h
structure Ghost where
 e:WayI
 hs:List Way
def Chain (p:Prog1) (found outN:Nat):List Way→Prop
 | []=>True
 | a::l=>(∀ b∈l,∃ E d m,Reach p b a E d (m+1)∧found+d≤outN)∧Chain p found outN l
theorem Chain.mono {p:Prog1} {f n n':Nat} (h:n≤n'):∀ {l:List Way},Chain p f n l→Chain p f n' l
 | [],_=>trivial
 | a::l,⟨h1,h2⟩=>⟨fun b hb=>by
    obtain⟨E,d,m,r,hd⟩:=h1 b hb
    exact⟨E,d,m,r,by omega⟩,Chain.mono h h2⟩
structure Hist (p:Prog1) (n outN:Nat) (t:Ghost) (rest:List Ghost):Prop where
 idle:∀ g∈t::rest,g.hs.length=g.e.idle∧g.e.found≤outN
 at_:∀ g∈t::rest,g.e.w.pc < n∧∀ h∈g.hs,h.at_=g.e.w.at_∧h.pc < n
 chain:∀ g∈t::rest,Chain p g.e.found outN g.hs
 reach:∀ i g,(t::rest)[i]?=some g→∀ h∈g.hs,∃ E S d m,rest.map (·.e.w)=E++S∧i≤E.length∧Reach p h t.e.w E d (m+1)∧g.e.found+d≤outN
theorem nodup_lt:∀(n:Nat) (L:List Nat),(∀ x∈L,x < n)→L.Nodup→L.length≤n
 | 0,[],_,_=>Nat.le_refl _
 | 0,x::_,h,_=>absurd (h x (List.mem_cons_self ..)) (Nat.not_lt_zero _)
 | n+1,L,h,hd=>by
   have h1:(L.erase n).length≤n:=nodup_lt n (L.erase n) (fun x hx=>by
    have h2:=(List.Nodup.mem_erase_iff hd).1 hx
    have h3:=h x h2.2
    have h4:=h2.1
    omega) (hd.erase n)
   rw[List.length_erase]at h1
   split at h1<;>omega
theorem chain_dup {p:Prog1} {f N:Nat}:∀(L:List Way),Chain p f N L→¬ (L.map (·.pc)).Nodup→∃ a∈L,∃ b∈L,b.pc=a.pc∧∃ E d m,Reach p b a E d (m+1)∧f+d≤N
 | [],_,h=>absurd List.nodup_nil h
 | a::l,⟨h1,h2⟩,h=>by
   by_cases hb:∃ b∈l,b.pc=a.pc
   ·obtain⟨b,b1,b2⟩:=hb
    exact⟨a,List.mem_cons_self ..,b,List.mem_cons_of_mem _ b1,b2,h1 b b1⟩
   ·have:¬ (l.map (·.pc)).Nodup:=fun hn=>h (by
     rw[List.map_cons,List.nodup_cons]
     refine⟨fun hm=>?_,hn⟩
     obtain⟨b,b1,b2⟩:=List.mem_map.1 hm
     exact hb ⟨b,b1,b2⟩)
    obtain⟨x,x1,y,y1,r⟩:=chain_dup l h2 this
    exact⟨x,List.mem_cons_of_mem _ x1,y,List.mem_cons_of_mem _ y1,r⟩
theorem Hist.now {p:Prog1} {n outN:Nat} {t:Ghost} {rest:List Ghost} (h:Hist p n outN t rest):Chain p t.e.found outN (t.e.w::t.hs):=
 ⟨fun b hb=>by
   obtain⟨E,S,d,m,_,_,r,hd⟩:=h.reach 0 t rfl b hb
   exact⟨E,d,m,r,hd⟩,h.chain t (List.mem_cons_self ..)⟩
theorem Hist.circle {p:Prog1} {n:Nat} {t:Ghost} {rest:List Ghost} {out:List Way} (h:Hist p n out.length t rest) (hn:n≤t.e.idle) {most:Int} (hm:most = -1∨t.e.found=out.length) (ho:¬ (out.length:Int)=most) (fuel:Nat) :
  runW p most fuel (t.e.w::rest.map (·.e.w)) out=none:=by
 have h0:=h.now
 have hat:=h.at_ t (List.mem_cons_self ..)
 have hid:=h.idle t (List.mem_cons_self ..)
 have hlen:¬ ((t.e.w::t.hs).map (·.pc)).Nodup:=fun hd=>by
  have:=nodup_lt n _ (fun x hx=>by
   obtain⟨b,b1,rfl⟩:=List.mem_map.1 hx
   rcases List.mem_cons.1 b1 with e|e
   ·rw[e];exact hat.1
   ·exact(hat.2 b e).2) hd
  rw[List.length_map,List.length_cons,hid.1]at this
  omega
 obtain⟨a,a1,b,b1,hpc,E,d,m,r,hd⟩:=chain_dup _ h0 hlen
 have hlike:b.like a:=by
  refine⟨hpc,?_⟩
  have:∀ c∈t.e.w::t.hs,c.at_=t.e.w.at_:=fun c hc=>by
   rcases List.mem_cons.1 hc with e|e
   ·rw[e]
   ·exact(hat.2 c e).1
  rw[this b b1,this a a1]
 have hd0:most = -1∨d=0:=by
  rcases hm with h|h
  ·exact .inl h
  ·exact .inr (by omega)
 rcases List.mem_cons.1 a1 with e|e
 ·subst e
  refine Go.Ev.circle r hlike fuel t.e.w _ out hlike ?_
  rcases hd0 with h|h
  ·exact .inl h
  ·exact .inr ⟨h,ho⟩
 ·obtain⟨E2,S2,d2,m2,hr,_,r2,hd2⟩:=h.reach 0 t rfl a e
  have hlen0:(out.take (out.length - d2)).length+d2=out.length:=by simp;omega
  have hq:most = -1∨(d2=0∧¬ ((out.take (out.length - d2)).length:Int)=most):=by
   rcases hm with h|h
   ·exact .inl h
   ·refine .inr ⟨by omega,?_⟩
    have:d2=0:=by omega
    subst this
    simpa using ho
  obtain⟨out',o1,o2⟩:=r2.run S2 (out.take (out.length - d2)) hq fuel
  have hn:=Go.Ev.circle r hlike (m2+1+fuel) a S2 (out.take (out.length - d2)) hlike (by
   rcases hd0 with h|h
   ·exact .inl h
   ·rcases hq with g|g
    ·exact .inl g
    ·exact .inr ⟨h,g.2⟩)
  rw[hn]at o2
  rw[hr]
  exact runW_none_len fuel _ out' out (by omega) o2.symm
theorem Hist.step {p:Prog1} {n outN:Nat} {t:Ghost} {rest:List Ghost} (h:Hist p n outN t rest) (hcl:∀ w l,w.pc < n→stepW p w=.ways l→∀ v∈l,v.pc < n)
  {hs:List Way} {found:Nat} (hh:(hs=t.e.w::t.hs∧found=t.e.found)∨(hs=[t.e.w]∧found=outN)) {v:Way} {l:List Way} (hs1:stepW p t.e.w=.ways (v::l)) :
  ∃ t' rest',Hist p n outN t' rest'∧t'.e::rest'.map (·.e)=(v::l).map (fun v=>if v.at_=t.e.w.at_ then⟨v,hs.length,found⟩ else⟨v,0,outN⟩)++rest.map (·.e):=by
 have hat:=h.at_ t (List.mem_cons_self ..)
 have hid:=h.idle t (List.mem_cons_self ..)
 have hf:found≤outN:=by rcases hh with ⟨_,h⟩|⟨_,h⟩<;>omega
 have hhs:∀ b∈hs,b.at_=t.e.w.at_∧b.pc < n:=fun b hb=>by
  rcases hh with ⟨e,_⟩|⟨e,_⟩
  ·rw[e]at hb
   rcases List.mem_cons.1 hb with e|e
   ·rw[e];exact⟨rfl,hat.1⟩
   ·exact hat.2 b e
  ·rw[e]at hb
   rw[List.mem_singleton.1 hb];exact⟨rfl,hat.1⟩
 have hch:Chain p found outN hs:=by
  rcases hh with ⟨e,e'⟩|⟨e,e'⟩
  ·rw[e,e'];exact h.now
  ·rw[e];exact⟨fun b hb=>by simp at hb,trivial⟩
 have hre:∀ b∈hs,∃ E S d m,rest.map (·.e.w)=E++S∧Reach p b v (l++E) d (m+1)∧found+d≤outN:=fun b hb=>by
  have self:∃ E S d m,rest.map (·.e.w)=E++S∧Reach p t.e.w v (l++E) d (m+1)∧found+d≤outN:=⟨[],_,0,0,rfl,.on (.refl _) hs1,by omega⟩
  rcases hh with ⟨e,e'⟩|⟨e,_⟩
  ·rw[e]at hb
   rcases List.mem_cons.1 hb with e|e
   ·rw[e];exact self
   ·obtain⟨E,S,d,m,r1,r2,r3,r4⟩:=h.reach 0 t rfl b e
    exact⟨E,S,d,m+1,r1,.on r3 hs1,by omega⟩
  ·rw[e]at hb
   rw[List.mem_singleton.1 hb];exact self
 let gh:Way→Ghost:=fun v=>if v.at_=t.e.w.at_ then⟨⟨v,hs.length,found⟩,hs⟩ else⟨⟨v,0,outN⟩,[]⟩
 have hgh:∀ v,(gh v).e.w=v:=fun v=>by simp only[gh];split<;>rfl
 have hghe:∀ v,(gh v).e=if v.at_=t.e.w.at_ then⟨v,hs.length,found⟩ else⟨v,0,outN⟩:=fun v=>by simp only[gh];split<;>rfl
 have hghs:∀ v,(gh v).hs=hs∧(gh v).e.found=found∨(gh v).hs=[]:=fun v=>by
  simp only[gh];split
  ·exact .inl ⟨rfl,rfl⟩
  ·exact .inr rfl
 have hpc:=hcl t.e.w (v::l) hat.1 hs1
 refine⟨gh v,l.map gh++rest,⟨fun g hg=>?_,fun g hg=>?_,fun g hg=>?_,fun i g hg b hb=>?_⟩,?_⟩
 ·have hcase:g∈(v::l).map gh∨g∈rest:=by simpa [or_assoc] using hg
  rcases hcase with hg|hg
  ·obtain⟨u,_,rfl⟩:=List.mem_map.1 hg
   simp only[gh];split
   ·exact⟨rfl,hf⟩
   ·exact⟨rfl,Nat.le_refl _⟩
  ·exact h.idle g (List.mem_cons_of_mem _ hg)
 ·have hcase:g∈(v::l).map gh∨g∈rest:=by simpa [or_assoc] using hg
  rcases hcase with hg|hg
  ·obtain⟨u,hu,rfl⟩:=List.mem_map.1 hg
   refine⟨by rw[hgh];exact hpc u hu,?_⟩
   simp only[gh];split
   ·rename_i e
    intro b hb
    rw[e];exact hhs b hb
   ·intro b hb;simp at hb
  ·exact h.at_ g (List.mem_cons_of_mem _ hg)
 ·have hcase:g∈(v::l).map gh∨g∈rest:=by simpa [or_assoc] using hg
  rcases hcase with hg|hg
  ·obtain⟨u,_,rfl⟩:=List.mem_map.1 hg
   simp only[gh];split
   ·exact hch
   ·exact trivial
  ·exact h.chain g (List.mem_cons_of_mem _ hg)
 ·have hmap:(l.map gh++rest).map (·.e.w)=l++rest.map (·.e.w):=by
   rw[List.map_append,List.map_map]
   congr 1
   rw[show ((fun x:Ghost=>x.e.w) ∘ gh)=id from funext hgh,List.map_id]
  rw[hmap,hgh]
  by_cases hi:i < (v::l).length
  ·have hg':((v::l).map gh)[i]?=some g:=by
    rw[show gh v::(l.map gh++rest)=(v::l).map gh++rest from rfl,List.getElem?_append_left (by simpa using hi)]at hg
    exact hg
   obtain⟨u,_,rfl⟩:=List.mem_map.1 (List.mem_of_getElem? hg')
   rcases hghs u with ⟨e1,e2⟩|e1
   ·rw[e1]at hb
    obtain⟨E,S,d,m,r1,r2,r3⟩:=hre b hb
    exact⟨l++E,S,d,m,by rw[r1,List.append_assoc],by simp at hi ⊢;omega,r2,by rw[e2];exact r3⟩
   ·rw[e1]at hb;simp at hb
  ·rw[show gh v::(l.map gh++rest)=(v::l).map gh++rest from rfl,List.getElem?_append_right (by simp at hi ⊢;omega)]at hg
   simp only[List.length_map]at hg
   obtain⟨E,S,d,m,r1,r2,r3,r4⟩:=h.reach (i - (v::l).length+1) g (by simpa using hg) b hb
   refine⟨l++E,S,d,m+1,by rw[r1,List.append_assoc],?_,.on r3 hs1,r4⟩
   simp at hi r2 ⊢;omega
 ·simp only[List.map_cons,List.map_append,List.map_map,List.cons_append,List.cons.injEq]
  exact⟨hghe v,by congr 1;exact List.map_congr_left fun u _=>hghe u⟩
theorem Hist.pop {p:Prog1} {n outN:Nat} {t e:Ghost} {rest:List Ghost} (h:Hist p n outN t (e::rest)) {k:Nat} (hs:(stepW p t.e.w=.ways []∧k=0)∨(stepW p t.e.w=.done∧k=1)):Hist p n (outN+k) e rest:=by
 refine⟨fun g hg=>?_,fun g hg=>h.at_ g (List.mem_cons_of_mem _ hg),fun g hg=>(h.chain g (List.mem_cons_of_mem _ hg)).mono (by omega),fun i g hg b hb=>?_⟩
 ·have:=h.idle g (List.mem_cons_of_mem _ hg)
  exact⟨this.1,by omega⟩
 ·obtain⟨E,S,d,m,r1,r2,r3,r4⟩:=h.reach (i+1) g (by simpa using hg) b hb
  cases E with
  | nil=>simp at r2
  | cons x E=>
    simp only[List.map_cons,List.cons_append,List.cons.injEq]at r1
    obtain⟨rfl,r1⟩:=r1
    rcases hs with ⟨hs,rfl⟩|⟨hs,rfl⟩
    ·exact⟨E,S,d,m+1,r1,by simpa using r2,.pop r3 hs,r4⟩
    ·exact⟨E,S,d+1,m+1,r1,by simpa using r2,.found r3 hs,by omega⟩
end Go.Ev
namespace Go.Ev
attribute [local go_sem] evAppend evBin AV.cells frzB List.length_append List.map_append
end Go.Ev
namespace Go.Ev
open Go.Proofs Go.RowKit Go.IntWalk
set_option maxRecDepth 100000
set_option maxHeartbeats 4000000
structure Okay (g:Prg):Prop where
 len:1≤g.ins.length∧g.ins.length≤8192
 caps:0≤g.caps∧g.caps≤9
 ok:∀ i∈g.ins,okIns g.ins.length g.caps g.runes i=true
 last:lastGood g=true
theorem Okay.next {g:Prg} (h:Okay g) {pc:Nat} {i:Ins} (hi:g.ins[pc]?=some i) (ho:¬ (i.op=0∨i.op=2∨i.op=3)):pc+1 < g.ins.length:=by
 have hlt:=(List.getElem?_eq_some_iff.1 hi).1
 rcases Nat.lt_or_ge (pc+1) g.ins.length with hh|hh
 ·exact hh
 ·have hl:=h.last
  have:g.ins.length - 1=pc:=by omega
  simp only[lastGood,this,hi]at hl
  simp at hl
  omega
end Go.Ev
namespace Go.Ev
attribute [local go_sem] evAppend evBin AV.cells frzB List.length_append List.map_append
section
attribute [local go_sem] tySzE List.head?_drop Nat.mul_one sameAt_zero sameAt_two sameAt_three sameAt_four sameAt_five room_ok
open Go.Proofs Go.RowKit Go.IntWalk
set_option maxRecDepth 100000
set_option maxHeartbeats 8000000
theorem call_frz {P:Program} {pol:Pol} {f:Nat} {args l:List AV} {H H1:List MB} (hp:pol.pure f=true) (h:frzArgs pol f 0 args H=some (l,H1)) (ha:AV.plainL l=true) :
  call P pol f args H=call P pol f l H1:=by
 have hf:∀(l:List AV) (i:Nat),AV.plainL l=true→frzArgs pol f i l H1=some (l,H1):=by
  intro l
  induction l with
  | nil=>intro i _;rfl
  | cons x l ih=>
    intro i h
    simp only[AV.plainL,Bool.and_eq_true]at h
    simp only[frzArgs,fz_plain H1 h.1,ih (i+1) h.2]
    split<;>simp_all
 rw[call_eq,call_eq]
 unfold evStep
 simp only[hp,if_true,h,hf l 0 ha]
end
section
attribute [local go_sem] tySzE List.head?_drop Nat.mul_one sameAt_zero sameAt_two sameAt_three sameAt_four sameAt_five room_ok
open Go.Proofs Go.RowKit Go.IntWalk
set_option maxRecDepth 100000
set_option maxHeartbeats 8000000
theorem compL_iff (ins:List Int):∀ l:List Re,compL ins l=true↔∀ k∈l,compG ins k=true
 | []=>by simp[compL]
 | k::ks=>by simp[compL,compL_iff ins ks]
theorem compL_false {ins:List Int} {l:List Re} {k:Re} (h:k∈l) (hk:compG ins k=false):compL ins l=false:=by
 rw[Bool.eq_false_iff]
 intro hw
 rw[compL_iff]at hw
 rw[hw k h]at hk;cases hk
theorem compL_true {ins:List Int} {l:List Re} (h:∀(i:Nat) (k:Re),i < l.length→l[i]?=some k→compG ins k=true):compL ins l=true:=by
 rw[compL_iff]
 intro k hk
 obtain⟨i,hi,e⟩:=List.getElem_of_mem hk
 exact h i k hi (by rw[← e];exact List.getElem?_eq_getElem hi)
theorem f115 (l:List Int) (x:Int) (hl:l.length≤10000000) (H:List MB):call Try.prog pol1 40 [.sl false (l.map I),I x] H=some (.bool (decide (x∈l)),H):=by
 refine call_run Try.func40 rfl rfl rfl rfl rfl rfl (fun _=>rfl) (by simp[AV.plain,AV.plainL,plain_ints]) rfl ?_ H
 simp +contextual (disch:=omega) only[Try.f40,dd40,go_sem,simprocAttr,mu40,↓wrap_up,↓wrap_down,↓wrap_pred,↓wrap_sub_nat]
 refine W_count (M:=(mskOf (pol1.mask 40) (pol1.gc 40) (pol1.acts 40) 0 2)) rfl l.length (fun i=>(⟨18,[(5,I i),(1,I x),(0,.sl false (l.map I))],[]⟩:St)) (fun i=>∀ k p,k < i→l[k]?=some p→p≠x) ?_ ?_ (fun k p h=>by omega) _ (by first|rfl|(simp[keepT,AV.underL,AV.under,MB.under,underL_plain,under_plain,underL_append,plain_ints,plain_span,plain_ins,plain_prg,-List.map_take,-List.map_replicate,-List.map_set];done))
 ·intro i hi hg
  obtain⟨p,hp⟩:∃ p,l[i]?=some p:=⟨_,List.getElem?_eq_getElem hi⟩
  by_cases hpx:p=x
  ·subst hpx
   rw[decide_eq_true (List.mem_of_getElem? hp)]
   simp +contextual (disch:=omega) only[Try.f40,dd40,go_sem,simprocAttr,mu40,↓wrap_up,↓wrap_down,↓wrap_pred,↓wrap_sub_nat,hp]
   exact fzEq rfl rfl
  ·simp +contextual (disch:=omega) only[Try.f40,dd40,go_sem,simprocAttr,mu40,↓wrap_up,↓wrap_down,↓wrap_pred,↓wrap_sub_nat,hp]
   refine⟨fun k q hk hq=>?_,(by first|rfl|(simp[keepT,AV.underL,AV.under,MB.under,underL_plain,under_plain,underL_append,plain_ints,plain_span,plain_ins,plain_prg,-List.map_take,-List.map_replicate,-List.map_set];done))⟩
   rcases Nat.lt_or_ge k i with h|h
   ·exact hg k q h hq
   ·obtain rfl:k=i:=by omega
    rw[hp]at hq;obtain rfl:=Option.some.inj hq
    exact hpx
 ·intro hg
  have:¬ x∈l:=fun hm=>by
   obtain⟨i,hi,e⟩:=List.getElem_of_mem hm
   exact hg i x hi (by rw[← e];exact List.getElem?_eq_getElem hi) rfl
  rw[decide_eq_false this]
  simp +contextual (disch:=omega) only[Try.f40,dd40,go_sem,simprocAttr,mu40,↓wrap_up,↓wrap_down,↓wrap_pred,↓wrap_sub_nat]
  exact fzEq rfl rfl
def zi (m:Nat):Nat→Nat
 | 0=>0
 | _+1=>m
theorem zi_max (m i:Nat):max (zi m i) m=m:=by cases i<;>simp[zi]
theorem f53 (caps top:Int):∀(N:Nat) (r:Re) (ins:List Int),r.wt≤N→r.wt≤1000000→ins.length+r.wt≤2000000→wholeG caps top r=true→∀ H,call Try.prog pol1 22 [reAV r,.sl false (ins.map I)] H=some (.bool (compG ins r),H)
 | 0,r,_,h,_,_,_=>by have:=r.wt_pos;omega
 | N+1,.mk op set kids mn mx md n neg,ins,h,hN,hI,hw=>by
   intro H
   have hkl:=Re.wtL_len kids
   have hwt:1+set.length+Re.wtL kids=(Re.mk op set kids mn mx md n neg).wt:=by simp[Re.wt]
   obtain⟨hwk,hkd,hrp,_,ho1,ho2⟩:=whole_facts hw
   have ih:=fun k (hk:k∈kids) (ins':List Int) (hi:ins'.length≤ins.length+1)=>f53 caps top N k ins' (by have:=Re.wtL_mem hk;omega) (by have:=Re.wtL_mem hk;omega) (by have:=Re.wtL_mem hk;omega) (hwk k hk)
   have h20:=fun k (hk:k∈kids)=>f20 k.wt k (Nat.le_refl _) (by have:=Re.wtL_mem hk;omega)
   have h115:=f115 ins n (by omega)
   rw[show reAV (.mk op set kids mn mx md n neg)=.agg (nodeL op set kids mn mx md n neg) from congrArg AV.agg reC_mk]
   refine call_run Try.func22 rfl rfl rfl rfl rfl rfl (fun _=>rfl) (by simp[AV.plain,AV.plainL,plain_span,plain_kids,plain_ints]) rfl ?_ H
   rw[compG]
   by_cases h4:op=4∧(md=2∨nullHd kids=true)
   ·rw[if_pos h4]
    obtain⟨rfl,h4⟩:=h4
    by_cases hmd:md=2
    ·simp +contextual (disch:=omega) only[Try.f22,dd22,go_sem,simprocAttr,mu22,↓wrap_up,↓wrap_down,↓wrap_pred,↓wrap_sub_nat]
     exact fzEq rfl rfl
    ·have hnl:nullHd kids=true:=by rcases h4 with h|h;exact absurd h hmd;exact h
     cases kids with
     | nil=>simp[nullHd]at hnl
     | cons k ks=>
       have h20k:=h20 k (List.mem_cons_self ..)
       rw[show nullG k=true from hnl]at h20k
       have hl8:=reC_len k
       have ht8:=reC_take k
       simp only[List.length_cons]at hkl
       simp +contextual (disch:=omega) only[Try.f22,dd22,go_sem,simprocAttr,mu22,↓wrap_up,↓wrap_down,↓wrap_pred,↓wrap_sub_nat,h20k,hl8,ht8]
       exact fzEq rfl rfl
   rw[if_neg h4]
   by_cases h5:op=5
   ·subst h5
    rw[if_pos rfl]
    by_cases hm:n∈ins
    ·rw[if_pos hm]
     rw[decide_eq_true hm]at h115
     simp +contextual (disch:=omega) only[Try.f22,dd22,go_sem,simprocAttr,mu22,↓wrap_up,↓wrap_down,↓wrap_pred,↓wrap_sub_nat,h115]
     exact fzEq rfl rfl
    ·rw[if_neg hm]
     rw[decide_eq_false hm]at h115
     have hcall:∀(b0:MB) (z:Nat) (k:Re),k∈kids→call Try.prog pol1 22 [reAV k,.ms 1 1 (ins.length+1) 0 (ins.length+1)] [b0,.row 1 ((ins++[n]).map I) z]=some (.bool (compG (ins++[n]) k),[b0,.row 1 ((ins++[n]).map I) (max z (ins.length+1))]):=fun b0 z k hk=>by
      have h1:frzArgs pol1 22 0 [reAV k,.ms 1 1 (ins.length+1) 0 (ins.length+1)] [b0,.row 1 ((ins++[n]).map I) z]=some ([reAV k,.sl false ((ins++[n]).map I)],[b0,.row 1 ((ins++[n]).map I) (max z (ins.length+1))]):=by
       have h2:fz (.ms 1 1 (ins.length+1) 0 (ins.length+1)) [b0,.row 1 ((ins++[n]).map I) z]=some (.sl false ((ins++[n]).map I),[b0,.row 1 ((ins++[n]).map I) (max z (ins.length+1))]):=
        fz_row (k:=1) (z:=z) rfl (by simp) (plain_ints _)
       have hby:∀ i,pol1.byref 22 i=false:=fun i=>rfl
       simp only[frzArgs,hby,Bool.false_eq_true,if_false,fz_plain _ (show AV.plain (reAV k)=true from plain_reC k),h2]
      rw[call_frz rfl h1 (by simp[AV.plainL,AV.plain,plain_reC,plain_ints,-List.map_append])]
      exact ih k hk (ins++[n]) (by simp) _
     have hmm:∀ z,z=0∨z=ins.length+1→max z (ins.length+1)=ins.length+1:=fun z hz=>by omega
     have hinl:ins.length≤2000000:=by omega
     cases ins with
     | nil=>
       simp only[List.map_nil,List.map_cons,List.nil_append,List.length_nil,Nat.zero_add]at h115 hcall
       simp +contextual (disch:=omega) only[Try.f22,dd22,go_sem,simprocAttr,mu22,↓wrap_up,↓wrap_down,↓wrap_pred,↓wrap_sub_nat,h115]
       repeat' (first|intro _|apply And.intro|(unfold dOk;kernel_rfl)|exact St.beq_refl _|(show altO _ _ _ _=true;kernel_rfl)|(show (_ || _)=true;kernel_rfl)|(show (_ && _)=true;kernel_rfl))
       refine W_count (M:=(mskOf (pol1.mask 22) (pol1.gc 22) (pol1.acts 22) 0 12)) rfl kids.length (fun i=>(⟨61,[(7,I i),(2,.rf 0 1 0 0),(1,.ms 1 1 (1) 0 (1))],[.row 8 [.agg (nodeL 5 set kids mn mx md n neg)] 0,.row 1 ([I n]) (zi (1) i)]⟩:St)) (fun i=>∀ j k,j < i→kids[j]?=some k→compG ([n]) k=true) ?_ ?_ (fun j k h=>by omega) _ (by first|rfl|(refine prep_to (n:=2) (m:=⟨some [7,2,1],some 2,[]⟩) rfl rfl ?_ ?_ ?_<;>first|rfl|(simp[keepT,AV.underL,AV.under,MB.under,underL_plain,under_plain,underL_append,plain_ints,plain_span,plain_ins,plain_prg,-List.map_take,-List.map_replicate,-List.map_set,plain_kids,zi];done)|(simp[keepT,AV.underL,AV.under,MB.under,underL_plain,under_plain,underL_append,plain_ints,plain_span,plain_ins,plain_prg,-List.map_take,-List.map_replicate,-List.map_set,plain_kids,zi];omega)))
       ·intro i hi hg
        obtain⟨k,hk⟩:∃ k,kids[i]?=some k:=⟨_,List.getElem?_eq_getElem hi⟩
        have ihk:=fun b0 z=>hcall b0 z k (List.mem_of_getElem? hk)
        have hl8:=reC_len k
        have ht8:=reC_take k
        have hz:=zi_max (1) i
        cases hn:compG ([n]) k with
        | false=>
          rw[hn]at ihk
          rw[show compL [n] kids=false from compL_false (List.mem_of_getElem? hk) hn]
          simp +contextual (disch:=omega) only[Try.f22,dd22,go_sem,simprocAttr,mu22,↓wrap_up,↓wrap_down,↓wrap_pred,↓wrap_sub_nat,hk,ihk,hl8,ht8]
          exact fzEq rfl rfl
        | true=>
          rw[hn]at ihk
          simp +contextual (disch:=omega) only[Try.f22,dd22,go_sem,simprocAttr,mu22,↓wrap_up,↓wrap_down,↓wrap_pred,↓wrap_sub_nat,hk,ihk,hl8,ht8,hz]
          refine⟨fun j q hj hq=>?_,(by first|rfl|(refine prep_to (n:=2) (m:=⟨some [7,2,1],some 2,[]⟩) rfl rfl ?_ ?_ ?_<;>first|rfl|(simp[keepT,AV.underL,AV.under,MB.under,underL_plain,under_plain,underL_append,plain_ints,plain_span,plain_ins,plain_prg,-List.map_take,-List.map_replicate,-List.map_set,plain_kids,plain_ints];done)|(simp[keepT,AV.underL,AV.under,MB.under,underL_plain,under_plain,underL_append,plain_ints,plain_span,plain_ins,plain_prg,-List.map_take,-List.map_replicate,-List.map_set,plain_kids,plain_ints];omega)))⟩
          rcases Nat.lt_or_ge j i with h|h
          ·exact hg j q h hq
          ·obtain rfl:j=i:=by omega
           rw[hk]at hq;obtain rfl:=Option.some.inj hq
           exact hn
       ·intro hg
        rw[show compL [n] kids=true from compL_true fun j k hj hk=>hg j k hj hk]
        simp +contextual (disch:=omega) only[Try.f22,dd22,go_sem,simprocAttr,mu22,↓wrap_up,↓wrap_down,↓wrap_pred,↓wrap_sub_nat]
        exact fzEq rfl rfl
     | cons x xs=>
       simp only[List.map_nil,List.map_cons,List.map_append,List.cons_append,List.length_cons]at h115 hcall hinl
       have hto:List.take (xs.length+1) (I x::List.map I xs)=I x::List.map I xs:=by rw[List.take_succ_cons];rw[take_map_len rfl]
       have hsn:x::(xs++[n])=(x::xs)++[n]:=rfl
       have hal:=all_int1 (x::xs)
       simp +contextual (disch:=omega) only[Try.f22,dd22,go_sem,simprocAttr,mu22,↓wrap_up,↓wrap_down,↓wrap_pred,↓wrap_sub_nat,h115,hto]
       repeat' (first|intro _|apply And.intro|(unfold dOk;kernel_rfl)|exact St.beq_refl _|(show altO _ _ _ _=true;kernel_rfl)|(show (_ || _)=true;kernel_rfl)|(show (_ && _)=true;kernel_rfl))
       ·exact all_int1 xs
       refine W_count (M:=(mskOf (pol1.mask 22) (pol1.gc 22) (pol1.acts 22) 0 12)) rfl kids.length (fun i=>(⟨61,[(7,I i),(2,.rf 0 1 0 0),(1,.ms 1 1 (xs.length+1+1) 0 (xs.length+1+1))],[.row 8 [.agg (nodeL 5 set kids mn mx md n neg)] 0,.row 1 (I x::(List.map I xs++[I n])) (zi (xs.length+1+1) i)]⟩:St)) (fun i=>∀ j k,j < i→kids[j]?=some k→compG (x::(xs++[n])) k=true) ?_ ?_ (fun j k h=>by omega) _ (by first|rfl|(refine prep_to (n:=2) (m:=⟨some [7,2,1],some 2,[]⟩) rfl rfl ?_ ?_ ?_<;>first|rfl|(simp[keepT,AV.underL,AV.under,MB.under,underL_plain,under_plain,underL_append,plain_ints,plain_span,plain_ins,plain_prg,-List.map_take,-List.map_replicate,-List.map_set,plain_kids,zi];done)|(simp[keepT,AV.underL,AV.under,MB.under,underL_plain,under_plain,underL_append,plain_ints,plain_span,plain_ins,plain_prg,-List.map_take,-List.map_replicate,-List.map_set,plain_kids,zi];omega)))
       ·intro i hi hg
        obtain⟨k,hk⟩:∃ k,kids[i]?=some k:=⟨_,List.getElem?_eq_getElem hi⟩
        have ihk:=fun b0 z=>hcall b0 z k (List.mem_of_getElem? hk)
        have hl8:=reC_len k
        have ht8:=reC_take k
        have hz:=zi_max (xs.length+1+1) i
        cases hn:compG (x::(xs++[n])) k with
        | false=>
          rw[hn]at ihk
          rw[show compL (x::(xs++[n])) kids=false from compL_false (List.mem_of_getElem? hk) hn]
          simp +contextual (disch:=omega) only[Try.f22,dd22,go_sem,simprocAttr,mu22,↓wrap_up,↓wrap_down,↓wrap_pred,↓wrap_sub_nat,hk,ihk,hl8,ht8]
          exact fzEq rfl rfl
        | true=>
          rw[hn]at ihk
          simp +contextual (disch:=omega) only[Try.f22,dd22,go_sem,simprocAttr,mu22,↓wrap_up,↓wrap_down,↓wrap_pred,↓wrap_sub_nat,hk,ihk,hl8,ht8,hz]
          refine⟨fun j q hj hq=>?_,(by first|rfl|(refine prep_to (n:=2) (m:=⟨some [7,2,1],some 2,[]⟩) rfl rfl ?_ ?_ ?_<;>first|rfl|(simp[keepT,AV.underL,AV.under,MB.under,underL_plain,under_plain,underL_append,plain_ints,plain_span,plain_ins,plain_prg,-List.map_take,-List.map_replicate,-List.map_set,plain_kids,plain_ints];done)|(simp[keepT,AV.underL,AV.under,MB.under,underL_plain,under_plain,underL_append,plain_ints,plain_span,plain_ins,plain_prg,-List.map_take,-List.map_replicate,-List.map_set,plain_kids,plain_ints];omega)))⟩
          rcases Nat.lt_or_ge j i with h|h
          ·exact hg j q h hq
          ·obtain rfl:j=i:=by omega
           rw[hk]at hq;obtain rfl:=Option.some.inj hq
           exact hn
       ·intro hg
        rw[show compL (x::(xs++[n])) kids=true from compL_true fun j k hj hk=>hg j k hj hk]
        simp +contextual (disch:=omega) only[Try.f22,dd22,go_sem,simprocAttr,mu22,↓wrap_up,↓wrap_down,↓wrap_pred,↓wrap_sub_nat]
        exact fzEq rfl rfl
   rw[if_neg h5]
   by_cases h6:5 < op∧op≠11
   ·rw[if_pos h6]
    have hnl:op=4→¬ nullHd kids=true:=fun h=>by omega
    simp +contextual (disch:=omega) only[Try.f22,dd22,go_sem,simprocAttr,mu22,↓wrap_up,↓wrap_down,↓wrap_pred,↓wrap_sub_nat]
    exact fzEq rfl rfl
   rw[if_neg h6]
   have hfrz:∀ k (H:List MB),k∈kids→call Try.prog pol1 22 [reAV k,.sl false (ins.map I)] H=some (.bool (compG ins k),H):=fun k H hk=>ih k hk ins (by omega) H
   have hmain:∀ k',kids.head?=some k'→op=4→∀ H,call Try.prog pol1 39 [reAV k'] H=some (.bool false,H):=fun k' hk' hop4=>by
    cases kids with
    | nil=>cases hk'
    | cons k ks=>
      have e:k=k':=by simpa using hk'
      subst e
      have h1:=h20 k (List.mem_cons_self ..)
      have:nullG k=false:=by
       cases hn:nullG k with
       | false=>rfl
       | true=>exact absurd ⟨hop4,.inr hn⟩ h4
      rw[this]at h1;exact h1
   have hloop:∀ r,r=compL ins kids→op≠5→True:=fun _ _ _=>trivial
   have hone:op=4→kids.length=1:=fun h=>by subst h;simpa [kidsG] using hkd
   by_cases ho4:op=4
   ·subst ho4
    have hmd:¬ md=2:=fun h=>h4 ⟨rfl,.inl h⟩
    have hk1:=hone rfl
    match kids,hk1 with
    | [k],_=>
      have h20k:=hmain k rfl rfl
      have hl8:=reC_len k
      have ht8:=reC_take k
      have hf:=fun H=>hfrz k H (List.mem_cons_self ..)
      generalize hks:([k]:List Re)=kids at *
      have hkk:kids.map reAV=[reAV k]:=by rw[← hks];rfl
      have hget:(kids.map reAV)[0]?=some (reAV k):=by rw[hkk];rfl
      have hget':kids[0]?=some k:=by rw[← hks];rfl
      have hlen1:kids.length=1:=by rw[← hks];rfl
      clear hmain hloop hone
      simp +contextual (disch:=omega) only[Try.f22,dd22,go_sem,simprocAttr,mu22,↓wrap_up,↓wrap_down,↓wrap_pred,↓wrap_sub_nat,h20k,hl8,ht8,hget']
      refine W_count (M:=(mskOf (pol1.mask 22) (pol1.gc 22) (pol1.acts 22) 0 12)) rfl (kids).length (fun i=>(⟨61,[(7,I i),(2,.rf 0 1 0 0),(1,.sl false (ins.map I))],[.row 8 [.agg (nodeL _ set (kids) mn mx md n neg)] 0]⟩:St)) (fun i=>∀ j k,j < i→(kids)[j]?=some k→compG ins k=true) ?_ ?_ (fun j k h=>by omega) _ (by first|rfl|(refine prep_to (n:=2) (m:=⟨some [7,2,1],some 2,[]⟩) rfl rfl ?_ ?_ ?_<;>first|rfl|(simp[keepT,AV.underL,AV.under,MB.under,underL_plain,under_plain,underL_append,plain_ints,plain_span,plain_ins,plain_prg,-List.map_take,-List.map_replicate,-List.map_set,plain_kids,plain_reC];done)|(simp[keepT,AV.underL,AV.under,MB.under,underL_plain,under_plain,underL_append,plain_ints,plain_span,plain_ins,plain_prg,-List.map_take,-List.map_replicate,-List.map_set,plain_kids,plain_reC];omega)))
      ·intro i hi hg
       obtain⟨k,hk⟩:∃ k,(kids)[i]?=some k:=⟨_,List.getElem?_eq_getElem hi⟩
       have ihk:=fun H=>hfrz k H (List.mem_of_getElem? hk)
       have hl8:=reC_len k
       have ht8:=reC_take k
       cases hn:compG ins k with
       | false=>
         rw[hn]at ihk
         rw[show compL ins (kids)=false from compL_false (List.mem_of_getElem? hk) hn]
         simp +contextual (disch:=omega) only[Try.f22,dd22,go_sem,simprocAttr,mu22,↓wrap_up,↓wrap_down,↓wrap_pred,↓wrap_sub_nat,hk,ihk,hl8,ht8]
         exact fzEq rfl rfl
       | true=>
         rw[hn]at ihk
         simp +contextual (disch:=omega) only[Try.f22,dd22,go_sem,simprocAttr,mu22,↓wrap_up,↓wrap_down,↓wrap_pred,↓wrap_sub_nat,hk,ihk,hl8,ht8]
         refine⟨fun j q hj hq=>?_,(by first|rfl|(refine prep_to (n:=2) (m:=⟨some [7,2,1],some 2,[]⟩) rfl rfl ?_ ?_ ?_<;>first|rfl|(simp[keepT,AV.underL,AV.under,MB.under,underL_plain,under_plain,underL_append,plain_ints,plain_span,plain_ins,plain_prg,-List.map_take,-List.map_replicate,-List.map_set,plain_kids,plain_reC];done)|(simp[keepT,AV.underL,AV.under,MB.under,underL_plain,under_plain,underL_append,plain_ints,plain_span,plain_ins,plain_prg,-List.map_take,-List.map_replicate,-List.map_set,plain_kids,plain_reC];omega)))⟩
         rcases Nat.lt_or_ge j i with h|h
         ·exact hg j q h hq
         ·obtain rfl:j=i:=by omega
          rw[hk]at hq;obtain rfl:=Option.some.inj hq
          exact hn
      ·intro hg
       rw[show compL ins (kids)=true from compL_true fun j k hj hk=>hg j k hj hk]
       simp +contextual (disch:=omega) only[Try.f22,dd22,go_sem,simprocAttr,mu22,↓wrap_up,↓wrap_down,↓wrap_pred,↓wrap_sub_nat]
       exact fzEq rfl rfl
   ·have hop:op=0∨op=1∨op=2∨op=3∨op=11:=by omega
    clear hmain hloop hone h4
    rcases hop with rfl|rfl|rfl|rfl|rfl
    all_goals (
     simp +contextual (disch:=omega) only[Try.f22,dd22,go_sem,simprocAttr,mu22,↓wrap_up,↓wrap_down,↓wrap_pred,↓wrap_sub_nat]
     refine W_count (M:=(mskOf (pol1.mask 22) (pol1.gc 22) (pol1.acts 22) 0 12)) rfl (kids).length (fun i=>(⟨61,[(7,I i),(2,.rf 0 1 0 0),(1,.sl false (ins.map I))],[.row 8 [.agg (nodeL _ set (kids) mn mx md n neg)] 0]⟩:St)) (fun i=>∀ j k,j < i→(kids)[j]?=some k→compG ins k=true) ?_ ?_ (fun j k h=>by omega) _ (by first|rfl|(refine prep_to (n:=2) (m:=⟨some [7,2,1],some 2,[]⟩) rfl rfl ?_ ?_ ?_<;>first|rfl|(simp[keepT,AV.underL,AV.under,MB.under,underL_plain,under_plain,underL_append,plain_ints,plain_span,plain_ins,plain_prg,-List.map_take,-List.map_replicate,-List.map_set,plain_kids,plain_reC];done)|(simp[keepT,AV.underL,AV.under,MB.under,underL_plain,under_plain,underL_append,plain_ints,plain_span,plain_ins,plain_prg,-List.map_take,-List.map_replicate,-List.map_set,plain_kids,plain_reC];omega)))
     ·intro i hi hg
      obtain⟨k,hk⟩:∃ k,(kids)[i]?=some k:=⟨_,List.getElem?_eq_getElem hi⟩
      have ihk:=fun H=>hfrz k H (List.mem_of_getElem? hk)
      have hl8:=reC_len k
      have ht8:=reC_take k
      cases hn:compG ins k with
      | false=>
        rw[hn]at ihk
        rw[show compL ins (kids)=false from compL_false (List.mem_of_getElem? hk) hn]
        simp +contextual (disch:=omega) only[Try.f22,dd22,go_sem,simprocAttr,mu22,↓wrap_up,↓wrap_down,↓wrap_pred,↓wrap_sub_nat,hk,ihk,hl8,ht8]
        exact fzEq rfl rfl
      | true=>
        rw[hn]at ihk
        simp +contextual (disch:=omega) only[Try.f22,dd22,go_sem,simprocAttr,mu22,↓wrap_up,↓wrap_down,↓wrap_pred,↓wrap_sub_nat,hk,ihk,hl8,ht8]
        refine⟨fun j q hj hq=>?_,(by first|rfl|(refine prep_to (n:=2) (m:=⟨some [7,2,1],some 2,[]⟩) rfl rfl ?_ ?_ ?_<;>first|rfl|(simp[keepT,AV.underL,AV.under,MB.under,underL_plain,under_plain,underL_append,plain_ints,plain_span,plain_ins,plain_prg,-List.map_take,-List.map_replicate,-List.map_set,plain_kids,plain_reC];done)|(simp[keepT,AV.underL,AV.under,MB.under,underL_plain,under_plain,underL_append,plain_ints,plain_span,plain_ins,plain_prg,-List.map_take,-List.map_replicate,-List.map_set,plain_kids,plain_reC];omega)))⟩
        rcases Nat.lt_or_ge j i with h|h
        ·exact hg j q h hq
        ·obtain rfl:j=i:=by omega
         rw[hk]at hq;obtain rfl:=Option.some.inj hq
         exact hn
     ·intro hg
      rw[show compL ins (kids)=true from compL_true fun j k hj hk=>hg j k hj hk]
      simp +contextual (disch:=omega) only[Try.f22,dd22,go_sem,simprocAttr,mu22,↓wrap_up,↓wrap_down,↓wrap_pred,↓wrap_sub_nat]
      exact fzEq rfl rfl)
end
section
attribute [local go_sem] tySzE List.head?_drop Nat.mul_one sameAt_zero sameAt_two sameAt_three sameAt_four sameAt_five room_ok
open Go.Proofs Go.RowKit Go.IntWalk
set_option maxRecDepth 100000
set_option maxHeartbeats 8000000
def insSplit (md next other:Int):Ins:=if md=1 then⟨2,other,next,0,[]⟩ else⟨2,next,other,0,[]⟩
mutual
def codeG:Re→Nat→List Ins
 | .mk op set kids mn mx md n neg,f=>
   if op=1 then [⟨1,0,0,0,set⟩] else if op=11 then [⟨5,0,0,n,[]⟩] else if op=2 then codeCat kids f else if op=3 then codeAlt kids f
   else if op=5 then⟨4,0,0,2 * n - 2,[]⟩::(codeHd kids (f+1)++[⟨4,0,0,2 * n - 1,[]⟩])
   else if op=4 then
    let L:=lenL kids
    let copies:=(List.range mn.toNat).flatMap fun i=>codeHd kids (f+i * L)
    let p:=f+mn.toNat * L
    if mx = -1 then copies++(insSplit md ((p+1:Nat):Int) ((p+L+2:Nat):Int)::(codeHd kids (p+1)++[⟨3,(p:Int),0,0,[]⟩]))
    else copies++(List.range (mx.toNat - mn.toNat)).flatMap fun j=>insSplit md ((p+j * (L+1)+1:Nat):Int) ((f+mx.toNat * L+(mx.toNat - mn.toNat):Nat):Int)::codeHd kids (p+j * (L+1)+1)
   else []
def codeCat:List Re→Nat→List Ins
 | [],_=>[]
 | k::ks,f=>codeG k f++codeCat ks (f+lenG k)
def codeAlt:List Re→Nat→List Ins
 | [],_=>[]
 | k::ks,f=>if ks.length=0 then codeG k f else
    ⟨2,((f+1:Nat):Int),((f+lenG k+2:Nat):Int),0,[]⟩::(codeG k (f+1)++(⟨3,((f+lenL (k::ks)+2 * ks.length:Nat):Int),0,0,[]⟩::codeAlt ks (f+lenG k+2)))
def codeHd:List Re→Nat→List Ins
 | [],_=>[]
 | k::_,f=>codeG k f
end
mutual
def codable:Re→Bool
 | .mk op set kids mn mx md n neg=>(decide (op≤5) || op == 11) && codableL kids
def codableL:List Re→Bool
 | []=>true
 | k::ks=>codable k && codableL ks
end
theorem codableL_iff:∀ l:List Re,codableL l=true↔∀ k∈l,codable k=true
 | []=>by simp[codableL]
 | k::ks=>by simp[codableL,codableL_iff ks]
mutual
theorem codable_of:∀(r:Re) (ins:List Int),compG ins r=true→codable r=true
 | .mk op set kids mn mx md n neg,ins,h=>by
   rw[compG]at h
   rw[codable,Bool.and_eq_true,Bool.or_eq_true,decide_eq_true_eq,beq_iff_eq]
   split at h
   ·cases h
   ·split at h
    ·split at h
     ·cases h
     ·exact⟨.inl (by omega),codableL_of kids _ h⟩
    ·split at h
     ·cases h
     ·exact⟨by omega,codableL_of kids _ h⟩
theorem codableL_of:∀(l:List Re) (ins:List Int),compL ins l=true→codableL l=true
 | [],_,_=>rfl
 | k::ks,ins,h=>by
   rw[compL,Bool.and_eq_true]at h
   rw[codableL,codable_of k ins h.1,codableL_of ks ins h.2];rfl
end
structure GoodC (caps top:Int) (r:Re):Prop where
 whole:wholeG caps top r=true
 cod:codable r=true
theorem GoodC.kids {caps top op:Int} {set:List (Int×Int)} {kids:List Re} {mn mx md n:Int} {neg:Bool} (h:GoodC caps top (.mk op set kids mn mx md n neg)):∀ k∈kids,GoodC caps top k:=by
 intro k hk
 have h2:=h.cod
 rw[codable,Bool.and_eq_true,codableL_iff]at h2
 exact⟨(whole_facts h.whole).1 k hk,h2.2 k hk⟩
theorem GoodC.op {caps top op:Int} {set:List (Int×Int)} {kids:List Re} {mn mx md n:Int} {neg:Bool} (h:GoodC caps top (.mk op set kids mn mx md n neg)):op=0∨op=1∨op=2∨op=3∨op=4∨op=5∨op=11:=by
 have h2:=h.cod
 rw[codable,Bool.and_eq_true,Bool.or_eq_true,decide_eq_true_eq,beq_iff_eq]at h2
 have h3:=(whole_facts h.whole).2.2.2.2
 omega
theorem flat_len {α:Type} (g:Nat→List α) (L:Nat):∀ m,(∀ i,i < m→(g i).length=L)→((List.range m).flatMap g).length=m * L
 | 0,_=>by simp
 | m+1,h=>by
   rw[List.range_succ,List.flatMap_append,List.length_append,flat_len g L m (fun i hi=>h i (by omega))]
   simp only[List.flatMap_cons,List.flatMap_nil,List.append_nil,h m (by omega),Nat.succ_mul]
mutual
theorem codeG_len (caps top:Int):∀(r:Re) (f:Nat),GoodC caps top r→(codeG r f).length=lenG r
 | .mk op set kids mn mx md n neg,f,hw=>by
   have hop:=hw.op
   obtain⟨_,hkd,hrp,_,ho1,ho2⟩:=whole_facts hw.whole
   have hwk:=hw.kids
   have hcat:=codeCat_len caps top kids f hwk
   have halt:=codeAlt_len caps top kids f hwk
   have hhd:=fun f=>codeHd_len caps top kids f hwk
   rw[codeG,lenG]
   by_cases h1:op=1
   ·rw[if_pos h1,if_pos (.inl h1)];rfl
   rw[if_neg h1]
   by_cases h11:op=11
   ·rw[if_pos h11,if_pos (.inr h11)];rfl
   rw[if_neg h11,if_neg (show ¬ (op=1∨op=11) by omega)]
   by_cases h2:op=2
   ·rw[if_pos h2,if_neg (show ¬ op=3 by omega),if_neg (show ¬ op=5 by omega),if_neg (show ¬ op=4 by omega)];exact hcat
   rw[if_neg h2]
   by_cases h3:op=3
   ·subst h3
    rw[if_pos rfl,if_pos rfl]
    have:2≤kids.length:=by simpa [kidsG] using hkd
    exact halt (by omega)
   rw[if_neg h3,if_neg h3]
   have hone:op=4∨op=5→kids.length=1:=fun e=>by rcases e with rfl|rfl<;>simpa [kidsG] using hkd
   by_cases h5:op=5
   ·rw[if_pos h5,if_pos h5]
    simp[hhd _ (hone (.inr h5))]
   rw[if_neg h5,if_neg h5]
   by_cases h4:op=4
   ·rw[if_pos h4,if_pos h4]
    have hh:=fun f=>hhd f (hone (.inl h4))
    have hr:=hrp h4
    simp only[repG,Bool.and_eq_true,Bool.or_eq_true,decide_eq_true_eq,beq_iff_eq]at hr
    by_cases hm:mx = -1
    ·simp only[if_pos hm,List.length_append,List.length_cons,List.length_nil]
     rw[flat_len _ (lenL kids) _ (fun i _=>hh _),hh,Nat.succ_mul]
     omega
    ·simp only[if_neg hm,List.length_append]
     rw[flat_len _ (lenL kids) _ (fun i _=>hh _),flat_len _ (lenL kids+1) _ (fun i _=>by simp[hh])]
     obtain⟨e,he⟩:∃ e,mx.toNat=mn.toNat+e:=⟨mx.toNat - mn.toNat,by omega⟩
     rw[he,Nat.add_sub_cancel_left,Nat.add_mul,Nat.mul_add]
     omega
   rw[if_neg h4,if_neg h4]
   have hk0:kids=[]:=by
    have:op=0:=by omega
    subst this
    exact List.length_eq_zero_iff.1 (by simpa [kidsG] using hkd)
   rw[hk0];rfl
theorem codeCat_len (caps top:Int):∀(l:List Re) (f:Nat),(∀ k∈l,GoodC caps top k)→(codeCat l f).length=lenL l
 | [],f,_=>rfl
 | k::ks,f,h=>by
   rw[codeCat,lenL,List.length_append,codeG_len caps top k f (h k (List.mem_cons_self ..)),codeCat_len caps top ks _ (fun k hk=>h k (List.mem_cons_of_mem _ hk))]
theorem codeAlt_len (caps top:Int):∀(l:List Re) (f:Nat),(∀ k∈l,GoodC caps top k)→1≤l.length→(codeAlt l f).length=lenL l+2 * (l.length - 1)
 | [],f,_,h=>by simp at h
 | k::ks,f,h,_=>by
   have hk:=fun f=>codeG_len caps top k f (h k (List.mem_cons_self ..))
   rw[codeAlt]
   split
   ·rename_i h0
    have:ks=[]:=List.length_eq_zero_iff.1 h0
    subst this
    simp[hk,lenL]
   ·rename_i h0
    have:=codeAlt_len caps top ks (f+lenG k+2) (fun k hk=>h k (List.mem_cons_of_mem _ hk)) (by omega)
    simp only[List.length_cons,List.length_append,hk,this,lenL]
    omega
theorem codeHd_len (caps top:Int):∀(l:List Re) (f:Nat),(∀ k∈l,GoodC caps top k)→l.length=1→(codeHd l f).length=lenL l
 | [],f,_,h=>by simp at h
 | k::ks,f,h,hl=>by
   have:ks=[]:=List.length_eq_zero_iff.1 (by simpa using hl)
   subst this
   rw[codeHd,codeG_len caps top k f (h k (List.mem_cons_self ..))]
   simp[lenL]
end
end
end Go.Ev
