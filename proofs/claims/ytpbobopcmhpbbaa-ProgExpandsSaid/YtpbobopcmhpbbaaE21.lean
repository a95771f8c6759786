/- Functions of the program, each with what it computes; no further conditions. -/
import Derived.Test.YtpbobopcmhpbbaaE19
import Derived.Test.YtpbobopcmhpbbaaE20
import Derived.Test.YtpbobopcmhpbbaaE05
import Derived.Test.YtpbobopcmhpbbaaE10
set_option linter.unusedVariables false
set_option linter.unusedSimpArgs false
namespace Go.Ev
set_option linter.unusedSimpArgs false
set_option linter.unusedVariables false
theorem null_join (l:List Re):nullG (joinX l)=nullAll l:=by
 unfold joinX
 split
 ·simp[nullAll]
 ·rw[nullG];simp
theorem null_repX (x:Re) (most md:Int):nullG (repX x most md)=true:=by rw[repX,nullG];simp
theorem null_restX (x:Re) (md:Int):∀ c,nullG (restX x md c)=true
 | 0=>null_repX x 1 md
 | c+1=>null_repX _ 1 md
theorem nullAll_app:∀(a b:List Re),nullAll (a++b)=(nullAll a && nullAll b)
 | [],b=>by simp[nullAll]
 | k::ks,b=>by simp[nullAll,nullAll_app ks b,Bool.and_assoc]
theorem nullAll_repl {x:Re} (hx:nullG x=false) (m:Nat):nullAll (List.replicate m x)=decide (m=0):=by
 cases m with
 | zero=>rfl
 | succ m=>rw[List.replicate_succ,nullAll,hx];simp
theorem null_parts {x:Re} (hx:nullG x=false) {mn mx md:Int} (h0:0≤mn) (hm:mx = -1∨(1≤mx∧mn≤mx)):nullAll (partsX x mn mx md)=decide (mn≤0):=by
 unfold partsX
 rw[nullAll_app,nullAll_repl hx]
 by_cases h:mn=0
 ·subst h
  split
  ·simp[nullAll,null_repX]
  ·rw[if_pos (by omega)];simp[nullAll,null_restX]
 ·have h1:mn.toNat≠0:=by omega
  have h2:¬ mn≤0:=by omega
  simp[h1,h2]
mutual
theorem null_exp (caps top:Int):∀ r:Re,wholeG caps top r=true→lpG r=true→nullG (expX r)=nullG r
 | .mk op set kids mn mx md n neg,h,hl=>by
   obtain⟨hk,hkd,hrp,_⟩:=whole_facts h
   rw[lpG,Bool.and_eq_true]at hl
   obtain⟨h1,h2,h3⟩:=null_expL caps top kids hk hl.2
   rw[expX]
   split
   ·rw[nullG,nullG,h1,h2,h3]
   ·rename_i ho
    have ho4:op=4:=by
     by_cases e:op=4
     ·exact e
     ·exact absurd (.inl e) ho
    subst ho4
    obtain⟨k,rfl⟩:∃ k,kids=[k]:=List.length_eq_one_iff.1 (by simpa [kidsG] using hkd)
    have hr:=hrp rfl
    simp only[repG,Bool.and_eq_true,Bool.or_eq_true,decide_eq_true_eq,beq_iff_eq]at hr
    have hn:nullG k=false:=by simpa [nullHd] using hl.1
    simp only[expXL,nullHd]at h3 ⊢
    rw[null_join,null_parts (h3.trans hn) (by omega) (by omega),nullG]
    simp[nullHd,hn]
theorem null_expL (caps top:Int):∀ l:List Re,(∀ k∈l,wholeG caps top k=true)→lpL l=true→nullAll (expXL l)=nullAll l∧nullAny (expXL l)=nullAny l∧nullHd (expXL l)=nullHd l
 | [],_,_=>⟨rfl,rfl,rfl⟩
 | k::ks,h,hl=>by
   rw[lpL,Bool.and_eq_true]at hl
   have h0:=null_exp caps top k (h k (by simp)) hl.1
   obtain⟨h1,h2,h3⟩:=null_expL caps top ks (fun q hq=>h q (by simp[hq])) hl.2
   rw[expXL]
   exact⟨by rw[nullAll,nullAll,h0,h1],by rw[nullAny,nullAny,h0,h2],by rw[nullHd,nullHd,h0]⟩
end
theorem whole_repX {caps top:Int} {x:Re} (hx:wholeG caps top x=true) {most md:Int} (hm:most = -1∨most=1) (hd:0≤md∧md≤2):wholeG caps top (repX x most md)=true:=by
 rw[repX,wholeG,wholeL,wholeL,hx]
 rcases hm with rfl|rfl<;>simp[formedG,kidsG,repG,hd]
theorem whole_join {caps top:Int} {l:List Re} (hl:∀ k∈l,wholeG caps top k=true) (hn:l≠[]):wholeG caps top (joinX l)=true:=by
 unfold joinX
 split
 ·exact hl _ (by simp)
 ·rename_i h1
  have h2:2≤l.length:=by
   match l,hn,h1 with
   | [a],_,h1=>exact absurd rfl (h1 a)
   | a::b::l,_,_=>simp
  rw[wholeG,(wholeL_iff caps top l).2 hl]
  simp[formedG,kidsG,h2]
theorem whole_restX {caps top:Int} {x:Re} (hx:wholeG caps top x=true) {md:Int} (hd:0≤md∧md≤2):∀ c,wholeG caps top (restX x md c)=true
 | 0=>whole_repX hx (.inr rfl) hd
 | c+1=>whole_repX (whole_join (fun k hk=>by
    rcases List.mem_cons.1 hk with rfl|hk
    ·exact hx
    ·rw[List.mem_singleton.1 hk];exact whole_restX hx hd c) (by simp)) (.inr rfl) hd
theorem parts_all {P:Re→Prop} {x:Re} {mn mx md:Int} (hx:P x) (hr:P (repX x (-1) md)) (hs:∀ c,P (restX x md c)):∀ k∈partsX x mn mx md,P k:=by
 intro k hk
 unfold partsX at hk
 rcases List.mem_append.1 hk with hk|hk
 ·rw[(List.mem_replicate.1 hk).2];exact hx
 ·split at hk
  ·rw[List.mem_singleton.1 hk];exact hr
  ·split at hk
   ·rw[List.mem_singleton.1 hk];exact hs _
   ·simp at hk
theorem parts_ne (x:Re) {mn mx:Int} (md:Int) (h0:0≤mn) (hm:mx = -1∨(1≤mx∧mn≤mx)):partsX x mn mx md≠[]:=by
 intro h
 have:=congrArg List.length h
 unfold partsX at this
 simp only[List.length_append,List.length_replicate,List.length_nil]at this
 split at this
 ·simp at this
 ·split at this
  ·simp at this
  ·simp at this;omega
mutual
theorem whole_exp (caps top:Int):∀ r:Re,wholeG caps top r=true→wholeG caps top (expX r)=true
 | .mk op set kids mn mx md n neg,h=>by
   obtain⟨hk,hkd,hrp,_⟩:=whole_facts h
   obtain⟨h1,h2⟩:=whole_expL caps top kids hk
   rw[expX]
   split
   ·rw[wholeG,Bool.and_eq_true]at h
    rw[wholeG,(wholeL_iff caps top _).2 h1,Bool.and_true]
    have:=h.1
    simp only[formedG,h2]at this ⊢
    exact this
   ·rename_i ho
    have ho4:op=4:=by
     by_cases e:op=4
     ·exact e
     ·exact absurd (.inl e) ho
    subst ho4
    obtain⟨k,rfl⟩:∃ k,kids=[k]:=List.length_eq_one_iff.1 (by simpa [kidsG] using hkd)
    have hr:=hrp rfl
    simp only[repG,Bool.and_eq_true,Bool.or_eq_true,decide_eq_true_eq,beq_iff_eq]at hr
    simp only[expXL]at h1 ⊢
    have hx:=h1 (expX k) (by simp)
    exact whole_join (parts_all hx (whole_repX hx (.inl rfl) (by omega)) (whole_restX hx (by omega))) (parts_ne _ _ (by omega) (by omega))
theorem whole_expL (caps top:Int):∀ l:List Re,(∀ k∈l,wholeG caps top k=true)→(∀ k∈expXL l,wholeG caps top k=true)∧(expXL l).length=l.length
 | [],_=>⟨fun k hk=>by simp[expXL]at hk,rfl⟩
 | k::ks,h=>by
   have h0:=whole_exp caps top k (h k (by simp))
   obtain⟨h1,h2⟩:=whole_expL caps top ks (fun q hq=>h q (by simp[hq]))
   rw[expXL]
   refine⟨fun q hq=>?_,by simp[h2]⟩
   rcases List.mem_cons.1 hq with rfl|hq
   ·exact h0
   ·exact h1 q hq
end
theorem comp_join {ins:List Int} {l:List Re} (hl:∀ k∈l,compG ins k=true):compG ins (joinX l)=true:=by
 unfold joinX
 split
 ·exact hl _ (by simp)
 ·rw[compG,(compL_iff ins l).2 hl];simp
theorem comp_repX {ins:List Int} {x:Re} (hx:compG ins x=true) (hn:nullG x=false) {most md:Int} (hd:md≠2):compG ins (repX x most md)=true:=by
 rw[repX,compG];simp[nullHd,hn,hd,compL,hx]
theorem comp_restX {ins:List Int} {x:Re} (hx:compG ins x=true) (hn:nullG x=false) {md:Int} (hd:md≠2):∀ c,compG ins (restX x md c)=true
 | 0=>comp_repX hx hn hd
 | c+1=>comp_repX (comp_join (fun k hk=>by
    rcases List.mem_cons.1 hk with rfl|hk
    ·exact hx
    ·rw[List.mem_singleton.1 hk];exact comp_restX hx hn hd c)) (by rw[null_join,nullAll,hn];rfl) hd
mutual
theorem comp_exp (caps top:Int):∀(r:Re) (ins:List Int),wholeG caps top r=true→compG ins r=true→compG ins (expX r)=true
 | .mk op set kids mn mx md n neg,ins,h,hc=>by
   obtain⟨hk,hkd,hrp,_⟩:=whole_facts h
   have hL:=fun ins=>comp_expL caps top kids ins hk
   have hlp:=lpG_of _ ins hc
   rw[lpG,Bool.and_eq_true]at hlp
   have hnull:=(null_expL caps top kids hk hlp.2).2.2
   rw[compG]at hc
   split at hc
   ·cases hc
   ·rename_i h1
    rw[expX]
    split
    ·rw[compG,hnull,if_neg h1]
     split at hc
     ·rename_i h5
      rw[if_pos h5]
      split at hc
      ·cases hc
      ·rename_i h6
       rw[if_neg h6];exact hL _ hc
     ·rename_i h5
      rw[if_neg h5]
      split at hc
      ·cases hc
      ·rename_i h6
       rw[if_neg h6];exact hL _ hc
    ·rename_i ho
     have ho4:op=4:=by
      by_cases e:op=4
      ·exact e
      ·exact absurd (.inl e) ho
     subst ho4
     obtain⟨k,rfl⟩:∃ k,kids=[k]:=List.length_eq_one_iff.1 (by simpa [kidsG] using hkd)
     simp only[show ¬(4:Int)=5 by decide,show ¬((5:Int) < 4∧(4:Int)≠11) by decide,if_false]at hc
     have hx:=(compL_iff ins _).1 (hL ins hc)
     simp only[expXL,nullHd]at hx hnull h1 ⊢
     have hxx:=hx (expX k) (by simp)
     have hn:nullG (expX k)=false:=by
      cases e:nullG (expX k) with
      | false=>rfl
      | true=>exact absurd ⟨trivial,.inr (hnull.symm.trans e)⟩ h1
     have hd:md≠2:=fun e=>h1 ⟨trivial,.inl e⟩
     exact comp_join (parts_all hxx (comp_repX hxx hn hd) (comp_restX hxx hn hd))
theorem comp_expL (caps top:Int):∀(l:List Re) (ins:List Int),(∀ k∈l,wholeG caps top k=true)→compL ins l=true→compL ins (expXL l)=true
 | [],_,_,_=>rfl
 | k::ks,ins,h,hc=>by
   rw[compL,Bool.and_eq_true]at hc
   rw[expXL,compL,comp_exp caps top k ins (h k (by simp)) hc.1,comp_expL caps top ks ins (fun q hq=>h q (by simp[hq])) hc.2];rfl
end
mutual
theorem len_pos (caps top:Int):∀ r:Re,GoodC caps top r→nullG r=false→1≤lenG r
 | .mk op set kids mn mx md n neg,h,hn=>by
   obtain⟨h1,h2⟩:=len_posL caps top kids h.kids
   obtain⟨hk,hkd,hrp,_⟩:=whole_facts h.whole
   have hop:=h.op
   rw[nullG]at hn
   rcases hop with rfl|rfl|rfl|rfl|rfl|rfl|rfl
   ·simp at hn
   ·simp[lenG]
   ·simp at hn
    simp[lenG];exact h1 hn
   ·have:2≤kids.length:=by simpa [kidsG] using hkd
    simp[lenG];omega
   ·simp at hn
    have hr:=hrp rfl
    simp only[repG,Bool.and_eq_true,Bool.or_eq_true,decide_eq_true_eq,beq_iff_eq]at hr
    obtain⟨k,rfl⟩:∃ k,kids=[k]:=List.length_eq_one_iff.1 (by simpa [kidsG] using hkd)
    have:=h2 hn.2
    simp only[lenG,show ¬((4:Int)=1∨(4:Int)=11) by decide,show ¬(4:Int)=3 by decide,show ¬(4:Int)=5 by decide,if_false,if_true]
    split
    ·omega
    ·have:=Nat.mul_le_mul (show 1≤mx.toNat by omega) (h2 hn.2 (by simp))
     omega
   ·simp[lenG]
   ·simp at hn
theorem len_posL (caps top:Int):∀ l:List Re,(∀ k∈l,GoodC caps top k)→(nullAll l=false→1≤lenL l)∧(nullHd l=false→l≠[]→1≤lenL l)
 | [],_=>⟨fun h=>by simp[nullAll]at h,fun _ h=>absurd rfl h⟩
 | k::ks,h=>by
   have h0:=len_pos caps top k (h k (by simp))
   obtain⟨h1,h2⟩:=len_posL caps top ks (fun q hq=>h q (by simp[hq]))
   refine⟨fun hn=>?_,fun hn _=>?_⟩
   ·rw[nullAll,Bool.and_eq_false_iff]at hn
    rw[lenL]
    rcases hn with hn|hn
    ·have:=h0 hn;omega
    ·have:=h1 hn;omega
   ·rw[nullHd]at hn
    have:=h0 hn
    rw[lenL];omega
end
theorem wtL_app:∀(a b:List Re),Re.wtL (a++b)=Re.wtL a+Re.wtL b
 | [],b=>by simp[Re.wtL]
 | k::ks,b=>by simp[Re.wtL,wtL_app ks b];omega
theorem wt_join (l:List Re):(joinX l).wt≤1+Re.wtL l:=by
 unfold joinX
 split
 ·simp[Re.wtL]
 ·simp[Re.wt]
theorem wt_repX (x:Re) (most md:Int):(repX x most md).wt=1+x.wt:=by simp[repX,Re.wt,Re.wtL]
theorem wt_restX (x:Re) (md:Int):∀ c,(restX x md c).wt≤(c+1) * x.wt+2 * c+1
 | 0=>by rw[restX,wt_repX];omega
 | c+1=>by
   have h1:=wt_restX x md c
   have h2:=wt_join [x,restX x md c]
   simp only[Re.wtL]at h2
   rw[restX,wt_repX,Nat.succ_mul]
   omega
theorem wtL_repl (x:Re):∀ m,Re.wtL (List.replicate m x)=m * x.wt
 | 0=>by simp[Re.wtL]
 | m+1=>by rw[List.replicate_succ,Re.wtL,wtL_repl x m,Nat.succ_mul];omega
mutual
theorem wt_exp (caps top:Int):∀ r:Re,GoodC caps top r→lpG r=true→(expX r).wt≤r.wt * max 1 (lenG r)
 | .mk op set kids mn mx md n neg,h,hl=>by
   obtain⟨hk,hkd,hrp,_⟩:=whole_facts h.whole
   have hop:=h.op
   rw[lpG,Bool.and_eq_true]at hl
   have hL:=wt_expL caps top kids h.kids hl.2
   rw[expX]
   split
   ·rename_i ho
    have hle:lenL kids≤lenG (.mk op set kids mn mx md n neg):=by
     rcases hop with rfl|rfl|rfl|rfl|rfl|rfl|rfl
     ·simp[lenG]
     ·have:kids=[]:=List.length_eq_zero_iff.1 (by simpa [kidsG] using hkd)
      subst this;simp[lenL]
     ·simp[lenG]
     ·simp[lenG]
     ·have hr:=hrp rfl
      simp only[repG,Bool.and_eq_true,Bool.or_eq_true,decide_eq_true_eq,beq_iff_eq]at hr
      simp only[lenG,show ¬((4:Int)=1∨(4:Int)=11) by decide,show ¬(4:Int)=3 by decide,show ¬(4:Int)=5 by decide,if_false,if_true]
      split
      ·have:=Nat.mul_le_mul_right (lenL kids) (show 1≤mn.toNat+1 by omega)
       omega
      ·have:=Nat.mul_le_mul_right (lenL kids) (show 1≤mx.toNat by omega)
       omega
     ·simp[lenG]
     ·have:kids=[]:=List.length_eq_zero_iff.1 (by simpa [kidsG] using hkd)
      subst this;simp[lenL]
    have h1:=Nat.mul_le_mul_left (Re.wtL kids) (show max 1 (lenL kids)≤max 1 (lenG (.mk op set kids mn mx md n neg)) by omega)
    have h2:1≤max 1 (lenG (.mk op set kids mn mx md n neg)):=by omega
    generalize max 1 (lenG (.mk op set kids mn mx md n neg))=M at *
    have h3:=Nat.mul_le_mul_left (1+set.length) h2
    rw[Re.wt,Re.wt,Nat.add_mul]
    omega
   ·rename_i ho
    have ho4:op=4:=by
     by_cases e:op=4
     ·exact e
     ·exact absurd (.inl e) ho
    subst ho4
    obtain⟨k,rfl⟩:∃ k,kids=[k]:=List.length_eq_one_iff.1 (by simpa [kidsG] using hkd)
    have hr:=hrp rfl
    simp only[repG,Bool.and_eq_true,Bool.or_eq_true,decide_eq_true_eq,beq_iff_eq]at hr
    have hn:nullG k=false:=by simpa [nullHd] using hl.1
    have hlen:=len_pos caps top k (h.kids k (by simp)) hn
    have hw1:=k.wt_pos
    simp only[expXL,Re.wtL,lenL,Nat.add_zero]at hL ⊢
    have hmk:max 1 (lenG k)=lenG k:=by omega
    rw[hmk]at hL
    have hj:=wt_join (partsX (expX k) mn mx md)
    have hp:Re.wtL (partsX (expX k) mn mx md)=mn.toNat * (expX k).wt+Re.wtL (if mx = -1 then [repX (expX k) (-1) md] else if mn < mx then [restX (expX k) md (mx - mn - 1).toNat] else []):=by
     unfold partsX;rw[wtL_app,wtL_repl]
    have hG:(1+k.wt) * lenG (.mk 4 set [k] mn mx md n neg)≤(Re.mk 4 set [k] mn mx md n neg).wt * max 1 (lenG (.mk 4 set [k] mn mx md n neg)):=by
     rw[Re.wt,Re.wtL,Re.wtL]
     exact Nat.mul_le_mul (by omega) (by omega)
    refine Nat.le_trans ?_ hG
    refine Nat.le_trans hj ?_
    rw[hp]
    simp only[lenG,show ¬((4:Int)=1∨(4:Int)=11) by decide,show ¬(4:Int)=3 by decide,show ¬(4:Int)=5 by decide,if_false,if_true,lenL,Nat.add_zero]
    generalize lenG k=L at *
    generalize k.wt=w at *
    have hmul:∀ a:Nat,a * (expX k).wt≤w * (a * L):=fun a=>by
     have:=Nat.mul_le_mul_left a hL
     rwa [Nat.mul_left_comm]at this
    by_cases hm:mx = -1
    ·rw[if_pos hm,if_pos hm]
     simp only[Re.wtL,wt_repX,Nat.add_zero]
     have h1:=hmul (mn.toNat+1)
     rw[Nat.succ_mul]at h1
     rw[Nat.add_mul 1 w,Nat.one_mul,Nat.mul_add w]
     omega
    ·rw[if_neg hm,if_neg hm]
     by_cases hlt:mn < mx
     ·rw[if_pos hlt]
      obtain⟨c,hc⟩:∃ c:Nat,(mx - mn - 1).toNat=c∧mx.toNat=mn.toNat+(c+1):=⟨_,rfl,by omega⟩
      rw[hc.1,hc.2,show mn.toNat+(c+1) - mn.toNat=c+1 by omega]
      simp only[Re.wtL,Nat.add_zero]
      have h0:=wt_restX (expX k) md c
      have h1:=hmul (mn.toNat+(c+1))
      rw[Nat.add_mul mn.toNat (c+1) (expX k).wt]at h1
      have h2:=Nat.mul_le_mul_right (c+1) hw1
      rw[Nat.add_mul 1 w,Nat.one_mul,Nat.mul_add w]
      omega
     ·rw[if_neg hlt]
      have e:mx.toNat=mn.toNat:=by omega
      simp only[Re.wtL,Nat.add_zero,e,Nat.sub_self]
      have h1:=hmul mn.toNat
      have h2:=Nat.mul_le_mul (show 1≤mn.toNat by omega) hlen
      rw[Nat.add_mul 1 w,Nat.one_mul]
      omega
theorem wt_expL (caps top:Int):∀ l:List Re,(∀ k∈l,GoodC caps top k)→lpL l=true→Re.wtL (expXL l)≤Re.wtL l * max 1 (lenL l)
 | [],_,_=>by simp[expXL,Re.wtL]
 | k::ks,h,hl=>by
   rw[lpL,Bool.and_eq_true]at hl
   have h1:=wt_exp caps top k (h k (by simp)) hl.1
   have h2:=wt_expL caps top ks (fun q hq=>h q (by simp[hq])) hl.2
   rw[expXL,Re.wtL,Re.wtL,lenL,Nat.add_mul]
   exact Nat.add_le_add (Nat.le_trans h1 (Nat.mul_le_mul_left _ (by omega))) (Nat.le_trans h2 (Nat.mul_le_mul_left _ (by omega)))
end
theorem len_kid {caps top:Int} {r k:Re} (h:GoodC caps top r) (hk:k∈r.kids):lenG k≤lenG r:=by
 obtain⟨op,set,kids,mn,mx,md,n,neg⟩:=r
 simp only[Re.kids]at hk
 obtain⟨_,hkd,hrp,_⟩:=whole_facts h.whole
 have hop:=h.op
 have hle:∀ l:List Re,k∈l→lenG k≤lenL l:=by
  intro l
  induction l with
  | nil=>intro h;simp at h
  | cons a l ih=>
    intro h
    rw[lenL]
    rcases List.mem_cons.1 h with rfl|h
    ·omega
    ·have:=ih h;omega
 have h1:=hle kids hk
 rcases hop with rfl|rfl|rfl|rfl|rfl|rfl|rfl
 ·simp[lenG];exact h1
 ·have:kids=[]:=List.length_eq_zero_iff.1 (by simpa [kidsG] using hkd)
  subst this;simp at hk
 ·simp[lenG];exact h1
 ·simp[lenG];omega
 ·have hr:=hrp rfl
  simp only[repG,Bool.and_eq_true,Bool.or_eq_true,decide_eq_true_eq,beq_iff_eq]at hr
  simp only[lenG,show ¬((4:Int)=1∨(4:Int)=11) by decide,show ¬(4:Int)=3 by decide,show ¬(4:Int)=5 by decide,if_false,if_true]
  split
  ·have:=Nat.mul_le_mul_right (lenL kids) (show 1≤mn.toNat+1 by omega)
   omega
  ·have:=Nat.mul_le_mul_right (lenL kids) (show 1≤mx.toNat by omega)
   omega
 ·simp[lenG];omega
 ·have:kids=[]:=List.length_eq_zero_iff.1 (by simpa [kidsG] using hkd)
  subst this;simp at hk
end Go.Ev
namespace Go.Ev
attribute [local go_sem] eq_self bindW_some bindW_map bindW_ite bindW_iteN W_seq W_region W_draw W_cond W_condK W_ret W_skip W_exit W_scope W_label W_block blockK_norm blockK_ret blockK_exit WO_nil WO_cons WO_guard WD_nil WD_cons WD_guard guardV guardW_boolT guardW_boolF guardW_tup fpL_some fpL_none footprint thenK_norm thenK_ret thenK_exit put_some put_none ev_tmp ev_con ev_func ofK_int ofK_bool ofK_str ofK_nil evOp evBuiltin evCall evLen evAppend getElem_16 getElem_4 List.length_cons List.length_nil List.cons_append List.nil_append List.append_nil if_false if_true Bool.false_eq_true Bool.true_eq_false Option.map_some Option.map_none List.map_cons List.map_nil evBinOp evUn asB_bool splitB_decide splitB_true splitB_false splitB_beq splitB_bne splitB_not endK_ret endK_norm List.getElem?_cons_zero List.getElem?_cons_succ evResults evResult packRes retK_norm retK_ret cellsAt mkVal evFieldAddr evField evIndexAddr evPart evStore evBuild evBuildSlice fillC fillE evSlice evMakeSlice evConvert getRow AV.cells List.head?_cons List.drop_zero List.drop_succ_cons List.take_zero List.take_succ_cons List.drop_nil List.take_nil List.all_cons List.all_nil AV.ok Bool.and_self Bool.and_true Bool.true_and and_self and_true true_and Nat.zero_add Nat.add_zero setCells splice pairsOk pairsX altW_none altW_some cfg_al WI_nil WI_cons FP.apart heapEq_refl sameAt_refl Bool.or_true Bool.true_or Bool.or_false srcElems elemsOf mutDst indDst roundK_norm roundK_exit roundK_ret List.length_map List.getElem?_map Int.toNat_natCast decide_true decide_false Bool.not_true Bool.not_false List.set set_0 set_1 set_2 set_3 set_4 look_hit look lookD_hit lookD_cons lookD_nil ins_hit ins upd_hit upd rem1_hit rem1 dropT dropSt_eq initT cfg_dd cfg_bd cfg_ra actL_nil actL_cons act1 updT_hit updT frzB retE_norm retE_ret bndO bnd evEq eqCells not_false_eq_true not_true_eq_false toList_some Array.size_empty List.length_append List.map_append endE_norm endE_ret head_take1 List.contains_nil List.contains_cons Bool.or_self dlt_t dlt_f dle_t dle_f dgt_t dgt_f dge_t dge_f beq_t beq_f bne_t bne_f lt_T le_T nle_T nle_F Go.IntWalk.i64_in Go.IntWalk.i64_quo Go.IntWalk.rem_in ty0 ty3 ty4
section
attribute [local go_sem] evBin tySzE List.head?_drop Nat.mul_one sameAt_zero sameAt_two sameAt_three sameAt_four sameAt_five room_ok ty23 ty24 ty26 ty36 ty138
open Go.Proofs Go.RowKit Go.IntWalk
set_option maxRecDepth 100000
set_option linter.unusedSimpArgs false
set_option linter.unusedVariables false
set_option maxHeartbeats 8000000
def own4 (H:List MB) (a b c d:MB) (L:List MB):List MB:=H++(a::b::c::d::L)
section
variable (H L:List MB) (a b c d e x:MB)
theorem own_start:H++[a]++[b]++[c]++[d]=own4 H a b c d []:=by simp[own4]
theorem own_app:own4 H a b c d L++[e]=own4 H a b c d (L++[e]):=by simp[own4]
theorem own_len:(own4 H a b c d L).length=H.length+1+1+1+1+L.length:=by simp[own4];omega
theorem own_geta:(own4 H a b c d L)[H.length]?=some a:=by
 unfold own4
 rw[List.getElem?_append_right (by omega),show H.length - H.length=0 by omega];rfl
theorem own_seta:(own4 H a b c d L).set (H.length) x=own4 H x b c d L:=by
 unfold own4
 rw[List.set_append_right _ _ (by omega),show H.length - H.length=0 by omega];rfl
theorem own_getb:(own4 H a b c d L)[H.length+1]?=some b:=by
 unfold own4
 rw[List.getElem?_append_right (by omega),show H.length+1 - H.length=1 by omega];rfl
theorem own_setb:(own4 H a b c d L).set (H.length+1) x=own4 H a x c d L:=by
 unfold own4
 rw[List.set_append_right _ _ (by omega),show H.length+1 - H.length=1 by omega];rfl
theorem own_getc:(own4 H a b c d L)[H.length+1+1]?=some c:=by
 unfold own4
 rw[List.getElem?_append_right (by omega),show H.length+1+1 - H.length=2 by omega];rfl
theorem own_setc:(own4 H a b c d L).set (H.length+1+1) x=own4 H a b x d L:=by
 unfold own4
 rw[List.set_append_right _ _ (by omega),show H.length+1+1 - H.length=2 by omega];rfl
theorem own_getd:(own4 H a b c d L)[H.length+1+1+1]?=some d:=by
 unfold own4
 rw[List.getElem?_append_right (by omega),show H.length+1+1+1 - H.length=3 by omega];rfl
theorem own_setd:(own4 H a b c d L).set (H.length+1+1+1) x=own4 H a b c x L:=by
 unfold own4
 rw[List.set_append_right _ _ (by omega),show H.length+1+1+1 - H.length=3 by omega];rfl
theorem own_getL {i:Nat} (h:L.length=i):(own4 H a b c d (L++[e]))[H.length+1+1+1+1+i]?=some e:=by
 unfold own4
 rw[List.getElem?_append_right (by omega),show H.length+1+1+1+1+i - H.length=i+4 by omega]
 simp[h]
theorem own_setL {i:Nat} (h:L.length=i):(own4 H a b c d (L++[e])).set (H.length+1+1+1+1+i) x=own4 H a b c d (L++[x]):=by
 unfold own4
 rw[List.set_append_right _ _ (by omega),show H.length+1+1+1+1+i - H.length=i+4 by omega]
 simp[h]
theorem own_old {j:Nat} (h:H[j]?=some x):(own4 H a b c d L)[j]?=some x:=by
 have:=(List.getElem?_eq_some_iff.1 h).1
 unfold own4
 rw[List.getElem?_append_left this,h]
end
theorem expXL_len:∀ l:List Re,(expXL l).length=l.length
 | []=>rfl
 | k::ks=>by simp[expXL,expXL_len ks]
theorem expXL_app:∀(a b:List Re),expXL (a++b)=expXL a++expXL b
 | [],b=>rfl
 | k::ks,b=>by simp[expXL,expXL_app ks b]
theorem expXL_take {l:List Re} {i:Nat} {k:Re} (h:l[i]?=some k):expXL (l.take (i+1))=expXL (l.take i)++[expX k]:=by
 rw[List.take_add_one,h,expXL_app];rfl
theorem fz_own {op:Int} {set:List (Int×Int)} {kids:List Re} {mn mx md n:Int} {neg:Bool} {H L:List MB} {b c d:MB} {z:Nat} :
  fz (.rf H.length 1 0 0) (own4 H (.row 8 [.agg (nodeL op set kids mn mx md n neg)] z) b c d L)=some (.pt (nodeL op set kids mn mx md n neg),own4 H (.row 8 [.agg (nodeL op set kids mn mx md n neg)] (max z 1)) b c d L):=by
 have hr:getRow (own4 H (.row 8 [.agg (nodeL op set kids mn mx md n neg)] z) b c d L) H.length=some (8,[.agg (nodeL op set kids mn mx md n neg)],z):=by
  unfold getRow;rw[own_geta]
 rw[fz_rf (tot:=1) (i:=0) (j:=0) (x:=.agg (nodeL op set kids mn mx md n neg)) hr rfl rfl (by simp[AV.cells,AV.plainL,AV.plain,plain_span,plain_kids])]
 unfold mark
 rw[hr]
 simp only[own_seta]
 rfl
theorem f75b (op:Int) (set:List (Int×Int)) (kids:List Re) (mn mx md n:Int) (neg:Bool) (H L:List MB) (b c d:MB) (z:Nat) :
  call Try.prog pol1 75 [.rf H.length 1 0 0] (own4 H (.row 8 [.agg (nodeL op set kids mn mx md n neg)] z) b c d L)=some (.bool (keptX mn mx),own4 H (.row 8 [.agg (nodeL op set kids mn mx md n neg)] (max z 1)) b c d L):=by
 rw[call_frz' (l:=[.pt (nodeL op set kids mn mx md n neg)]) (H1:=own4 H (.row 8 [.agg (nodeL op set kids mn mx md n neg)] (max z 1)) b c d L) rfl ?_ (by simp[AV.plainL,AV.plain,plain_span,plain_kids])]
 ·exact f75 op set kids mn mx md n neg _
 ·have hby:∀ i,pol1.byref 75 i=false:=fun i=>rfl
  simp only[frzArgs,hby,Bool.false_eq_true,if_false,fz_own]
theorem f76b (op:Int) (set:List (Int×Int)) (kids:List Re) (mn mx md n:Int) (neg:Bool) (x:Re) (hx:x.wt≤1000000) (hr:repG mn mx md=true) (H L:List MB) (b c d:MB) (z:Nat) :
  call Try.prog pol1 76 [.rf H.length 1 0 0,reAV x] (own4 H (.row 8 [.agg (nodeL op set kids mn mx md n neg)] z) b c d L)=some (reAV (joinX (partsX x mn mx md)),own4 H (.row 8 [.agg (nodeL op set kids mn mx md n neg)] (max z 1)) b c d L):=by
 rw[call_frz' (l:=[.pt (nodeL op set kids mn mx md n neg),reAV x]) (H1:=own4 H (.row 8 [.agg (nodeL op set kids mn mx md n neg)] (max z 1)) b c d L) rfl ?_ (by simp[AV.plainL,AV.plain,plain_span,plain_kids,plain_reC])]
 ·exact f76 op set kids mn mx md n neg x hx hr _
 ·have hby:∀ i,pol1.byref 76 i=false:=fun i=>rfl
  simp only[frzArgs,hby,Bool.false_eq_true,if_false,fz_own,fz_plain _ (plain_re x)]
theorem own_kept (H L:List MB) (a b c d:MB):keptOk H.length H (own4 H a b c d L)=true:=keptOk_self _ _ _
theorem own_take (H L:List MB) (a b c d:MB):(own4 H a b c d L).take H.length=H:=by unfold own4;simp
theorem ret73 {H L:List MB} {a b c:MB} (op:Int) (set:List (Int×Int)) (els:List Re) (mn mx md nn:Int) (neg:Bool) {n:Nat} (hn:els.length=n) :
  retPol pol1 73 H (.agg [I op,.sl false (set.map spanAV),.ms (H.length+1+1+1) 8 n 0 n,I mn,I mx,I md,I nn,.bool neg]) (own4 H a b c (.row 8 (els.map reAV) 0) L)=some (reAV (.mk op set els mn mx md nn neg),H):=by
 have hr:getRow (own4 H a b c (.row 8 (els.map reAV) 0) L) (H.length+1+1+1)=some (8,els.map reAV,0):=by unfold getRow;rw[own_getd]
 have hm:mark (own4 H a b c (.row 8 (els.map reAV) 0) L) (H.length+1+1+1) n=own4 H a b c (.row 8 (els.map reAV) (max 0 n)) L:=by
  unfold mark;rw[hr];simp only[own_setd]
 have hz:fz (.agg [I op,.sl false (set.map spanAV),.ms (H.length+1+1+1) 8 n 0 n,I mn,I mx,I md,I nn,.bool neg]) (own4 H a b c (.row 8 (els.map reAV) 0) L)=some (.agg (nodeL op set els mn mx md nn neg),own4 H a b c (.row 8 (els.map reAV) (max 0 n)) L):=by
  simp only[fz,fzA_agg,fzL,fzA_int,fzA_sl,fzL_plain _ _ _ (plain_span set)]
  rw[fzA_row (els:=els.map reAV) (k:=8) (z:=0) hr (by rw[List.length_map];exact hn) (plain_kids els),hm]
  rfl
 have hp:AV.plain (.agg (nodeL op set els mn mx md nn neg))=true:=by simp[AV.plain,AV.plainL,plain_span,plain_kids]
 unfold retPol
 rw[if_neg (by exact Bool.false_ne_true),if_neg (by exact Bool.false_ne_true)]
 simp only[hz,under_plain _ _ hp,own_kept,own_take,and_self,if_true]
 rw[show reAV (.mk op set els mn mx md nn neg)=.agg (nodeL op set els mn mx md nn neg) from congrArg AV.agg reC_mk]
theorem byrf {f:Nat} (hp:pol1.pure f=true) (hby:∀ i,pol1.byref f i=false) (re:Re) (z:Nat) (b1:MB) {r:AV} (h:∀ H,call Try.prog pol1 f [.pt (reC re)] H=some (r,H)) :
  call Try.prog pol1 f [.rf 0 1 0 0] [.row 8 [reAV re] z,b1]=some (r,[.row 8 [reAV re] (max z 1),b1]):=by
 have hz:fz (.rf 0 1 0 0) [.row 8 [reAV re] z,b1]=some (.pt (reC re),[.row 8 [reAV re] (max z 1),b1]):=by
  have hr:getRow [.row 8 [reAV re] z,b1] 0=some (8,[reAV re],z):=rfl
  rw[fz_rf (tot:=1) (i:=0) (j:=0) (x:=reAV re) hr rfl rfl (plain_reC re)]
  rfl
 rw[call_frz' (l:=[.pt (reC re)]) (H1:=[.row 8 [reAV re] (max z 1),b1]) hp ?_ (by simp[AV.plainL,AV.plain,plain_reC])]
 ·exact h _
 ·simp only[frzArgs,hby,Bool.false_eq_true,if_false,hz]
abbrev cloB (j:Nat):MB:=.row 1 [.clo 73 [.rf j 1 0 0]] 0
theorem f73 (caps top:Int) (j:Nat):∀(N:Nat) (r:Re),r.wt≤N→r.wt * max 1 (lenG r)≤1000000→GoodC caps top r→lpG r=true→∀(H:List MB),H[j]?=some (cloB j)→call Try.prog pol1 73 [reAV r,.rf j 1 0 0] H=some (reAV (expX r),H)
 | 0,r,h,_,_,_=>by have:=r.wt_pos;omega
 | N+1,.mk op set kids mn mx md n neg,h,hB,hg,hlp=>by
   intro H hj
   have hw:=hg.whole
   have hN:(Re.mk op set kids mn mx md n neg).wt≤1000000:=Nat.le_trans (by have:=Nat.mul_le_mul_left (Re.mk op set kids mn mx md n neg).wt (show 1≤max 1 (lenG (.mk op set kids mn mx md n neg)) by omega);omega) hB
   have hlpk:lpL kids=true:=by
    rw[lpG,Bool.and_eq_true]at hlp
    exact hlp.2
   have hBk:∀ k∈kids,k.wt * max 1 (lenG k)≤1000000:=fun k hk=>Nat.le_trans (Nat.mul_le_mul (by have:=Re.wtL_mem hk;simp only[Re.wt];omega) (by have:=len_kid hg (show k∈(Re.mk op set kids mn mx md n neg).kids from hk);omega)) hB
   have hkl:=Re.wtL_len kids
   have hwt:1+set.length+Re.wtL kids=(Re.mk op set kids mn mx md n neg).wt:=by simp[Re.wt]
   obtain⟨hwk,hkd,hrp,_,ho1,ho2⟩:=whole_facts hw
   have ih:=fun k (hk:k∈kids)=>f73 caps top j N k (by have:=Re.wtL_mem hk;omega) (hBk k hk) (hg.kids k hk) (lpL_mem hlpk k hk)
   rw[show reAV (.mk op set kids mn mx md n neg)=.agg (nodeL op set kids mn mx md n neg) from congrArg AV.agg reC_mk]
   have fr:frzArgs pol1 73 0 [.agg (nodeL op set kids mn mx md n neg),.rf j 1 0 0] H=some ([.agg (nodeL op set kids mn mx md n neg),.rf j 1 0 0],H):=frzArgs_mix _ _ _ (by simp[mixOk,show pol1.byref 73 1=true from rfl,AV.plain,AV.plainL,plain_span,plain_kids])
   refine call_run2 (pol:=pol1) Try.func73 rfl rfl rfl rfl fr ?_
   have hjl:=(List.getElem?_eq_some_iff.1 hj).1
   have hleaf:=fun H hH=>f74leaf op set mn mx md n neg (by omega) H hH
   have hleaf2:=fun a b=>hleaf (H++[a]++[b]) (by simp)
   simp +contextual (disch:=omega) only[Try.f73,dd73,go_sem,↓reduceIte,List.reduceReplicate,Nat.reduceAdd,Nat.reduceSub,reduceCtorEq,Nat.reduceLeDiff,Nat.reduceMul,Nat.reduceLT,Nat.reduceEqDiff,Int.reduceBNe,Int.reduceBEq,Int.reduceEq,Int.reduceLT,Int.reduceLE,Int.reduceGT,Int.reduceGE,mu73,Nat.reduceBEq,↓wrap_up,↓wrap_down,↓wrap_pred,↓wrap_sub_nat,Int.reduceToNat,hleaf2,get_last,set_last,get_l2a,get_l2b,set_l2a,set_l2b,get_l3a,get_l3b,get_l3c,set_l3a,set_l3b,set_l3c,own_start,own_app,own_len,own_geta,own_seta,own_getb,own_setb,own_getc,own_setc,own_getd,own_setd]
   refine W_count (M:=⟨some [26,25,24,4,3,2,1],none,[]⟩) rfl kids.length (fun i=>⟨51,[(26,I i),(25,I kids.length),(24,.sl false (kids.map reAV)),(4,.rf (H.length+1+1) 1 0 0),(3,.rf (H.length+1) 1 0 0),(2,.rf H.length 1 0 0),(1,.rf j 1 0 0)],
    own4 H (.row 8 [.agg (nodeL op set kids mn mx md n neg)] 0) (.row 8 [.agg [I 0,.sl true [],.sl true [],I 0,I 0,I 0,I 0,.bool false]] 0) (.row 8 [.agg [I op,.sl false (set.map spanAV),.ms (H.length+1+1+1) 8 i 0 i,I mn,I mx,I md,I n,.bool neg]] 0) (.row 8 ((expXL (kids.take i)).map reAV) 0) ((kids.take i).map fun k=>.row 8 [.agg (reC k)] 0)⟩) (fun _=>True) ?_ ?_ trivial _ ?_
   ·intro i hi _
    obtain⟨k,hk⟩:∃ k,kids[i]?=some k:=⟨_,List.getElem?_eq_getElem hi⟩
    have ihk:=ih k (List.mem_of_getElem? hk)
    have ihk2:=fun a b c d L=>ihk (own4 H a b c d L) (own_old _ _ _ _ _ _ _ hj)
    have hj5:=fun a b c d L=>own_old H L a b c d _ hj
    have hlt:(expXL (kids.take i)).length=i:=by rw[expXL_len];simp;omega
    have hnx:expXL (kids.take (i+1))=expXL (kids.take i)++[expX k]:=expXL_take hk
    have hL:((kids.take i).map fun k=>(MB.row 8 [.agg (reC k)] 0)).length=i:=by simp;omega
    have hLn:((kids.take (i+1)).map fun k=>(MB.row 8 [.agg (reC k)] 0))=((kids.take i).map fun k=>(MB.row 8 [.agg (reC k)] 0))++[.row 8 [.agg (reC k)] 0]:=by rw[List.take_add_one,hk];simp
    rw[hnx,hLn]
    generalize ((kids.take i).map fun k=>(MB.row 8 [.agg (reC k)] 0))=L at *
    generalize expXL (kids.take i)=ks at *
    have htk:=take_map_len (f:=reAV) hlt
    have hgL:=fun a b c d e=>own_getL H L a b c d e hL
    have hsL:=fun a b c d e x=>own_setL H L a b c d e x hL
    simp +contextual (disch:=omega) only[Try.f73,dd73,go_sem,↓reduceIte,List.reduceReplicate,Nat.reduceAdd,Nat.reduceSub,reduceCtorEq,Nat.reduceLeDiff,Nat.reduceMul,Nat.reduceLT,Nat.reduceEqDiff,Int.reduceBNe,Int.reduceBEq,Int.reduceEq,Int.reduceLT,Int.reduceLE,Int.reduceGT,Int.reduceGE,mu73,Nat.reduceBEq,↓wrap_up,↓wrap_down,↓wrap_pred,↓wrap_sub_nat,Int.reduceToNat,ihk2,hj5,hk,hlt,htk,hL,hgL,hsL,reC_len,reC_ok,reC_take,own_app,own_len,own_geta,own_seta,own_getb,own_setb,own_getc,own_setc,own_getd,own_setd]
    repeat' (first|intro _|apply And.intro|(unfold dOk;kernel_rfl)|exact St.beq_refl _|(show altO _ _ _ _=true;kernel_rfl)|(show (_ || _)=true;kernel_rfl)|(show (_ && _)=true;kernel_rfl))
    all_goals rfl
   ·intro _
    rw[List.take_length]
    have h75:=fun L b c d z=>f75b op set kids mn mx md n neg H L b c d z
    have hlt:=expXL_len kids
    rw[expX]
    generalize (kids.map fun k=>(MB.row 8 [.agg (reC k)] 0))=L at *
    by_cases h4:op=4
    ·subst h4
     obtain⟨k,hk1⟩:∃ k,kids=[k]:=List.length_eq_one_iff.1 (by simpa [kidsG] using hkd)
     have h76:=fun L b c d z=>f76b 4 set kids mn mx md n neg (expX k) (Nat.le_trans (wt_exp caps top k (hg.kids k (by simp[hk1])) (lpL_mem hlpk k (by simp[hk1]))) (hBk k (by simp[hk1]))) (hrp rfl) H L b c d z
     have hks:expXL kids=[expX k]:=by rw[hk1];rfl
     have hkl1:kids.length=1:=by rw[hk1];rfl
     rw[hks]at hlt ⊢
     cases hkp:keptX mn mx with
     | true=>
       rw[hkp]at h75
       rw[if_pos (.inr rfl)]
       simp +contextual (disch:=omega) only[Try.f73,dd73,go_sem,↓reduceIte,List.reduceReplicate,Nat.reduceAdd,Nat.reduceSub,reduceCtorEq,Nat.reduceLeDiff,Nat.reduceMul,Nat.reduceLT,Nat.reduceEqDiff,Int.reduceBNe,Int.reduceBEq,Int.reduceEq,Int.reduceLT,Int.reduceLE,Int.reduceGT,Int.reduceGE,mu73,Nat.reduceBEq,↓wrap_up,↓wrap_down,↓wrap_pred,↓wrap_sub_nat,Int.reduceToNat,h75,hlt,reC_len,reC_ok,reC_take,own_app,own_len,own_geta,own_seta,own_getb,own_setb,own_getc,own_setc,own_getd,own_setd]
       exact ret73 4 set [expX k] mn mx md n neg hlt
     | false=>
       rw[hkp]at h75
       rw[if_neg (by simp)]
       simp +contextual (disch:=omega) only[Try.f73,dd73,go_sem,↓reduceIte,List.reduceReplicate,Nat.reduceAdd,Nat.reduceSub,reduceCtorEq,Nat.reduceLeDiff,Nat.reduceMul,Nat.reduceLT,Nat.reduceEqDiff,Int.reduceBNe,Int.reduceBEq,Int.reduceEq,Int.reduceLT,Int.reduceLE,Int.reduceGT,Int.reduceGE,mu73,Nat.reduceBEq,↓wrap_up,↓wrap_down,↓wrap_pred,↓wrap_sub_nat,Int.reduceToNat,h75,h76,hkl1,reC_len,reC_ok,reC_take,own_app,own_len,own_geta,own_seta,own_getb,own_setb,own_getc,own_setc,own_getd,own_setd]
       exact retPol_keep rfl rfl (plain_re _) (own_kept _ _ _ _ _ _) (own_take _ _ _ _ _ _)
    ·rw[if_pos (.inl h4)]
     generalize expXL kids=ks at *
     simp +contextual (disch:=omega) only[Try.f73,dd73,go_sem,↓reduceIte,List.reduceReplicate,Nat.reduceAdd,Nat.reduceSub,reduceCtorEq,Nat.reduceLeDiff,Nat.reduceMul,Nat.reduceLT,Nat.reduceEqDiff,Int.reduceBNe,Int.reduceBEq,Int.reduceEq,Int.reduceLT,Int.reduceLE,Int.reduceGT,Int.reduceGE,mu73,Nat.reduceBEq,↓wrap_up,↓wrap_down,↓wrap_pred,↓wrap_sub_nat,Int.reduceToNat,h4,hlt,reC_len,reC_ok,reC_take,own_app,own_len,own_geta,own_seta,own_getb,own_setb,own_getc,own_setc,own_getd,own_setd]
     exact ret73 op set ks mn mx md n neg hlt
   ·rfl
theorem f32 (caps top:Int) (re:Re) (hB:re.wt * max 1 (lenG re)≤1000000) (hr:RGood caps top re) (hl:lpG re=true) :
  ∃(re':Re) (e:Int),((e=4∧re' = .mk 0 [] [] 0 0 0 0 false)∨(e=0∧re' = expX re))∧∀ H,call Try.prog pol1 32 [reAV re] H=some (.tup [reAV re',I e],H):=by
 have hN:re.wt≤1000000:=Nat.le_trans (by have:=Nat.mul_le_mul_left re.wt (show 1≤max 1 (lenG re) by omega);omega) hB
 obtain⟨v,hv,h72⟩:=f72 caps top re.wt re (Nat.le_refl _) hN hr.good.whole
 have h71:=f71 caps top re.wt re (Nat.le_refl _) hN hr hl
 have h73:∀ b0 b1,call Try.prog pol1 73 [reAV re,.rf 2 1 0 0] [b0,b1,cloB 2]=some (reAV (expX re),[b0,b1,cloB 2]):=fun b0 b1=>f73 caps top 2 re.wt re (Nat.le_refl _) hB hr.good hl [b0,b1,cloB 2] rfl
 have h71b:∀ b1,call Try.prog pol1 71 [.rf 0 1 0 0] [.row 8 [reAV re] 0,b1]=some (.bool true,[.row 8 [reAV re] 1,b1]):=fun b1=>byrf rfl (fun i=>rfl) re 0 b1 h71
 have h72b:∀ b1,call Try.prog pol1 72 [.rf 0 1 0 0] [.row 8 [reAV re] 1,b1]=some (I v,[.row 8 [reAV re] 1,b1]):=fun b1=>byrf rfl (fun i=>rfl) re 1 b1 h72
 by_cases hv2:4096 < v
 ·refine⟨.mk 0 [] [] 0 0 0 0 false,4,.inl ⟨rfl,rfl⟩,fun H=>?_⟩
  refine call_run Try.func32 rfl rfl rfl rfl rfl rfl (fun _=>rfl) (by simp[AV.plainL,AV.plain,plain_reC]) (by simp[AV.plainL,AV.plain,plain_reC]) ?_ H
  simp +contextual (disch:=omega) only[Try.f32,dd32,go_sem,↓reduceIte,List.reduceReplicate,Nat.reduceAdd,Nat.reduceSub,reduceCtorEq,Nat.reduceLeDiff,Nat.reduceMul,Nat.reduceLT,Nat.reduceEqDiff,Int.reduceBNe,Int.reduceBEq,Int.reduceEq,Int.reduceLT,Int.reduceLE,Int.reduceGT,Int.reduceGE,mu32,Nat.reduceBEq,↓wrap_up,↓wrap_down,↓wrap_pred,↓wrap_sub_nat,Int.reduceToNat,h71b,h72b,reC_len,reC_ok,reC_take]
  exact⟨_,rfl⟩
 ·refine⟨expX re,0,.inr ⟨rfl,rfl⟩,fun H=>?_⟩
  refine call_run Try.func32 rfl rfl rfl rfl rfl rfl (fun _=>rfl) (by simp[AV.plainL,AV.plain,plain_reC]) (by simp[AV.plainL,AV.plain,plain_reC]) ?_ H
  simp +contextual (disch:=omega) only[Try.f32,dd32,go_sem,↓reduceIte,List.reduceReplicate,Nat.reduceAdd,Nat.reduceSub,reduceCtorEq,Nat.reduceLeDiff,Nat.reduceMul,Nat.reduceLT,Nat.reduceEqDiff,Int.reduceBNe,Int.reduceBEq,Int.reduceEq,Int.reduceLT,Int.reduceLE,Int.reduceGT,Int.reduceGE,mu32,Nat.reduceBEq,↓wrap_up,↓wrap_down,↓wrap_pred,↓wrap_sub_nat,Int.reduceToNat,h71b,h72b,h73,reC_len,reC_ok,reC_take]
  have hp:AV.plain (.tup [reAV (expX re),I 0])=true:=by simp[AV.plain,AV.plainL,plain_reC]
  exact⟨_,fz_plain _ hp⟩
end
section
attribute [local go_sem] tySzE List.head?_drop Nat.mul_one sameAt_zero sameAt_two sameAt_three sameAt_four sameAt_five room_ok ty5 ty36 ty71 ty76 ty145 ty147
open Go.Proofs Go.RowKit Go.IntWalk
set_option maxRecDepth 100000
set_option linter.unusedSimpArgs false
set_option linter.unusedVariables false
set_option maxHeartbeats 8000000
end
section
attribute [local go_sem] evBin tySzE List.head?_drop Nat.mul_one sameAt_zero sameAt_two sameAt_three sameAt_four sameAt_five room_ok ty22 ty23 ty86 ty110 ty174 ty192 ty195
open Go.Proofs Go.RowKit Go.IntWalk
set_option maxRecDepth 100000
set_option linter.unusedSimpArgs false
set_option linter.unusedVariables false
set_option maxHeartbeats 8000000
section
variable {α:Type} (A K:List α) (x y z v:α)
theorem pre_get2:(A++x::y::z::K)[A.length+2]?=some z:=by
 rw[List.getElem?_append_right (by omega)];simp
theorem pre_set2:(A++x::y::z::K).set (A.length+2) v=A++x::y::v::K:=by
 rw[List.set_append_right _ _ (by omega)];simp
end
abbrev sB (m:Nat) (t:List Int) (fuel steps:Int) (empty:Bool) (e:Nat):MB:=.row 7 [.agg [.sl false (t.map I),I (-1),I fuel,I steps,.bool empty,.ms (m+1) 1 e 0 e,.ms (m+2) 1 e 0 e]] 0
abbrev srH (A:List MB) (t:List Int) (fuel:Int) (s:SS) (e:Nat) (K:List MB):List MB:=
 A++sB A.length t fuel s.steps s.empty e::.row 1 (s.ends.map I) 0::.row 1 (s.caps.map capA) 0::K
theorem plain_caps (l:List Caps):AV.plainL (l.map capA)=true:=by
 induction l with
 | nil=>rfl
 | cons a l ih=>simp[AV.plainL,AV.plain,plain_span,ih]
theorem keptOk_pre3 (n:Nat) (x y z x' y' z':MB) (K L:List MB) (h1:MB.under n x' = true) (h2:MB.under n y' = true) (h3:MB.under n z' = true):∀ A:List MB,keptOk n (A++x::y::z::K) (A++x'::y'::z'::(K++L))=true
 | []=>by
   simp only[List.nil_append,keptOk,h1,h2,h3,Bool.or_true,Bool.true_and]
   exact keptOk_self n L K
 | a::A=>by simp[keptOk,MB.beq_refl,keptOk_pre3 n x y z x' y' z' K L h1 h2 h3 A]
theorem take_pre3 {α:Type} (x y z x' y' z':α) (K L:List α):∀ A:List α,(A++x'::y'::z'::(K++L)).take (A++x::y::z::K).length=A++x'::y'::z'::K
 | []=>by simp
 | a::A=>by
   simp only[List.cons_append,List.length_cons,List.take_succ_cons,take_pre3 x y z x' y' z' K L A]
theorem ret_sr {f:Nat} (hk:pol1.keep f=false) (ho:pol1.own f=false) (b:Bool) (A K L:List MB) (t:List Int) (fuel:Int) (s s':SS) (e e':Nat) :
  retPol pol1 f (srH A t fuel s e K) (.bool b) (srH A t fuel s' e' (K++L))=some (.bool b,srH A t fuel s' e' K):=
 retPol_keep hk ho rfl (keptOk_pre3 _ _ _ _ _ _ _ _ _ (by simp[MB.under,AV.underL,AV.under,underL_plain,plain_ints]<;>omega) (by simp[MB.under,underL_plain,plain_ints]) (by simp[MB.under,underL_plain,plain_caps]) A) (take_pre3 _ _ _ _ _ _ _ _ _)
theorem ret_sr0 {f:Nat} (hk:pol1.keep f=false) (ho:pol1.own f=false) (b:Bool) (A K:List MB) (t:List Int) (fuel:Int) (s s':SS) (e e':Nat) :
  retPol pol1 f (srH A t fuel s e K) (.bool b) (srH A t fuel s' e' K)=some (.bool b,srH A t fuel s' e' K):=by
 have:=ret_sr hk ho b A K [] t fuel s s' e e'
 rwa [List.append_nil]at this
theorem f161 (A K:List MB) (t:List Int) (fuel:Int) (s:SS) (e:Nat) (hs:0≤s.steps∧s.steps≤1000000000000) :
  call Try.prog pol1 161 [.rf A.length 1 0 0] (srH A t fuel s e K)=some (.bool (!(stepS fuel s).empty),srH A t fuel (stepS fuel s) e K):=by
 have fr:frzArgs pol1 161 0 [.rf A.length 1 0 0] (srH A t fuel s e K)=some ([.rf A.length 1 0 0],srH A t fuel s e K):=frzArgs_mix _ _ _ rfl
 refine call_run2 (pol:=pol1) Try.func161 rfl rfl rfl rfl fr ?_
 have hw:IntKind.i64.wrap (s.steps+1)=s.steps+1:=by rw[i64_in]<;>omega
 have ret:=fun b s'=>ret_sr0 (f:=161) rfl rfl b A K t fuel s s' e e
 obtain⟨steps,empty,ends,caps⟩:=s
 simp only at hs hw
 by_cases h:fuel < steps+1
 ·have e1:stepS fuel ⟨steps,empty,ends,caps⟩=⟨steps+1,true,ends,caps⟩:=by simp[stepS,h]
  rw[e1]
  simp +contextual (disch:=omega) only[Try.f161,dd161,go_sem,↓reduceIte,List.reduceReplicate,Nat.reduceAdd,Nat.reduceSub,reduceCtorEq,Nat.reduceLeDiff,Nat.reduceMul,Nat.reduceLT,Nat.reduceEqDiff,Int.reduceBNe,Int.reduceBEq,Int.reduceEq,Int.reduceLT,Int.reduceLE,Int.reduceGT,Int.reduceGE,mu161,Nat.reduceBEq,↓wrap_up,↓wrap_down,↓wrap_pred,↓wrap_sub_nat,Int.reduceToNat,pre_get,pre_set,hw]
  repeat' (first|intro _|apply And.intro|(unfold dOk;kernel_rfl)|exact St.beq_refl _|(show altO _ _ _ _=true;kernel_rfl)|(show (_ || _)=true;kernel_rfl)|(show (_ && _)=true;kernel_rfl))
  exact ret false ⟨steps+1,true,ends,caps⟩
 ·have e1:stepS fuel ⟨steps,empty,ends,caps⟩=⟨steps+1,empty,ends,caps⟩:=by simp[stepS,h]
  rw[e1]
  simp +contextual (disch:=omega) only[Try.f161,dd161,go_sem,↓reduceIte,List.reduceReplicate,Nat.reduceAdd,Nat.reduceSub,reduceCtorEq,Nat.reduceLeDiff,Nat.reduceMul,Nat.reduceLT,Nat.reduceEqDiff,Int.reduceBNe,Int.reduceBEq,Int.reduceEq,Int.reduceLT,Int.reduceLE,Int.reduceGT,Int.reduceGE,mu161,Nat.reduceBEq,↓wrap_up,↓wrap_down,↓wrap_pred,↓wrap_sub_nat,Int.reduceToNat,pre_get,pre_set,hw]
  repeat' (first|intro _|apply And.intro|(unfold dOk;kernel_rfl)|exact St.beq_refl _|(show altO _ _ _ _=true;kernel_rfl)|(show (_ || _)=true;kernel_rfl)|(show (_ && _)=true;kernel_rfl))
  exact ret (!empty) ⟨steps+1,empty,ends,caps⟩
theorem f162 (l:List (Int×Int)) (x:Int) (hl:l.length≤1000000) (H:List MB):call Try.prog pol1 162 [.sl false (l.map spanAV),I x] H=some (.bool (hasSpan l x),H):=by
 refine call_run Try.func162 rfl rfl rfl rfl rfl rfl (fun _=>rfl) (by simp[AV.plain,AV.plainL,plain_span]) rfl ?_ H
 simp +contextual (disch:=omega) only[Try.f162,dd162,go_sem,↓reduceIte,List.reduceReplicate,Nat.reduceAdd,Nat.reduceSub,reduceCtorEq,Nat.reduceLeDiff,Nat.reduceMul,Nat.reduceLT,Nat.reduceEqDiff,Int.reduceBNe,Int.reduceBEq,Int.reduceEq,Int.reduceLT,Int.reduceLE,Int.reduceGT,Int.reduceGE,mu162,Nat.reduceBEq,↓wrap_up,↓wrap_down,↓wrap_pred,↓wrap_sub_nat,Int.reduceToNat]
 refine W_count (M:=(mskOf (pol1.mask 162) (pol1.gc 162) (pol1.acts 162) 0 2)) rfl l.length (fun i=>(⟨28,[(5,I i),(1,I x),(0,.sl false (l.map spanAV))],[]⟩:St)) (fun i=>∀ k p,k < i→l[k]?=some p→¬ (p.1≤x∧x≤p.2)) ?_ ?_ (fun k p h=>by omega) _ (by first|rfl|(refine prep_cut rfl (by rfl) (by rfl) (by rfl) ?_ ?_<;>simp[AV.underL,AV.under,MB.under,underL_plain,under_plain,plain_ints,plain_span,plain_ins,plain_prg,-List.map_take]))
 ·intro i hi hg
  obtain⟨p,hp⟩:∃ p,l[i]?=some p:=⟨_,List.getElem?_eq_getElem hi⟩
  by_cases hin:p.1≤x∧x≤p.2
  ·rw[hasSpan_at hp hin]
   simp +contextual (disch:=omega) only[Try.f162,dd162,go_sem,↓reduceIte,List.reduceReplicate,Nat.reduceAdd,Nat.reduceSub,reduceCtorEq,Nat.reduceLeDiff,Nat.reduceMul,Nat.reduceLT,Nat.reduceEqDiff,Int.reduceBNe,Int.reduceBEq,Int.reduceEq,Int.reduceLT,Int.reduceLE,Int.reduceGT,Int.reduceGE,mu162,Nat.reduceBEq,↓wrap_up,↓wrap_down,↓wrap_pred,↓wrap_sub_nat,Int.reduceToNat,hp,spanAV]
   exact fzEq rfl rfl
  ·have ext:∀ k q,k < i+1→l[k]?=some q→¬ (q.1≤x∧x≤q.2):=fun k q hk hq=>by
    rcases Nat.lt_or_ge k i with h|h
    ·exact hg k q h hq
    ·obtain rfl:k=i:=by omega
     rw[hp]at hq
     obtain rfl:=Option.some.inj hq
     exact hin
   by_cases h1:p.1≤x
   ·simp +contextual (disch:=omega) only[Try.f162,dd162,go_sem,↓reduceIte,List.reduceReplicate,Nat.reduceAdd,Nat.reduceSub,reduceCtorEq,Nat.reduceLeDiff,Nat.reduceMul,Nat.reduceLT,Nat.reduceEqDiff,Int.reduceBNe,Int.reduceBEq,Int.reduceEq,Int.reduceLT,Int.reduceLE,Int.reduceGT,Int.reduceGE,mu162,Nat.reduceBEq,↓wrap_up,↓wrap_down,↓wrap_pred,↓wrap_sub_nat,Int.reduceToNat,hp,spanAV]
    exact⟨ext,(by first|rfl|(refine prep_cut rfl (by rfl) (by rfl) (by rfl) ?_ ?_<;>simp[AV.underL,AV.under,MB.under,underL_plain,under_plain,plain_ints,plain_span,plain_ins,plain_prg,-List.map_take]))⟩
   ·simp +contextual (disch:=omega) only[Try.f162,dd162,go_sem,↓reduceIte,List.reduceReplicate,Nat.reduceAdd,Nat.reduceSub,reduceCtorEq,Nat.reduceLeDiff,Nat.reduceMul,Nat.reduceLT,Nat.reduceEqDiff,Int.reduceBNe,Int.reduceBEq,Int.reduceEq,Int.reduceLT,Int.reduceLE,Int.reduceGT,Int.reduceGE,mu162,Nat.reduceBEq,↓wrap_up,↓wrap_down,↓wrap_pred,↓wrap_sub_nat,Int.reduceToNat,hp,spanAV]
    exact⟨ext,(by first|rfl|(refine prep_cut rfl (by rfl) (by rfl) (by rfl) ?_ ?_<;>simp[AV.underL,AV.under,MB.under,underL_plain,under_plain,plain_ints,plain_span,plain_ins,plain_prg,-List.map_take]))⟩
 ·intro hg
  rw[hasSpan_no hg]
  simp +contextual (disch:=omega) only[Try.f162,dd162,go_sem,↓reduceIte,List.reduceReplicate,Nat.reduceAdd,Nat.reduceSub,reduceCtorEq,Nat.reduceLeDiff,Nat.reduceMul,Nat.reduceLT,Nat.reduceEqDiff,Int.reduceBNe,Int.reduceBEq,Int.reduceEq,Int.reduceLT,Int.reduceLE,Int.reduceGT,Int.reduceGE,mu162,Nat.reduceBEq,↓wrap_up,↓wrap_down,↓wrap_pred,↓wrap_sub_nat,Int.reduceToNat]
  exact fzEq rfl rfl
theorem f167 (x:Int) (H:List MB):call Try.prog pol1 167 [I x] H=some (.bool (wordI x),H):=by
 refine call_run Try.func167 rfl rfl rfl rfl rfl rfl (fun _=>rfl) rfl rfl ?_ H
 simp +contextual (disch:=omega) only[Try.f167,dd167,go_sem,↓reduceIte,List.reduceReplicate,Nat.reduceAdd,Nat.reduceSub,reduceCtorEq,Nat.reduceLeDiff,Nat.reduceMul,Nat.reduceLT,Nat.reduceEqDiff,Int.reduceBNe,Int.reduceBEq,Int.reduceEq,Int.reduceLT,Int.reduceLE,Int.reduceGT,Int.reduceGE,mu167,Nat.reduceBEq,↓wrap_up,↓wrap_down,↓wrap_pred,↓wrap_sub_nat,Int.reduceToNat]
 repeat' (first|intro _|apply And.intro|refine fzEq rfl (congrArg AV.bool ?_))
 all_goals (rw[Bool.eq_iff_iff];simp[wordI]<;>omega)
theorem f165 (n:Int) (t:List Int) (k:Nat) (hn:0≤n∧n≤5) (hk:k≤t.length) (ht:t.length≤1000000000) (H:List MB):call Try.prog pol1 165 [I n,.sl false (t.map I),I k] H=some (.bool (assertI n (befS t k) t[k]?),H):=by
 refine call_run Try.func165 rfl rfl rfl rfl rfl rfl (fun _=>rfl) (by simp[AV.plain,AV.plainL,plain_ints]) rfl ?_ H
 rcases k with _|k
 ·rcases t with _|⟨x,t⟩
  ·simp +contextual (disch:=omega) only[Try.f165,dd165,go_sem,↓reduceIte,List.reduceReplicate,Nat.reduceAdd,Nat.reduceSub,reduceCtorEq,Nat.reduceLeDiff,Nat.reduceMul,Nat.reduceLT,Nat.reduceEqDiff,Int.reduceBNe,Int.reduceBEq,Int.reduceEq,Int.reduceLT,Int.reduceLE,Int.reduceGT,Int.reduceGE,mu165,Nat.reduceBEq,↓wrap_up,↓wrap_down,↓wrap_pred,↓wrap_sub_nat,Int.reduceToNat,f167]
   repeat' (first|intro _|apply And.intro|(unfold dOk;kernel_rfl)|(show (_ && _)=true;kernel_rfl)|(show (_ || _)=true;kernel_rfl)|refine fzEq rfl (congrArg AV.bool ?_))
   all_goals (simp_all [assertI,befS];try (intros;omega))
  ·simp +contextual (disch:=omega) only[Try.f165,dd165,go_sem,↓reduceIte,List.reduceReplicate,Nat.reduceAdd,Nat.reduceSub,reduceCtorEq,Nat.reduceLeDiff,Nat.reduceMul,Nat.reduceLT,Nat.reduceEqDiff,Int.reduceBNe,Int.reduceBEq,Int.reduceEq,Int.reduceLT,Int.reduceLE,Int.reduceGT,Int.reduceGE,mu165,Nat.reduceBEq,↓wrap_up,↓wrap_down,↓wrap_pred,↓wrap_sub_nat,Int.reduceToNat,f167]
   repeat' (first|intro _|apply And.intro|(unfold dOk;kernel_rfl)|(show (_ && _)=true;kernel_rfl)|(show (_ || _)=true;kernel_rfl)|refine fzEq rfl (congrArg AV.bool ?_))
   all_goals (simp_all [assertI,befS];try (intros;omega))
 ·obtain⟨x,hx⟩:∃ x,t[k]?=some x:=⟨_,List.getElem?_eq_getElem (by omega)⟩
  by_cases hl:k+1 < t.length
  ·obtain⟨y,hy⟩:∃ y,t[k+1]?=some y:=⟨_,List.getElem?_eq_getElem hl⟩
   simp +contextual (disch:=omega) only[Try.f165,dd165,go_sem,↓reduceIte,List.reduceReplicate,Nat.reduceAdd,Nat.reduceSub,reduceCtorEq,Nat.reduceLeDiff,Nat.reduceMul,Nat.reduceLT,Nat.reduceEqDiff,Int.reduceBNe,Int.reduceBEq,Int.reduceEq,Int.reduceLT,Int.reduceLE,Int.reduceGT,Int.reduceGE,mu165,Nat.reduceBEq,↓wrap_up,↓wrap_down,↓wrap_pred,↓wrap_sub_nat,Int.reduceToNat,f167,hx,hy]
   repeat' (first|intro _|apply And.intro|(unfold dOk;kernel_rfl)|(show (_ && _)=true;kernel_rfl)|(show (_ || _)=true;kernel_rfl)|refine fzEq rfl (congrArg AV.bool ?_))
   all_goals (simp_all [assertI,befS];try (intros;omega))
   all_goals (cases wordI x<;>cases wordI y<;>rfl)
  ·have hy:t[k+1]?=none:=List.getElem?_eq_none (by omega)
   simp +contextual (disch:=omega) only[Try.f165,dd165,go_sem,↓reduceIte,List.reduceReplicate,Nat.reduceAdd,Nat.reduceSub,reduceCtorEq,Nat.reduceLeDiff,Nat.reduceMul,Nat.reduceLT,Nat.reduceEqDiff,Int.reduceBNe,Int.reduceBEq,Int.reduceEq,Int.reduceLT,Int.reduceLE,Int.reduceGT,Int.reduceGE,mu165,Nat.reduceBEq,↓wrap_up,↓wrap_down,↓wrap_pred,↓wrap_sub_nat,Int.reduceToNat,f167,hx]
   repeat' (first|intro _|apply And.intro|(unfold dOk;kernel_rfl)|(show (_ && _)=true;kernel_rfl)|(show (_ || _)=true;kernel_rfl)|refine fzEq rfl (congrArg AV.bool ?_))
   all_goals (simp_all [assertI,befS];try (intros;omega))
theorem f153 (c:Caps) (n fr to:Int) (hc:c.length≤1000) (H:List MB):call Try.prog pol1 153 [capA c,I n,I fr,I to] H=some (capA (withI c n fr to),H):=by
 refine call_run Try.func153 rfl rfl rfl rfl rfl rfl (fun _=>rfl) (by simp[AV.plain,AV.plainL,plain_span]) (by simp[AV.plain,plain_span]) ?_ H
 unfold withI
 rcases c with _|⟨x,c⟩
 ·rw[if_neg (by simp;omega)]
  by_cases h1:1≤n
  ·simp +contextual (disch:=omega) only[Try.f153,dd153,go_sem,↓reduceIte,List.reduceReplicate,Nat.reduceAdd,Nat.reduceSub,reduceCtorEq,Nat.reduceLeDiff,Nat.reduceMul,Nat.reduceLT,Nat.reduceEqDiff,Int.reduceBNe,Int.reduceBEq,Int.reduceEq,Int.reduceLT,Int.reduceLE,Int.reduceGT,Int.reduceGE,mu153,Nat.reduceBEq,↓wrap_up,↓wrap_down,↓wrap_pred,↓wrap_sub_nat,Int.reduceToNat]
   exact⟨_,rfl⟩
  ·simp +contextual (disch:=omega) only[Try.f153,dd153,go_sem,↓reduceIte,List.reduceReplicate,Nat.reduceAdd,Nat.reduceSub,reduceCtorEq,Nat.reduceLeDiff,Nat.reduceMul,Nat.reduceLT,Nat.reduceEqDiff,Int.reduceBNe,Int.reduceBEq,Int.reduceEq,Int.reduceLT,Int.reduceLE,Int.reduceGT,Int.reduceGE,mu153,Nat.reduceBEq,↓wrap_up,↓wrap_down,↓wrap_pred,↓wrap_sub_nat,Int.reduceToNat]
   exact⟨_,rfl⟩
 ·simp only[List.length_cons]at hc
  have hroom:=room_ok (n:=c.length+1) (b:=16) (by omega) (by omega)
  have hal:((c.map spanAV).all fun y=>decide ((match y with | .agg cs=>cs|x=>[x]).length=2) && (match y with | .agg cs=>cs|x=>[x]).all AV.ok)=true:=by
   rw[List.all_eq_true];intro y hy;obtain⟨p,_,rfl⟩:=List.mem_map.1 hy;rfl
  have hz:∀ d:Caps,d.length=c.length+1→∃ H',fz (.ms 0 2 (c.length+1) 0 (c.length+1)) [.row 2 (d.map spanAV) 0]=some (capA d,H'):=fun d hd=>
   ⟨_,fz_row rfl (by rw[List.length_map];exact hd) (plain_span d)⟩
  by_cases h1:1≤n
  ·by_cases h2:n≤((x::c).length:Int)
   ·rw[if_pos ⟨h1,h2⟩]
    obtain⟨j,rfl⟩:∃ j:Nat,n=(j:Int)+1:=⟨(n - 1).toNat,by omega⟩
    simp only[List.length_cons]at h2
    obtain⟨y,hy⟩:∃ y,(x::c)[j]?=some y:=⟨_,List.getElem?_eq_getElem (by simp;omega)⟩
    have hy2:(spanAV x::List.map spanAV c)[j]?=some (spanAV y):=by
     have:((x::c).map spanAV)[j]?=some (spanAV y):=by rw[List.getElem?_map,hy];rfl
     exact this
    have hw:IntKind.i64.wrap ((j:Int)+1 - 1)=(j:Int):=by rw[i64_in]<;>omega
    have hj:((j:Int)+1 - 1)=(j:Int):=by omega
    have hset:(spanAV x::List.map spanAV c).set j (.agg [I fr,I to])=((x::c).set j (fr,to)).map spanAV:=by rw[List.map_set];rfl
    simp +contextual (disch:=omega) only[Try.f153,dd153,go_sem,↓reduceIte,List.reduceReplicate,Nat.reduceAdd,Nat.reduceSub,reduceCtorEq,Nat.reduceLeDiff,Nat.reduceMul,Nat.reduceLT,Nat.reduceEqDiff,Int.reduceBNe,Int.reduceBEq,Int.reduceEq,Int.reduceLT,Int.reduceLE,Int.reduceGT,Int.reduceGE,mu153,Nat.reduceBEq,↓wrap_up,↓wrap_down,↓wrap_pred,↓wrap_sub_nat,Int.reduceToNat,hroom,hw,hy2,hj,hset]
    exact⟨hal,hz _ (by simp)⟩
   ·rw[if_neg (by omega)]
    simp only[List.length_cons]at h2
    simp +contextual (disch:=omega) only[Try.f153,dd153,go_sem,↓reduceIte,List.reduceReplicate,Nat.reduceAdd,Nat.reduceSub,reduceCtorEq,Nat.reduceLeDiff,Nat.reduceMul,Nat.reduceLT,Nat.reduceEqDiff,Int.reduceBNe,Int.reduceBEq,Int.reduceEq,Int.reduceLT,Int.reduceLE,Int.reduceGT,Int.reduceGE,mu153,Nat.reduceBEq,↓wrap_up,↓wrap_down,↓wrap_pred,↓wrap_sub_nat,Int.reduceToNat,hroom]
    exact⟨hal,hz (x::c) rfl⟩
  ·rw[if_neg (by omega)]
   simp +contextual (disch:=omega) only[Try.f153,dd153,go_sem,↓reduceIte,List.reduceReplicate,Nat.reduceAdd,Nat.reduceSub,reduceCtorEq,Nat.reduceLeDiff,Nat.reduceMul,Nat.reduceLT,Nat.reduceEqDiff,Int.reduceBNe,Int.reduceBEq,Int.reduceEq,Int.reduceLT,Int.reduceLE,Int.reduceGT,Int.reduceGE,mu153,Nat.reduceBEq,↓wrap_up,↓wrap_down,↓wrap_pred,↓wrap_sub_nat,Int.reduceToNat,hroom]
   exact⟨hal,hz (x::c) rfl⟩
section
variable {cs xs:List AV} {k:IntKind} {n:Int} {b:Bool} {x a c d e f:Nat}
theorem cl_agg:(AV.agg cs).cells=cs:=rfl
theorem cl_int:(AV.int k n).cells=[.int k n]:=rfl
theorem cl_bool:(AV.bool b).cells=[.bool b]:=rfl
theorem cl_sl:(AV.sl b xs).cells=[.sl b xs]:=rfl
theorem cl_rf:(AV.rf a c d e).cells=[.rf a c d e]:=rfl
theorem cl_pt:(AV.pt xs).cells=[.pt xs]:=rfl
theorem cl_nilp:AV.nilp.cells=[.nilp]:=rfl
end
theorem cl_goal (g:Goal):(goalA g).cells=[goalA g]:=by cases g<;>rfl
theorem ok_goal (g:Goal):AV.ok (goalA g)=true:=by cases g<;>rfl
theorem re_take (r:Re) (n:Nat) (l:List AV):List.take (n+8) (reC r++l)=reC r++List.take n l:=by
 rw[List.take_append,reC_len,List.take_of_length_le (by rw[reC_len];omega)];congr 2
theorem re_drop (r:Re) (n:Nat) (l:List AV):List.drop (n+8) (reC r++l)=List.drop n l:=by
 rw[List.drop_append,reC_len,List.drop_of_length_le (by rw[reC_len];omega),List.nil_append];congr 1
end
section
attribute [local go_sem] evBin ty22 ty23 ty39 ty41 ty86 ty108
open Go.Proofs Go.RowKit Go.IntWalk
set_option maxRecDepth 100000
set_option linter.unusedSimpArgs false
set_option linter.unusedVariables false
set_option maxHeartbeats 4000000
theorem fzL_append {j:List AV→List MB→Option (List AV×List MB)} (ys:List AV):∀(xs:List AV) (H:List MB),fzL j (xs++ys) H=(match fzL j xs H with
  | some (a,H1)=>(match fzL j ys H1 with
    | some (b,H2)=>some (a++b,H2)
    | none=>none)
  | none=>none)
 | [],H=>by
   simp only[List.nil_append,fzL]
   cases fzL j ys H with
   | none=>rfl
   | some q=>rfl
 | x::xs,H=>by
   simp only[List.cons_append,fzL]
   cases fzA j x H with
   | none=>rfl
   | some q=>
     simp only[fzL_append ys xs q.2]
     cases fzL j xs q.2 with
     | none=>rfl
     | some q2=>
       simp only[]
       cases fzL j ys q2.2 with
       | none=>rfl
       | some q3=>rfl
end
end Go.Ev
