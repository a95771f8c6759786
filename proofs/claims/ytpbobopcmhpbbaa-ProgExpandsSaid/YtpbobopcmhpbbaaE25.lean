/- Functions of the program, each with what it computes; no further conditions. -/
import Derived.Test.YtpbobopcmhpbbaaE12
import Derived.Test.YtpbobopcmhpbbaaE14
import Derived.Test.YtpbobopcmhpbbaaE20
import Derived.Test.YtpbobopcmhpbbaaE21
import Derived.Test.YtpbobopcmhpbbaaE11
import Derived.Test.YtpbobopcmhpbbaaE15
import Derived.Test.YtpbobopcmhpbbaaE05
import Derived.Test.YtpbobopcmhpbbaaE10
import Derived.Test.YtpbobopcmhpbbaaE13
import Derived.Test.YtpbobopcmhpbbaaE24
import Derived.Test.YtpbobopcmhpbbaaE18
set_option linter.unusedVariables false
set_option linter.unusedSimpArgs false
namespace Go.Ev
def PT (p:Prog1) (w:Way) (n:Nat):Prop:=∀(fuel:Nat) (rest out:List Way),∃ out',runW p (-1) (n+fuel) (w::rest) out=runW p (-1) fuel rest out'
theorem len_ne (out:List Way):¬ (out.length:Int) = -1:=by omega
theorem PT.none {p:Prog1} {w:Way} (h:stepW p w=.ways []):PT p w 1:=fun fuel rest out=>⟨out,by
 rw[Nat.add_comm,runW_step (len_ne out),h];rfl⟩
theorem PT.done {p:Prog1} {w:Way} (h:stepW p w=.done):PT p w 1:=fun fuel rest out=>⟨out++[w],by
 rw[Nat.add_comm,runW_step (len_ne out),h]⟩
theorem PT.one {p:Prog1} {w w':Way} {n:Nat} (h:stepW p w=.ways [w']) (h1:PT p w' n):PT p w (1+n):=fun fuel rest out=>by
 obtain⟨out',e⟩:=h1 fuel rest out
 refine⟨out',?_⟩
 rw[show 1+n+fuel=(n+fuel)+1 by omega,runW_step (len_ne out),h]
 exact e
theorem PT.two {p:Prog1} {w a b:Way} {n m:Nat} (h:stepW p w=.ways [a,b]) (h1:PT p a n) (h2:PT p b m):PT p w (1+(n+m)):=fun fuel rest out=>by
 obtain⟨out1,e1⟩:=h1 (m+fuel) (b::rest) out
 obtain⟨out2,e2⟩:=h2 fuel rest out1
 refine⟨out2,?_⟩
 rw[show 1+(n+m)+fuel=(n+(m+fuel))+1 by omega,runW_step (len_ne out),h]
 exact e1.trans e2
def LiesAt (p:Prog1) (f:Nat) (l:List Ins):Prop:=∀(j:Nat) (x:Ins),l[j]?=some x→p.ins (f+j)=some x
theorem LiesAt.left {p:Prog1} {f:Nat} {a b:List Ins} (h:LiesAt p f (a++b)):LiesAt p f a:=fun j x hj=>h j x (by
 have:=(List.getElem?_eq_some_iff.1 hj).1
 rwa [List.getElem?_append_left this])
theorem LiesAt.right {p:Prog1} {f n:Nat} {a b:List Ins} (h:LiesAt p f (a++b)) (hn:a.length=n):LiesAt p (f+n) b:=fun j x hj=>by
 have:=h (n+j) x (by rw[List.getElem?_append_right (by omega),show n+j - a.length=j by omega];exact hj)
 rwa [← Nat.add_assoc]at this
theorem LiesAt.head {p:Prog1} {f:Nat} {x:Ins} {l:List Ins} (h:LiesAt p f (x::l)):p.ins f=some x:=h 0 x rfl
theorem LiesAt.tail {p:Prog1} {f:Nat} {x:Ins} {l:List Ins} (h:LiesAt p f (x::l)):LiesAt p (f+1) l:=fun j y hj=>by
 have:=h (j+1) y hj
 rwa [show f+(j+1)=f+1+j by omega]at this
def repP (f:Nat→List Nat) (g:Nat→Nat) (mn mx:Int):Nat→Int→Nat→Nat
 | 0,_,_=>0
 | n+1,k,i=>
   if k < mn then g i+((f i).map (repP f g mn mx n (k+1))).sum
   else if mx = -1 then 1+(g i+((f i).map fun j=>1+repP f g mn mx n (k+1) j).sum)
   else if k < mx then 1+(g i+((f i).map (repP f g mn mx n (k+1))).sum)
   else 0
mutual
def costP (t:List Int):Re→Nat→Nat
 | .mk op set kids mn mx md n neg,i=>
   if op=1∨op=11 then 1
   else if op=2 then costPC t kids i
   else if op=3 then costPA t kids i
   else if op=4 then repP (outsH t kids) (costPH t kids) mn mx (t.length+1 - i) 0 i
   else if op=5 then 1+(costPH t kids i+(outsH t kids i).length)
   else 0
def costPC (t:List Int):List Re→Nat→Nat
 | [],_=>0
 | k::ks,i=>costP t k i+((outs t k i).map (costPC t ks)).sum
def costPA (t:List Int):List Re→Nat→Nat
 | [],_=>0
 | k::ks,i=>if ks.length=0 then costP t k i else 1+(costP t k i+(outs t k i).length+costPA t ks i)
def costPH (t:List Int):List Re→Nat→Nat
 | [],_=>0
 | k::_,i=>costP t k i
end
theorem sum_le {α:Type} (l:List α) {f g:α→Nat} (h:∀ x∈l,f x≤g x):(l.map f).sum≤(l.map g).sum:=by
 induction l with
 | nil=>exact Nat.le_refl _
 | cons a l ih=>
   have h1:=h a (by simp)
   have h2:=ih fun x hx=>h x (by simp[hx])
   simp only[List.map_cons,List.sum_cons];omega
theorem sum_mul {α:Type} (M:Nat) (l:List α) (g:α→Nat):(l.map fun x=>M * g x).sum=M * (l.map g).sum:=by
 induction l with
 | nil=>rfl
 | cons a l ih=>simp only[List.map_cons,List.sum_cons,ih,Nat.mul_add]
theorem sum_one {α:Type} (l:List α):(l.map fun _=>1).sum=l.length:=by
 induction l with
 | nil=>rfl
 | cons a l ih=>simp only[List.map_cons,List.sum_cons,ih,List.length_cons];omega
theorem len_flatMap {α:Type} (l:List α) (f:α→List Nat):(l.flatMap f).length=(l.map fun j=>(f j).length).sum:=by
 induction l with
 | nil=>rfl
 | cons a l ih=>simp[ih]
section
variable {caps top:Int} {t:List Int} {p:Prog1}
structure Over (t:List Int) (p:Prog1):Prop where
 has:∀ s k,p.has s k=match t[k]? with
  | some x=>hasSpan s x
  | none=>false
 holds:∀ n k,p.holds n k=assertI n (befS t k) t[k]?
theorem lies_flat {α:Type} {g:α→List Ins}:∀ {l:List α} {f L:Nat} (k:Nat) (x:α),(∀ y∈l,(g y).length=L)→LiesAt p f (l.flatMap g)→l[k]?=some x→LiesAt p (f+k * L) (g x)
 | [],_,_,k,x,_,_,h=>by simp at h
 | y::l,f,L,0,x,hl,h,hk=>by
   simp only[List.getElem?_cons_zero,Option.some.injEq]at hk
   subst hk
   rw[List.flatMap_cons]at h
   simpa using h.left
 | y::l,f,L,k+1,x,hl,h,hk=>by
   rw[List.flatMap_cons]at h
   have h1:=h.right (hl y (by simp))
   have:=lies_flat (f:=f+L) k x (fun z hz=>hl z (by simp[hz])) h1 (by simpa using hk)
   rwa [show f+(k+1) * L=f+L+k * L by rw[Nat.succ_mul];omega]
def repPc (f L:Nat) (mn mx:Int) (k:Int):Nat:=if k≤mn then f+k.toNat * L else if mx = -1 then f+mn.toNat * L else f+mn.toNat * L+(k - mn).toNat * (L+1)
theorem rep_run {kid:Re} {f L:Nat} {mn mx md:Int} {κ:Nat→Nat} {e:Nat} (hg:∀ g,(codeG kid g).length=L) (h0:0≤mn) (hmx:mx = -1∨mn≤mx) (he:e=if mx = -1 then f+mn.toNat * L+L+2 else f+mx.toNat * L+(mx.toNat - mn.toNat))
  (hc:∀ k:Nat,(k:Int) < mn→LiesAt p (f+k * L) (codeG kid (f+k * L)))
  (hm:mx = -1→LiesAt p (f+mn.toNat * L) (insSplit md ((f+mn.toNat * L+1:Nat):Int) (e:Int)::(codeG kid (f+mn.toNat * L+1)++[⟨3,((f+mn.toNat * L:Nat):Int),0,0,[]⟩])))
  (hb:mx≠-1→∀ k:Nat,(k:Int) < mx - mn→LiesAt p (f+mn.toNat * L+k * (L+1)) (insSplit md ((f+mn.toNat * L+k * (L+1)+1:Nat):Int) (e:Int)::codeG kid (f+mn.toNat * L+k * (L+1)+1)))
  (hpos:∀ i,i≤t.length→∀ j∈outs t kid i,i < j∧j≤t.length)
  (hK:∀(g:Nat) (i:Nat) (κ':Nat→Nat),LiesAt p g (codeG kid g)→i≤t.length→(∀ j∈outs t kid i,∀ regs,PT p ⟨g+L,j,regs⟩ (κ' j))→∀ regs,PT p ⟨g,i,regs⟩ (costP t kid i+((outs t kid i).map κ').sum)) :
  ∀(n:Nat) (k:Int) (i:Nat),0≤k→(mx = -1∨k≤mx)→i≤t.length→t.length+1 - i≤n→(∀ j∈repO (outs t kid) mn mx md n k i,∀ regs,PT p ⟨e,j,regs⟩ (κ j)) →
   ∀ regs,PT p ⟨repPc f L mn mx k,i,regs⟩ (repP (outs t kid) (costP t kid) mn mx n k i+((repO (outs t kid) mn mx md n k i).map κ).sum)
 | 0,k,i,_,_,hi,hn,_=>by omega
 | n+1,k,i,hk,hkx,hi,hn,hx=>by
   intro regs
   have ih:=fun j (hj:j∈outs t kid i) (hk1:mx = -1∨k+1≤mx)=>rep_run (κ:=κ) hg h0 hmx he hc hm hb hpos hK n (k+1) j (by omega) hk1 (hpos i hi j hj).2 (by have:=(hpos i hi j hj).1;omega)
   rw[repO]at hx ⊢
   rw[repP]
   by_cases h1:k < mn
   ·rw[if_pos h1]at hx ⊢
    rw[if_pos h1,sum_flatMap,Nat.add_assoc,← sum_add]
    have hpc:repPc f L mn mx k=f+k.toNat * L:=by rw[repPc,if_pos (by omega)]
    have hpc1:repPc f L mn mx (k+1)=f+k.toNat * L+L:=by rw[repPc,if_pos (by omega),show (k+1).toNat=k.toNat+1 by omega,Nat.succ_mul];omega
    rw[hpc]
    refine hK _ i _ (hc k.toNat (by omega)) hi (fun j hj regs=>?_) regs
    rw[← hpc1]
    exact ih j hj (by omega) (fun q hq=>hx q (List.mem_flatMap.2 ⟨j,hj,hq⟩)) regs
   ·rw[if_neg h1]at hx ⊢
    rw[if_neg h1]
    by_cases hm1:mx = -1
    ·have hl:=hm hm1
     have hpc:repPc f L mn mx k=f+mn.toNat * L:=by
      rw[repPc]
      by_cases hkm:k≤mn
      ·rw[if_pos hkm,show k=mn by omega]
      ·rw[if_neg hkm,if_pos hm1]
     have hpc1:repPc f L mn mx (k+1)=f+mn.toNat * L:=by rw[repPc,if_neg (by omega),if_pos hm1]
     rw[hpc]
     simp only[if_pos hm1,if_pos (Or.inl hm1:mx = -1∨k < mx)]at hx ⊢
     have hj3:p.ins (f+mn.toNat * L+1+L)=some ⟨3,((f+mn.toNat * L:Nat):Int),0,0,[]⟩:=(hl.tail.right (hg _)).head
     have once:(∀ j∈(outs t kid i).flatMap (repO (outs t kid) mn mx md n (k+1)),∀ regs,PT p ⟨e,j,regs⟩ (κ j))→PT p ⟨f+mn.toNat * L+1,i,regs⟩
       (costP t kid i+((outs t kid i).map fun j=>1+repP (outs t kid) (costP t kid) mn mx n (k+1) j).sum+(((outs t kid i).flatMap (repO (outs t kid) mn mx md n (k+1))).map κ).sum):=fun hx=>by
      rw[sum_flatMap,Nat.add_assoc (costP t kid i),← sum_add]
      refine hK _ i _ hl.tail.left hi (fun j hj regs=>?_) regs
      have h:=ih j hj (by omega) (fun q hq=>hx q (List.mem_flatMap.2 ⟨j,hj,hq⟩)) regs
      rw[hpc1]at h
      rw[Nat.add_assoc 1]
      refine PT.one ?_ h
      simp only[stepW,hj3]
      rfl
     have hs:p.ins (f+mn.toNat * L)=some (insSplit md ((f+mn.toNat * L+1:Nat):Int) (e:Int)):=hl.head
     by_cases hd:md=1
     ·rw[if_pos hd]at hx ⊢
      have h1:=hx i (by simp) regs
      have h2:=once fun j hj=>hx j (List.mem_cons_of_mem _ hj)
      rw[List.map_cons,List.sum_cons]
      have h3:=PT.two (w:=⟨f+mn.toNat * L,i,regs⟩) (by simp only[stepW,hs,insSplit,if_pos hd];rfl) h1 h2
      have hq:∀ {a b:Nat},a=b→PT p ⟨f+mn.toNat * L,i,regs⟩ a→PT p ⟨f+mn.toNat * L,i,regs⟩ b:=fun e h=>e ▸ h
      exact hq (by omega) h3
     ·rw[if_neg hd]at hx ⊢
      have h1:=hx i (by simp) regs
      have h2:=once fun j hj=>hx j (List.mem_append_left _ hj)
      rw[List.map_append,List.sum_append,List.map_cons,List.map_nil,List.sum_cons,List.sum_nil]
      have h3:=PT.two (w:=⟨f+mn.toNat * L,i,regs⟩) (by simp only[stepW,hs,insSplit,if_neg hd];rfl) h2 h1
      have hq:∀ {a b:Nat},a=b→PT p ⟨f+mn.toNat * L,i,regs⟩ a→PT p ⟨f+mn.toNat * L,i,regs⟩ b:=fun e h=>e ▸ h
      exact hq (by omega) h3
    ·have hmn:(mx.toNat:Int)=mx:=by omega
     by_cases h2:k < mx
     ·have hl:=hb hm1 (k - mn).toNat (by omega)
      have hpc:repPc f L mn mx k=f+mn.toNat * L+(k - mn).toNat * (L+1):=by
       rw[repPc]
       by_cases hkm:k≤mn
       ·rw[if_pos hkm,show k=mn by omega];simp
       ·rw[if_neg hkm,if_neg hm1]
      have hpc1:repPc f L mn mx (k+1)=f+mn.toNat * L+(k - mn).toNat * (L+1)+1+L:=by
       rw[repPc,if_neg (by omega),if_neg hm1,show (k+1 - mn).toNat=(k - mn).toNat+1 by omega,Nat.succ_mul];omega
      rw[hpc]
      generalize f+mn.toNat * L+(k - mn).toNat * (L+1)=pc at *
      simp only[if_neg hm1,if_pos h2,if_pos (Or.inr h2:mx = -1∨k < mx)]at hx ⊢
      have once:(∀ j∈(outs t kid i).flatMap (repO (outs t kid) mn mx md n (k+1)),∀ regs,PT p ⟨e,j,regs⟩ (κ j))→PT p ⟨pc+1,i,regs⟩
        (costP t kid i+((outs t kid i).map (repP (outs t kid) (costP t kid) mn mx n (k+1))).sum+(((outs t kid i).flatMap (repO (outs t kid) mn mx md n (k+1))).map κ).sum):=fun hx=>by
       rw[sum_flatMap,Nat.add_assoc (costP t kid i),← sum_add]
       refine hK _ i _ hl.tail hi (fun j hj regs=>?_) regs
       have h:=ih j hj (by omega) (fun q hq=>hx q (List.mem_flatMap.2 ⟨j,hj,hq⟩)) regs
       rwa [hpc1]at h
      have hs:p.ins pc=some (insSplit md ((pc+1:Nat):Int) (e:Int)):=hl.head
      have hq:∀ {a b:Nat},a=b→PT p ⟨pc,i,regs⟩ a→PT p ⟨pc,i,regs⟩ b:=fun e h=>e ▸ h
      by_cases hd:md=1
      ·rw[if_pos hd]at hx ⊢
       have h1:=hx i (by simp) regs
       have h2:=once fun j hj=>hx j (List.mem_cons_of_mem _ hj)
       rw[List.map_cons,List.sum_cons]
       have h3:=PT.two (w:=⟨pc,i,regs⟩) (by simp only[stepW,hs,insSplit,if_pos hd];rfl) h1 h2
       exact hq (by omega) h3
      ·rw[if_neg hd]at hx ⊢
       have h1:=hx i (by simp) regs
       have h2:=once fun j hj=>hx j (List.mem_append_left _ hj)
       rw[List.map_append,List.sum_append,List.map_cons,List.map_nil,List.sum_cons,List.sum_nil]
       have h3:=PT.two (w:=⟨pc,i,regs⟩) (by simp only[stepW,hs,insSplit,if_neg hd];rfl) h2 h1
       exact hq (by omega) h3
     ·have hkm:k=mx:=by omega
      have hpc:repPc f L mn mx k=e:=by
       rw[he,if_neg hm1,repPc]
       by_cases hkn:k≤mn
       ·have:mx=mn:=by omega
        rw[if_pos hkn,hkm,this];simp
       ·rw[if_neg hkn,if_neg hm1,hkm]
        have e1:mx.toNat=mn.toNat+(mx - mn).toNat:=by omega
        rw[e1,Nat.add_mul,Nat.mul_succ];omega
      rw[hpc]
      simp only[if_neg hm1,if_neg h2,if_neg (show ¬ (mx = -1∨k < mx) by omega)]at hx ⊢
      have hO:(if md=1 then [i] else []++[i])=[i]:=by split<;>rfl
      rw[hO]at hx ⊢
      have:=hx i (by simp) regs
      simpa using this
mutual
theorem pt_run (ho:Over t p):∀ r:Re,GoodC caps top r→lpG r=true→∀(f:Nat),LiesAt p f (codeG r f)→∀(i:Nat) (κ:Nat→Nat),i≤t.length→(∀ j∈outs t r i,∀ regs,PT p ⟨f+lenG r,j,regs⟩ (κ j)) →
  ∀ regs,PT p ⟨f,i,regs⟩ (costP t r i+((outs t r i).map κ).sum)
 | .mk op set kids mn mx md n neg,hr,hcp,f,hl,i,κ,hi,hx,regs=>by
   have hC:=pt_cat ho kids hr.kids
   have hA:=pt_alt ho kids hr.kids
   have hH:=pt_hd ho kids hr.kids
   have hop:=hr.op
   obtain⟨_,hkd,hrp,_⟩:=whole_facts hr.whole
   rw[lpG,Bool.and_eq_true]at hcp
   obtain⟨hcp0,hcp⟩:=hcp
   rw[codeG]at hl
   rw[lenG]at hx
   rw[outs]at hx ⊢
   rw[costP]
   rcases hop with rfl|rfl|rfl|rfl|rfl|rfl|rfl
   ·have hk0:kids=[]:=List.length_eq_zero_iff.1 (by simpa [kidsG] using hkd)
    subst hk0
    have:=hx i (by simp) regs
    simpa [lenL] using this
   ·simp only[if_true,true_or]at hl hx ⊢
    have hin:=hl.head
    have hb:=ho.has set i
    cases hti:t[i]? with
    | none=>
      simp only[hti]at hb
      simp only[List.map_nil,List.sum_nil,Nat.add_zero]
      exact PT.none (by simp[stepW,hin,hb])
    | some x=>
      simp only[hti]at hb hx
      by_cases hh:hasSpan set x=true
      ·simp only[if_pos hh]at hx ⊢
       simp only[List.map_cons,List.map_nil,List.sum_cons,List.sum_nil,Nat.add_zero]
       exact PT.one (by simp[stepW,hin,hb,hh]) (hx (i+1) (by simp) regs)
      ·simp only[if_neg hh,List.map_nil,List.sum_nil,Nat.add_zero]
       exact PT.none (by simp[stepW,hin,hb,hh])
   ·simp at hl hx ⊢
    exact hC hcp f hl i κ hi hx regs
   ·simp at hl hx ⊢
    refine hA hcp f (f+(lenL kids+2 * (kids.length - 1))) ?_ (by omega) hl i κ hi hx regs
    have:2≤kids.length:=by simpa [kidsG] using hkd
    intro e;rw[e]at this;simp at this
   ·obtain⟨k,rfl⟩:∃ k,kids=[k]:=List.length_eq_one_iff.1 (by simpa [kidsG] using hkd)
    have hrg:=hrp rfl
    simp only[repG,Bool.and_eq_true,Bool.or_eq_true,decide_eq_true_eq,beq_iff_eq]at hrg
    simp only[show ¬(4:Int)=1 by decide,show ¬(4:Int)=11 by decide,show ¬(4:Int)=2 by decide,show ¬(4:Int)=3 by decide,show ¬(4:Int)=5 by decide,if_false,if_true,or_self,lenL,codeHd,Nat.add_zero]at hl hx ⊢
    have hgk:=hr.kids k (by simp)
    have ho1:outsH t [k]=outs t k:=funext fun i=>by rw[outsH]
    have hp1:costPH t [k]=costP t k:=funext fun i=>by rw[costPH]
    rw[ho1]at hx ⊢
    rw[hp1]
    rw[lpL,Bool.and_eq_true]at hcp
    have hnl:nullG k=false:=by simpa [nullHd] using hcp0
    have hcl:=copies_len hgk f mn.toNat
    unfold copiesG at hcl
    have hcop:LiesAt p f ((List.range mn.toNat).flatMap fun i=>codeG k (f+i * lenG k)):=by
     split at hl
     ·exact hl.left
     ·exact hl.left
    have h:=rep_run (p:=p) (t:=t) (kid:=k) (f:=f) (L:=lenG k) (mn:=mn) (mx:=mx) (md:=md) (κ:=κ) (e:=if mx = -1 then f+mn.toNat * lenG k+lenG k+2 else f+mx.toNat * lenG k+(mx.toNat - mn.toNat))
     (fun g=>codeG_len caps top k g hgk) (by omega) (by omega) rfl
     (fun q hq=>lies_flat (g:=fun i=>codeG k (f+i * lenG k)) q q (fun y hy=>codeG_len caps top k _ hgk) hcop (by rw[List.getElem?_range (by omega)]))
     (fun hm=>by
       rw[if_pos hm]at hl
       rw[if_pos hm]
       exact hl.right hcl)
     (fun hm q hq=>by
       rw[if_neg hm]at hl
       rw[if_neg hm]
       exact lies_flat (g:=fun j=>insSplit md ((f+mn.toNat * lenG k+j * (lenG k+1)+1:Nat):Int) ((f+mx.toNat * lenG k+(mx.toNat - mn.toNat):Nat):Int)::codeG k (f+mn.toNat * lenG k+j * (lenG k+1)+1)) q q
        (fun y hy=>by simp[codeG_len caps top k _ hgk]) (hl.right hcl) (by rw[List.getElem?_range (by omega)]))
     (fun i hi j hj=>⟨outs_pos t k i hnl hgk.cod hi j hj,(outs_in t k i hi j hj).2⟩)
     (fun g i κ' hl hi hx=>hH (by rw[lpL,lpL,hcp.1];rfl) g hl i κ' hi hx)
     (t.length+1 - i) 0 i (Int.le_refl _) (by omega) hi (Nat.le_refl _)
     (fun j hj regs=>by
       have:=hx j hj regs
       have he:f+(if mx = -1 then(mn.toNat+1) * lenG k+2 else mx.toNat * lenG k+(mx.toNat - mn.toNat))=if mx = -1 then f+mn.toNat * lenG k+lenG k+2 else f+mx.toNat * lenG k+(mx.toNat - mn.toNat):=by
        split
        ·rw[Nat.succ_mul];omega
        ·omega
       rwa [he]at this) regs
    have hpc:repPc f (lenG k) mn mx 0=f:=by rw[repPc,if_pos (by omega)];simp
    rwa [hpc]at h
   ·obtain⟨k,rfl⟩:∃ k,kids=[k]:=List.length_eq_one_iff.1 (by simpa [kidsG] using hkd)
    simp only[show ¬(5:Int)=1 by decide,show ¬(5:Int)=11 by decide,show ¬(5:Int)=2 by decide,show ¬(5:Int)=3 by decide,show ¬(5:Int)=4 by decide,if_false,if_true,or_self,lenL,codeHd,Nat.add_zero,outsH,costPH]at hl hx ⊢
    have hgk:=hr.kids k (by simp)
    have hs:=hl.head
    have hl2:=(hl.tail.right (codeG_len caps top k _ hgk)).head
    rw[lpL,Bool.and_eq_true]at hcp
    have hsum:1+(costP t k i+(outs t k i).length)+((outs t k i).map κ).sum=1+(costP t k i+((outs t k i).map fun j=>1+κ j).sum):=by
     rw[sum_add,sum_one];omega
    rw[hsum]
    refine PT.one (w':=⟨f+1,i,regs.set (2 * n - 2).toNat i⟩) (by simp only[stepW,hs];rfl) ?_
    refine hH (by rw[lpL,lpL,hcp.1];rfl) (f+1) hl.tail.left i _ hi (fun j hj regs=>?_) _
    have:=hx j hj (regs.set (2 * n - 1).toNat j)
    refine PT.one ?_ this
    simp only[stepW,hl2]
    rw[show f+1+lenG k+1=f+(lenG k+2) by omega]
    rfl
   ·simp only[show ¬(11:Int)=1 by decide,show ¬(11:Int)=2 by decide,show ¬(11:Int)=3 by decide,show ¬(11:Int)=4 by decide,show ¬(11:Int)=5 by decide,if_false,if_true,or_true]at hl hx ⊢
    have hin:=hl.head
    have hb:=ho.holds n i
    by_cases hh:assertI n (befS t i) t[i]?=true
    ·simp only[if_pos hh]at hx ⊢
     simp only[List.map_cons,List.map_nil,List.sum_cons,List.sum_nil,Nat.add_zero]
     exact PT.one (by simp[stepW,hin,hb,hh]) (hx i (by simp) regs)
    ·simp only[if_neg hh,List.map_nil,List.sum_nil,Nat.add_zero]
     exact PT.none (by simp[stepW,hin,hb,hh])
theorem pt_cat (ho:Over t p):∀ l:List Re,(∀ k∈l,GoodC caps top k)→lpL l=true→∀(f:Nat),LiesAt p f (codeCat l f)→∀(i:Nat) (κ:Nat→Nat),i≤t.length→(∀ j∈outsC t l i,∀ regs,PT p ⟨f+lenL l,j,regs⟩ (κ j)) →
  ∀ regs,PT p ⟨f,i,regs⟩ (costPC t l i+((outsC t l i).map κ).sum)
 | [],_,_,f,hl,i,κ,hi,hx,regs=>by
   have:=hx i (by simp[outsC]) regs
   simpa [outsC,costPC,lenL] using this
 | k::ks,hr,hcp,f,hl,i,κ,hi,hx,regs=>by
   rw[lpL,Bool.and_eq_true]at hcp
   rw[codeCat]at hl
   rw[outsC]at hx ⊢
   rw[costPC,sum_flatMap,Nat.add_assoc,← sum_add]
   refine pt_run ho k (hr k (by simp)) hcp.1 f hl.left i _ hi (fun j hj regs=>?_) regs
   refine pt_cat ho ks (fun q hq=>hr q (by simp[hq])) hcp.2 (f+lenG k) (hl.right (codeG_len caps top k _ (hr k (by simp)))) j κ (outs_in t k i hi j hj).2 (fun q hq regs=>?_) regs
   have:=hx q (List.mem_flatMap.2 ⟨j,hj,hq⟩) regs
   rwa [lenL,← Nat.add_assoc]at this
theorem pt_alt (ho:Over t p):∀ l:List Re,(∀ k∈l,GoodC caps top k)→lpL l=true→∀(f e:Nat),l≠[]→e=f+lenL l+2 * (l.length - 1)→LiesAt p f (codeAlt l f)→∀(i:Nat) (κ:Nat→Nat),i≤t.length→(∀ j∈outsA t l i,∀ regs,PT p ⟨e,j,regs⟩ (κ j)) →
  ∀ regs,PT p ⟨f,i,regs⟩ (costPA t l i+((outsA t l i).map κ).sum)
 | [],_,_,f,e,hn,_,hl,i,κ,hi,hx,regs=>absurd rfl hn
 | k::ks,hr,hcp,f,e,hn,he,hl,i,κ,hi,hx,regs=>by
   rw[lpL,Bool.and_eq_true]at hcp
   rw[codeAlt]at hl
   rw[outsA]at hx ⊢
   rw[costPA]
   by_cases h0:ks.length=0
   ·rw[if_pos h0]at hl ⊢
    have hks:ks=[]:=List.length_eq_zero_iff.1 h0
    subst hks
    simp only[outsA,List.append_nil]at hx ⊢
    refine pt_run ho k (hr k (by simp)) hcp.1 f hl i κ hi (fun j hj regs=>?_) regs
    have:=hx j hj regs
    rw[he]at this
    simpa [lenL] using this
   ·rw[if_neg h0]at hl ⊢
    have hs:=hl.head
    have hl1:=hl.tail.left
    have hl2:=hl.tail.right (codeG_len caps top k _ (hr k (by simp)))
    have hj3:=hl2.head
    have hl3:=hl2.tail
    simp only[List.length_cons,lenL]at he hj3
    have he':f+(lenG k+lenL ks)+2 * ks.length=e:=by rw[he];omega
    rw[he']at hj3
    have h1:PT p ⟨f+1,i,regs⟩ (costP t k i+((outs t k i).map fun j=>1+κ j).sum):=by
     refine pt_run ho k (hr k (by simp)) hcp.1 (f+1) hl1 i _ hi (fun j hj regs=>?_) regs
     refine PT.one ?_ (hx j (List.mem_append_left _ hj) regs)
     simp only[stepW,hj3]
     rfl
    have h2:PT p ⟨f+lenG k+2,i,regs⟩ (costPA t ks i+((outsA t ks i).map κ).sum):=by
     refine pt_alt ho ks (fun q hq=>hr q (by simp[hq])) hcp.2 (f+lenG k+2) e (fun e=>h0 (by rw[e];rfl)) (by rw[← he'];omega) ?_ i κ hi (fun j hj regs=>hx j (List.mem_append_right _ hj) regs) regs
     rwa [show f+lenG k+2=f+1+lenG k+1 by omega]at hl3 ⊢
    have h3:=PT.two (w:=⟨f,i,regs⟩) (by simp only[stepW,hs];rfl) h1 h2
    have hq:∀ {a b:Nat},a=b→PT p ⟨f,i,regs⟩ a→PT p ⟨f,i,regs⟩ b:=fun e h=>e ▸ h
    refine hq ?_ h3
    rw[sum_add,sum_one,List.map_append,List.sum_append]
    omega
theorem pt_hd (ho:Over t p):∀ l:List Re,(∀ k∈l,GoodC caps top k)→lpL l=true→match l with
  | []=>True
  | k::_=>∀(f:Nat),LiesAt p f (codeG k f)→∀(i:Nat) (κ:Nat→Nat),i≤t.length→(∀ j∈outs t k i,∀ regs,PT p ⟨f+lenG k,j,regs⟩ (κ j)) →
    ∀ regs,PT p ⟨f,i,regs⟩ (costP t k i+((outs t k i).map κ).sum)
 | [],_,_=>trivial
 | k::ks,hr,hcp=>fun f hl i κ hi hx=>by
   rw[lpL,Bool.and_eq_true]at hcp
   exact pt_run ho k (hr k (by simp)) hcp.1 f hl i κ hi hx
end
end
theorem repO_cost {f:Nat→List Nat} {g:Nat→Nat} {mn mx md:Int} {L:Nat} (hin:∀ i,i≤L→∀ j∈f i,i≤j∧j≤L) (hf:∀ i,i≤L→(f i).length≤g i):∀(n:Nat) (k:Int) (i:Nat),i≤L→(repO f mn mx md n k i).length≤repC f g mn mx n k i
 | 0,_,_,_=>Nat.zero_le _
 | n+1,k,i,hi=>by
   have h1:((f i).flatMap (repO f mn mx md n (k+1))).length≤((f i).map (repC f g mn mx n (k+1))).sum:=by
    rw[len_flatMap]
    exact sum_le _ fun j hj=>repO_cost hin hf n (k+1) j (hin i hi j hj).2
   rw[repO,repC]
   by_cases hk:k < mn
   ·rw[if_pos hk,if_pos (.inl hk)];omega
   ·rw[if_neg hk]
    by_cases hm:mx = -1∨k < mx
    ·rw[if_pos (show k < mn∨mx = -1∨k < mx from .inr hm)]
     simp only[if_pos hm]
     split
     ·simp only[List.length_cons];omega
     ·simp only[List.length_append,List.length_cons,List.length_nil];omega
    ·simp only[if_neg hm]
     split<;>simp
mutual
theorem outs_cost (t:List Int):∀(r:Re) (i:Nat),i≤t.length→(outs t r i).length≤costR t r i∧1≤costR t r i
 | .mk op set kids mn mx md n neg,i,hi=>by
   have hC:=outsC_cost t kids
   have hA:=outsA_cost t kids
   have hH:=outsH_cost t kids
   rw[outs,costR]
   by_cases h1:op=1
   ·subst h1
    simp only[if_true,show ¬(1:Int)=2 by decide,show ¬(1:Int)=3 by decide,show ¬(1:Int)=4 by decide,show ¬(1:Int)=5 by decide,if_false]
    refine⟨?_,Nat.le_refl _⟩
    split
    ·split<;>simp
    ·simp
   by_cases h2:op=2
   ·rw[if_neg h1,if_pos h2,if_pos h2]
    have:=hC i hi
    omega
   by_cases h3:op=3
   ·rw[if_neg h1,if_neg h2,if_pos h3,if_neg h2,if_pos h3]
    have:=hA i hi
    omega
   by_cases h4:op=4
   ·rw[if_neg h1,if_neg h2,if_neg h3,if_pos h4,if_neg h2,if_neg h3,if_pos h4]
    refine⟨repO_cost (outsH_in t kids) hH _ _ i hi,?_⟩
    obtain⟨q,hq⟩:∃ q,t.length+1 - i=q+1:=⟨t.length - i,by omega⟩
    rw[hq,repC];omega
   by_cases h5:op=5
   ·rw[if_neg h1,if_neg h2,if_neg h3,if_neg h4,if_pos h5,if_neg h2,if_neg h3,if_neg h4,if_pos h5]
    have:=hH i hi
    omega
   ·rw[if_neg h1,if_neg h2,if_neg h3,if_neg h4,if_neg h5,if_neg h2,if_neg h3,if_neg h4,if_neg h5]
    split
    ·split<;>simp
    ·simp
theorem outsC_cost (t:List Int):∀(l:List Re) (i:Nat),i≤t.length→(outsC t l i).length≤1+costRC t l i
 | [],i,hi=>by simp[outsC]
 | k::ks,i,hi=>by
   have h1:=(outs_cost t k i hi).1
   rw[outsC,costRC,len_flatMap]
   have h2:((outs t k i).map fun j=>(outsC t ks j).length).sum≤((outs t k i).map fun j=>1+costRC t ks j).sum:=sum_le _ fun j hj=>outsC_cost t ks j (outs_in t k i hi j hj).2
   rw[sum_add,sum_one]at h2
   omega
theorem outsA_cost (t:List Int):∀(l:List Re) (i:Nat),i≤t.length→(outsA t l i).length≤costRA t l i
 | [],i,hi=>by simp[outsA]
 | k::ks,i,hi=>by
   have h1:=(outs_cost t k i hi).1
   have h2:=outsA_cost t ks i hi
   rw[outsA,costRA,List.length_append]
   omega
theorem outsH_cost (t:List Int):∀(l:List Re) (i:Nat),i≤t.length→(outsH t l i).length≤costRH t l i
 | [],i,hi=>by simp[outsH]
 | k::ks,i,hi=>by
   rw[outsH,costRH]
   exact(outs_cost t k i hi).1
end
theorem repP_le {f:Nat→List Nat} {gP gR:Nat→Nat} {mn mx:Int} {L M:Nat} (hin:∀ i,i≤L→∀ j∈f i,i≤j∧j≤L) (hf:∀ i,i≤L→(f i).length≤gR i) (hg:∀ i,i≤L→gP i≤M * gR i) :
  ∀(n:Nat) (k:Int) (i:Nat),i≤L→repP f gP mn mx n k i≤(M+2) * repC f gR mn mx n k i
 | 0,_,_,_=>by simp[repP]
 | n+1,k,i,hi=>by
   have h1:((f i).map (repP f gP mn mx n (k+1))).sum≤(M+2) * ((f i).map (repC f gR mn mx n (k+1))).sum:=by
    rw[← sum_mul]
    exact sum_le _ fun j hj=>repP_le hin hf hg n (k+1) j (hin i hi j hj).2
   have h2:=hf i hi
   have h3:=hg i hi
   have h4:((f i).map fun j=>1+repP f gP mn mx n (k+1) j).sum=(f i).length+((f i).map (repP f gP mn mx n (k+1))).sum:=by rw[sum_add,sum_one]
   rw[repP,repC]
   generalize ((f i).map (repC f gR mn mx n (k+1))).sum=S at *
   generalize ((f i).map (repP f gP mn mx n (k+1))).sum=T at *
   generalize gR i=a at *
   generalize gP i=b at *
   rw[h4]
   have hx:(M+2) * (1+(a+S))=M+2+(M * a+2 * a)+(M+2) * S:=by rw[Nat.mul_add,Nat.mul_add,Nat.mul_one,Nat.add_mul M 2 a];omega
   split
   ·rw[if_pos (by omega),hx];omega
   ·split
    ·rw[if_pos (by omega),hx];omega
    ·split
     ·rw[if_pos (by omega),hx];omega
     ·exact Nat.zero_le _
mutual
theorem costP_le (t:List Int):∀(r:Re) (M:Nat),2 * r.depth≤M→∀ i,i≤t.length→costP t r i≤(M+1) * costR t r i
 | .mk op set kids mn mx md n neg,M,hM,i,hi=>by
   rw[Re.depth]at hM
   obtain⟨m,rfl⟩:∃ m,M=m+2:=⟨M - 2,by omega⟩
   have hC:=costPC_le t kids m (by omega)
   have hA:=costPA_le t kids m (by omega)
   have hH:=costPH_le t kids m (by omega)
   rw[costP,costR]
   by_cases h1:op=1∨op=11
   ·rw[if_pos h1,if_neg (by omega),if_neg (by omega),if_neg (by omega),if_neg (by omega)];omega
   by_cases h2:op=2
   ·rw[if_neg h1,if_pos h2,if_pos h2]
    have:=hC i hi
    have e:(m+2+1) * (1+costRC t kids i)=m+3+((m+1) * costRC t kids i+2 * costRC t kids i):=by rw[Nat.mul_add,Nat.mul_one,show m+2+1=(m+1)+2 by omega,Nat.add_mul (m+1) 2]
    omega
   by_cases h3:op=3
   ·rw[if_neg h1,if_neg h2,if_pos h3,if_neg h2,if_pos h3]
    have:=hA i hi
    have e:(m+2+1) * (1+costRA t kids i)=m+3+(m+3) * costRA t kids i:=by rw[Nat.mul_add,Nat.mul_one]
    omega
   by_cases h4:op=4
   ·rw[if_neg h1,if_neg h2,if_neg h3,if_pos h4,if_neg h2,if_neg h3,if_pos h4]
    have:=repP_le (mn:=mn) (mx:=mx) (M:=m+1) (outsH_in t kids) (outsH_cost t kids) hH (t.length+1 - i) 0 i hi
    rwa [show m+1+2=m+2+1 by omega]at this
   by_cases h5:op=5
   ·rw[if_neg h1,if_neg h2,if_neg h3,if_neg h4,if_pos h5,if_neg h2,if_neg h3,if_neg h4,if_pos h5]
    have h6:=hH i hi
    have h7:=outsH_cost t kids i hi
    have e:(m+2+1) * (1+costRH t kids i)=m+3+((m+1) * costRH t kids i+2 * costRH t kids i):=by rw[Nat.mul_add,Nat.mul_one,show m+2+1=(m+1)+2 by omega,Nat.add_mul (m+1) 2]
    omega
   ·rw[if_neg h1,if_neg h2,if_neg h3,if_neg h4,if_neg h5];exact Nat.zero_le _
theorem costPC_le (t:List Int):∀(l:List Re) (M:Nat),2 * Re.depthL l≤M→∀ i,i≤t.length→costPC t l i≤(M+1) * costRC t l i
 | [],M,_,i,hi=>by simp[costPC]
 | k::ks,M,hM,i,hi=>by
   rw[Re.depthL]at hM
   have h1:=costP_le t k M (by omega) i hi
   have h2:((outs t k i).map (costPC t ks)).sum≤(M+1) * ((outs t k i).map (costRC t ks)).sum:=by
    rw[← sum_mul]
    exact sum_le _ fun j hj=>costPC_le t ks M (by omega) j (outs_in t k i hi j hj).2
   rw[costPC,costRC,Nat.mul_add]
   omega
theorem costPA_le (t:List Int):∀(l:List Re) (M:Nat),2 * Re.depthL l≤M→∀ i,i≤t.length→costPA t l i≤(M+3) * costRA t l i
 | [],M,_,i,hi=>by simp[costPA]
 | k::ks,M,hM,i,hi=>by
   rw[Re.depthL]at hM
   have h1:=costP_le t k M (by omega) i hi
   have h2:=costPA_le t ks M (by omega) i hi
   obtain⟨h3,h4⟩:=outs_cost t k i hi
   have e:(M+3) * (costR t k i+costRA t ks i)=(M+1) * costR t k i+2 * costR t k i+(M+3) * costRA t ks i:=by rw[Nat.mul_add,show M+3=(M+1)+2 by omega,Nat.add_mul (M+1) 2 (costR t k i)]
   rw[costPA,costRA,e]
   split<;>omega
theorem costPH_le (t:List Int):∀(l:List Re) (M:Nat),2 * Re.depthL l≤M→∀ i,i≤t.length→costPH t l i≤(M+1) * costRH t l i
 | [],M,_,i,hi=>by simp[costPH]
 | k::ks,M,hM,i,hi=>by
   rw[Re.depthL]at hM
   rw[costPH,costRH]
   exact costP_le t k M (by omega) i hi
end
theorem prog_ends {caps top:Int} {t:List Int} {g:Prg} {r:Re} (hg:g.ins=codeG r 0++[⟨0,0,0,0,[]⟩]) (hr:GoodC caps top r) (hl:lpG r=true) (hd:r.depth≤24) {at_:Nat} (ha:at_≤t.length) (hc:costR t r at_≤3000) (regs:List Int) (fuel:Nat) (hf:200000≤fuel) :
  ∃ out,runW (progOf g t) (-1) fuel [⟨0,at_,regs⟩] []=some out:=by
 have hlies:LiesAt (progOf g t) 0 (codeG r 0++[⟨0,0,0,0,[]⟩]):=fun j x h=>by
  show g.ins[0+j]?=some x
  rw[hg,Nat.zero_add];exact h
 have hend:=(hlies.right (codeG_len caps top r 0 hr)).head
 have hp:=pt_run (caps:=caps) (top:=top) (t:=t) (p:=progOf g t) ⟨fun _ _=>rfl,fun _ _=>rfl⟩ r hr hl 0 hlies.left at_ (fun _=>1) ha (fun j hj regs=>PT.done (by simp only[stepW,hend];rfl)) regs
 rw[sum_one]at hp
 have h1:=costP_le t r 48 (by omega) at_ ha
 have h2:=(outs_cost t r at_ ha).1
 obtain⟨out,e⟩:=hp (fuel - (costP t r at_+(outs t r at_).length)) [] []
 refine⟨out,?_⟩
 rw[show costP t r at_+(outs t r at_).length+(fuel - (costP t r at_+(outs t r at_).length))=fuel by omega]at e
 rw[e]
 exact runW_nil
theorem spans_ok {l:List (Int×Int)} {runes:Bool} (h:spansG l (topI runes)=true):refSpans l=0∧lastOk l (if runes then 1114111 else 255)=true:=by
 simp only[spansG,Bool.and_eq_true,decide_eq_true_eq,Bool.not_eq_true']at h
 have ht:=topI_le runes
 have hg:∀ k,k < l.length→badS l (topI runes) k=false:=fun k hk=>by
  have:=List.any_eq_false.1 h.2 k (List.mem_range.2 hk)
  simpa using this
 refine⟨?_,?_⟩
 ·rw[refSpans_good,if_neg (by omega)]
  intro k hk
  have hb:=hg k hk
  obtain⟨p,hp⟩:∃ p,l[k]?=some p:=⟨_,List.getElem?_eq_getElem hk⟩
  simp only[badS,hp,Bool.or_eq_false_iff,decide_eq_false_iff_not]at hb
  simp only[badAt,hp]
  have hd:decide (0≤p.1∧p.1≤p.2∧p.2≤1114111)=true:=by rw[decide_eq_true_eq];omega
  rw[hd]
  cases k with
  | zero=>rfl
  | succ k=>
    obtain⟨q,hq⟩:∃ q,l[k]?=some q:=⟨_,List.getElem?_eq_getElem (by omega)⟩
    have:=hb.2
    simp only[hq,decide_eq_false_iff_not]at this ⊢
    have hd2:decide (p.1 - q.2 < 2)=false:=by rw[decide_eq_false_iff_not];omega
    rw[hd2];rfl
 ·unfold lastOk
  split
  ·rename_i p hp
   have hk:=(List.getElem?_eq_some_iff.1 hp).1
   have hb:=hg _ hk
   simp only[badS,hp,Bool.or_eq_false_iff,decide_eq_false_iff_not]at hb
   have:=hb.1.2
   rw[decide_eq_true_eq]
   unfold topI at this
   omega
  ·rfl
def OkL (N:Nat) (caps:Int) (runes:Bool) (l:List Ins):Prop:=∀ i∈l,okIns N caps runes i=true
theorem OkL.app {N:Nat} {caps:Int} {runes:Bool} {a b:List Ins} (ha:OkL N caps runes a) (hb:OkL N caps runes b):OkL N caps runes (a++b):=fun i hi=>by
 rcases List.mem_append.1 hi with h|h
 ·exact ha i h
 ·exact hb i h
theorem OkL.cons {N:Nat} {caps:Int} {runes:Bool} {x:Ins} {b:List Ins} (ha:okIns N caps runes x=true) (hb:OkL N caps runes b):OkL N caps runes (x::b):=fun i hi=>by
 rcases List.mem_cons.1 hi with rfl|h
 ·exact ha
 ·exact hb i h
theorem OkL.nil {N:Nat} {caps:Int} {runes:Bool}:OkL N caps runes []:=fun i hi=>by simp at hi
theorem OkL.flat {α:Type} {N:Nat} {caps:Int} {runes:Bool} {l:List α} {g:α→List Ins} (h:∀ x∈l,OkL N caps runes (g x)):OkL N caps runes (l.flatMap g):=fun i hi=>by
 obtain⟨x,hx,hi⟩:=List.mem_flatMap.1 hi
 exact h x hx i hi
theorem ok_split {N:Nat} {caps:Int} {runes:Bool} {md:Int} {a b:Nat} (ha:a < N) (hb:b < N):okIns N caps runes (insSplit md (a:Int) (b:Int))=true:=by
 unfold insSplit
 split<;>simp[okIns,ha,hb]
theorem ok_jump {N:Nat} {caps:Int} {runes:Bool} {a:Nat} (ha:a < N):okIns N caps runes ⟨3,(a:Int),0,0,[]⟩=true:=by simp[okIns,ha]
mutual
theorem code_ok {caps:Int} {runes:Bool} {N:Nat}:∀ r:Re,GoodC caps (topI runes) r→∀ f,f+lenG r < N→OkL N caps runes (codeG r f)
 | .mk op set kids mn mx md n neg,h,f,hN=>by
   have hC:=codeCat_ok (N:=N) kids h.kids
   have hA:=codeAlt_ok (N:=N) kids h.kids
   have hH:=codeHd_ok (N:=N) kids h.kids
   obtain⟨hk,hkd,hrp,hcp,_⟩:=whole_facts h.whole
   have hform:formedG caps (topI runes) (.mk op set kids mn mx md n neg)=true:=by
    have:=h.whole
    rw[wholeG,Bool.and_eq_true]at this
    exact this.1
   rw[codeG]
   rw[lenG]at hN
   rcases h.op with rfl|rfl|rfl|rfl|rfl|rfl|rfl
   ·simp;exact OkL.nil
   ·simp only[if_true]
    have hs:spansG set (topI runes)=true:=by
     simp only[formedG,Bool.and_eq_true]at hform
     simpa using hform.1.1.1.2
    obtain⟨s1,s2⟩:=spans_ok hs
    refine OkL.cons ?_ OkL.nil
    simp[okIns,s1,s2]
   ·simp only[show ¬(2:Int)=1 by decide,show ¬(2:Int)=11 by decide,if_false,if_true]
    exact hC f (by simpa using hN)
   ·simp only[show ¬(3:Int)=1 by decide,show ¬(3:Int)=11 by decide,show ¬(3:Int)=2 by decide,if_false,if_true]
    have h2:2≤kids.length:=by simpa [kidsG] using hkd
    exact hA f (by omega) (by simpa using hN)
   ·obtain⟨k,rfl⟩:∃ k,kids=[k]:=List.length_eq_one_iff.1 (by simpa [kidsG] using hkd)
    have hr:=hrp rfl
    simp only[repG,Bool.and_eq_true,Bool.or_eq_true,decide_eq_true_eq,beq_iff_eq]at hr
    simp only[show ¬(4:Int)=1 by decide,show ¬(4:Int)=11 by decide,show ¬(4:Int)=2 by decide,show ¬(4:Int)=3 by decide,show ¬(4:Int)=5 by decide,if_false,if_true,or_self,lenL,codeHd,Nat.add_zero]at hN ⊢
    simp only[codeHd]at hH
    generalize hL:lenG k=L at *
    by_cases hm:mx = -1
    ·simp only[if_pos hm]at hN ⊢
     rw[Nat.succ_mul]at hN
     refine OkL.app (OkL.flat fun i hi=>hH _ ?_) (OkL.cons (ok_split (by omega) (by omega)) (OkL.app (hH _ (by rw[lenL,lenL,hL];omega)) (OkL.cons (ok_jump (by omega)) OkL.nil)))
     have:=Nat.mul_le_mul_right L (show i+1≤mn.toNat by have:=List.mem_range.1 hi;omega)
     rw[Nat.succ_mul]at this
     rw[lenL,lenL,hL];omega
    ·simp only[if_neg hm]at hN ⊢
     obtain⟨e,he⟩:∃ e,mx.toNat=mn.toNat+e:=⟨mx.toNat - mn.toNat,by omega⟩
     rw[he,Nat.add_sub_cancel_left,Nat.add_mul]at hN ⊢
     refine OkL.app (OkL.flat fun i hi=>hH _ ?_) (OkL.flat fun j hj=>?_)
     ·have:=Nat.mul_le_mul_right L (show i+1≤mn.toNat by have:=List.mem_range.1 hi;omega)
      rw[Nat.succ_mul]at this
      rw[lenL,lenL,hL];omega
     ·have h1:=List.mem_range.1 hj
      have:=Nat.mul_le_mul_right L (show j+1≤e by omega)
      rw[Nat.succ_mul]at this
      have h2:j * (L+1)=j * L+j:=by rw[Nat.mul_add,Nat.mul_one]
      exact OkL.cons (ok_split (by omega) (by omega)) (hH _ (by rw[lenL,lenL,hL];omega))
   ·obtain⟨k,rfl⟩:∃ k,kids=[k]:=List.length_eq_one_iff.1 (by simpa [kidsG] using hkd)
    simp only[show ¬(5:Int)=1 by decide,show ¬(5:Int)=11 by decide,show ¬(5:Int)=2 by decide,show ¬(5:Int)=3 by decide,if_false,if_true,or_self]at hN ⊢
    have hc:=hcp (.inl rfl)
    refine OkL.cons ?_ (OkL.app (hH _ (by omega)) (OkL.cons ?_ OkL.nil))
    ·simp[okIns];omega
    ·simp[okIns];omega
   ·simp only[show ¬(11:Int)=1 by decide,if_false,if_true]
    have hs:0≤n∧n≤5:=by
     simp only[formedG,Bool.and_eq_true]at hform
     simpa using hform.1.2
    refine OkL.cons ?_ OkL.nil
    simp[okIns,hs]
theorem codeCat_ok {caps:Int} {runes:Bool} {N:Nat}:∀ l:List Re,(∀ k∈l,GoodC caps (topI runes) k)→∀ f,f+lenL l < N→OkL N caps runes (codeCat l f)
 | [],_,_,_=>OkL.nil
 | k::ks,h,f,hN=>by
   rw[lenL]at hN
   rw[codeCat]
   exact OkL.app (code_ok k (h k (by simp)) f (by omega)) (codeCat_ok ks (fun q hq=>h q (by simp[hq])) _ (by omega))
theorem codeAlt_ok {caps:Int} {runes:Bool} {N:Nat}:∀ l:List Re,(∀ k∈l,GoodC caps (topI runes) k)→∀ f,1≤l.length→f+(lenL l+2 * (l.length - 1)) < N→OkL N caps runes (codeAlt l f)
 | [],_,_,_,_=>OkL.nil
 | k::ks,h,f,_,hN=>by
   rw[codeAlt]
   have hk:=fun f=>code_ok (N:=N) k (h k (by simp)) f
   split
   ·rename_i h0
    have:ks=[]:=List.length_eq_zero_iff.1 h0
    subst this
    exact hk f (by simp[lenL]at hN;omega)
   ·rename_i h0
    have hs:=codeAlt_ok (N:=N) ks (fun q hq=>h q (by simp[hq])) (f+lenG k+2) (by omega)
    simp only[lenL,List.length_cons]at hN
    refine OkL.cons ?_ (OkL.app (hk _ (by omega)) (OkL.cons (ok_jump (by simp only[lenL];omega)) (hs (by omega))))
    have:=ok_split (N:=N) (caps:=caps) (runes:=runes) (md:=0) (a:=f+1) (b:=f+lenG k+2) (by omega) (by omega)
    exact this
theorem codeHd_ok {caps:Int} {runes:Bool} {N:Nat}:∀ l:List Re,(∀ k∈l,GoodC caps (topI runes) k)→∀ f,f+lenL l < N→OkL N caps runes (codeHd l f)
 | [],_,_,_=>OkL.nil
 | k::ks,h,f,hN=>by
   rw[lenL]at hN
   rw[codeHd]
   exact code_ok k (h k (by simp)) f (by omega)
end
abbrev prgOf (re:Re) (caps:Int) (runes:Bool):Prg:=⟨codeG re 0++[⟨0,0,0,0,[]⟩],caps,runes⟩
theorem prg_valid {re:Re} {caps:Int} {runes:Bool} (hv:validP ⟨re,caps,runes⟩=0) (hc:codable re=true) (hl:lenG re+1≤8192):validG (prgOf re caps runes)=0∧PrgB (prgOf re caps runes):=by
 obtain⟨hsz,hdp,hc0,hc9,hwg⟩:=valid_facts hv
 simp only at hc0 hc9 hwg
 have hg:GoodC caps (topI runes) re:=⟨hwg,hc⟩
 have hlen:=codeG_len caps (topI runes) re 0 hg
 have hok:OkL (lenG re+1) caps runes (codeG re 0++[⟨0,0,0,0,[]⟩]):=OkL.app (code_ok re hg 0 (by omega)) (OkL.cons (by simp[okIns]) OkL.nil)
 have hn:(codeG re 0++[(⟨0,0,0,0,[]⟩:Ins)]).length=lenG re+1:=by simp[hlen]
 have hn':(prgOf re caps runes).ins.length=lenG re+1:=hn
 have hb:(prgOf re caps runes).ins.length≤1000000∧∀ i∈(prgOf re caps runes).ins,i.set.length≤1000000:=by
  refine⟨by omega,fun i hi=>?_⟩
  have:=hok i hi
  simp only[okIns,Bool.and_eq_true]at this
  obtain⟨⟨⟨⟨h1,_⟩,_⟩,_⟩,h2⟩:=this
  by_cases e:i.op=1
  ·have h3:refSpans i.set=0∧lastOk i.set (if runes=true then 1114111 else 255)=true:=by simpa [e] using h2
   have this:=h3.1
   unfold refSpans at this
   split at this
   ·cases this
   ·split at this
    ·cases this
    ·omega
  ·have:i.set.length=0:=by simpa [e] using h1
   omega
 refine⟨?_,hb⟩
 ·unfold validG
  simp only[hn]
  rw[if_neg (by omega),if_neg (by omega),if_pos]
  rw[Bool.and_eq_true]
  refine⟨List.all_eq_true.2 hok,?_⟩
  simp[lastGood]
def Way.same (n:Nat) (a b:Way):Prop:=a.pc=b.pc∧a.at_=b.at_∧a.regs.take (2 * n)=b.regs.take (2 * n)
def sameL (n:Nat):List Way→List Way→Prop
 | [],[]=>True
 | a::l,b::m=>a.same n b∧sameL n l m
 | _,_=>False
theorem sameL_append {n:Nat}:∀ {a b c d:List Way},sameL n a b→sameL n c d→sameL n (a++c) (b++d)
 | [],[],_,_,_,h=>h
 | _::_,_::_,_,_,h1,h2=>⟨h1.1,sameL_append h1.2 h2⟩
 | [],_::_,_,_,h,_=>h.elim
 | _::_,[],_,_,h,_=>h.elim
theorem sameL_len {n:Nat}:∀ {a b:List Way},sameL n a b→a.length=b.length
 | [],[],_=>rfl
 | _::_,_::_,h=>by simp[sameL_len h.2]
 | [],_::_,h=>h.elim
 | _::_,[],h=>h.elim
theorem step_same {p:Prog1} {n:Nat} {a b:Way} (h:a.same n b):(stepW p a=.done∧stepW p b=.done)∨∃ l m,stepW p a=.ways l∧stepW p b=.ways m∧sameL n l m:=by
 obtain⟨h1,h2,h3⟩:=h
 unfold stepW
 rw[h1,h2]
 cases p.ins b.pc with
 | none=>exact .inr ⟨[],[],rfl,rfl,trivial⟩
 | some i=>
   simp only[]
   split
   ·exact .inl ⟨rfl,rfl⟩
   ·refine .inr ?_
    split
    ·split
     ·exact⟨_,_,rfl,rfl,⟨rfl,rfl,h3⟩,trivial⟩
     ·exact⟨_,_,rfl,rfl,trivial⟩
    ·split
     ·exact⟨_,_,rfl,rfl,⟨rfl,rfl,h3⟩,⟨rfl,rfl,h3⟩,trivial⟩
     ·split
      ·exact⟨_,_,rfl,rfl,⟨rfl,rfl,h3⟩,trivial⟩
      ·split
       ·refine⟨_,_,rfl,rfl,⟨rfl,rfl,?_⟩,trivial⟩
        show (a.regs.set i.n.toNat _).take _=(b.regs.set i.n.toNat _).take _
        rw[List.take_set,List.take_set,h3]
       ·split
        ·exact⟨_,_,rfl,rfl,⟨rfl,rfl,h3⟩,trivial⟩
        ·exact⟨_,_,rfl,rfl,trivial⟩
theorem run_same {p:Prog1} {n:Nat} {most:Int}:∀(fuel:Nat) (todo todo' out out':List Way),sameL n todo todo'→sameL n out out' →
  (runW p most fuel todo out=none∧runW p most fuel todo' out' = none)∨∃ o o',runW p most fuel todo out=some o∧runW p most fuel todo' out' = some o'∧sameL n o o'
 | fuel,[],[],out,out',_,h=>.inr ⟨out,out',by unfold runW;rfl,by unfold runW;rfl,h⟩
 | _,[],_::_,_,_,h,_=>h.elim
 | _,_::_,[],_,_,h,_=>h.elim
 | 0,w::todo,w'::todo',out,out',h,h'=>by
   have hl:=sameL_len h'
   by_cases ho:(out.length:Int)=most
   ·exact .inr ⟨out,out',runW_full ho,runW_full (by rw[← hl];exact ho),h'⟩
   ·exact .inl ⟨runW_zero ho,runW_zero (by rw[← hl];exact ho)⟩
 | fuel+1,w::todo,w'::todo',out,out',h,h'=>by
   have hl:=sameL_len h'
   by_cases ho:(out.length:Int)=most
   ·exact .inr ⟨out,out',runW_full ho,runW_full (by rw[← hl];exact ho),h'⟩
   ·rw[runW_step ho,runW_step (by rw[← hl];exact ho)]
    rcases step_same (p:=p) h.1 with ⟨h1,h2⟩|⟨l,m,h1,h2,h3⟩
    ·rw[h1,h2]
     exact run_same fuel todo todo' _ _ h.2 (sameL_append h' ⟨h.1,trivial⟩)
    ·rw[h1,h2]
     exact run_same fuel _ _ _ _ (sameL_append h3 h.2) h'
theorem caps_same {n:Nat} {a b:Way} (pos:Int) (h:a.same n b):matOf pos n a=matOf pos n b:=by
 obtain⟨h1,h2,h3⟩:=h
 have hg:∀ k,k < 2 * n→a.regs.getD k 0=b.regs.getD k 0:=fun k hk=>by
  have e:∀ l:List Int,(l.take (2 * n))[k]?=l[k]?:=fun l=>by rw[List.getElem?_take,if_pos hk]
  rw[List.getD_eq_getElem?_getD,List.getD_eq_getElem?_getD,← e a.regs,← e b.regs,h3]
 unfold matOf capsN
 rw[h2]
 congr 2
 apply List.map_congr_left
 intro k hk
 have:=List.mem_range.1 hk
 rw[hg (2 * k) (by omega),hg (2 * k+1) (by omega)]
theorem mats_same {n:Nat} (pos:Int):∀ {l m:List Way},sameL n l m→l.map (matOf pos n)=m.map (matOf pos n)
 | [],[],_=>rfl
 | _::_,_::_,h=>by simp[caps_same pos h.1,mats_same pos h.2]
 | [],_::_,h=>h.elim
 | _::_,[],h=>h.elim
def matsOf (pos:Int) (n:Nat) (o:Option (List Way)):Option (List M3):=o.map fun l=>l.map (matOf pos n)
theorem matsOf_same {p:Prog1} {n:Nat} {most:Int} (pos:Int) (fuel:Nat) (w w':Way) (h:w.same n w'):matsOf pos n (runW p most fuel [w] [])=matsOf pos n (runW p most fuel [w'] []):=by
 rcases run_same (p:=p) (n:=n) (most:=most) fuel [w] [w'] [] [] ⟨h,trivial⟩ trivial with ⟨h1,h2⟩|⟨o,o',h1,h2,h3⟩
 ·rw[h1,h2]
 ·rw[h1,h2]
  simp only[matsOf,Option.map_some,mats_same pos h3]
theorem run_front {p:Prog1} {most:Int}:∀(fuel:Nat) (todo out o:List Way),runW p most fuel todo out=some o→out <+: o∧o.length≤out.length+fuel
 | fuel,[],out,o,h=>by
   unfold runW at h
   simp at h;subst h
   exact⟨List.prefix_refl _,by omega⟩
 | 0,w::todo,out,o,h=>by
   by_cases ho:(out.length:Int)=most
   ·rw[runW_full ho]at h;cases h;exact⟨List.prefix_refl _,by omega⟩
   ·rw[runW_zero ho]at h;cases h
 | fuel+1,w::todo,out,o,h=>by
   by_cases ho:(out.length:Int)=most
   ·rw[runW_full ho]at h;cases h;exact⟨List.prefix_refl _,by omega⟩
   ·rw[runW_step ho]at h
    cases hs:stepW p w with
    | done=>
      rw[hs]at h
      obtain⟨h1,h2⟩:=run_front fuel _ _ _ h
      exact⟨(List.prefix_append _ _).trans h1,by simp at h2;omega⟩
    | ways l=>
      rw[hs]at h
      obtain⟨h1,h2⟩:=run_front fuel _ _ _ h
      exact⟨h1,by omega⟩
end Go.Ev
namespace Go.Ev
attribute [local go_sem] eq_self bindW_some bindW_map bindW_ite bindW_iteN W_seq W_region W_draw W_cond W_condK W_ret W_skip W_exit W_scope W_label blockK_norm blockK_ret blockK_exit WO_nil WO_cons WO_guard WD_nil WD_cons WD_guard guardV guardW_boolT guardW_boolF guardW_tup fpL_some fpL_none footprint thenK_norm thenK_ret thenK_exit put_some put_none ev_tmp ev_con ev_func ofK_int ofK_bool ofK_str ofK_nil evOp evBuiltin evCall evLen evAppend getElem_16 getElem_4 List.length_cons List.length_nil List.cons_append List.nil_append List.append_nil if_false if_true Bool.false_eq_true Bool.true_eq_false Option.map_some Option.map_none List.map_cons List.map_nil evBinOp evBin evUn asB_bool splitB_decide splitB_true splitB_false splitB_beq splitB_bne splitB_not endK_ret endK_norm List.getElem?_cons_zero List.getElem?_cons_succ evResults evResult packRes retK_norm retK_ret cellsAt mkVal evFieldAddr evField evIndexAddr evPart evStore evBuild evBuildSlice fillC fillE evSlice evMakeSlice evConvert getRow AV.cells List.head?_cons List.drop_zero List.drop_succ_cons List.take_zero List.take_succ_cons List.drop_nil List.take_nil List.all_cons List.all_nil AV.ok Bool.and_self Bool.and_true Bool.true_and and_self and_true true_and Nat.zero_add Nat.add_zero setCells splice pairsOk pairsX altW_none altW_some cfg_al WI_nil WI_cons FP.apart heapEq_refl sameAt_refl Bool.or_true Bool.true_or Bool.or_false srcElems elemsOf mutDst indDst roundK_norm roundK_exit roundK_ret List.length_map List.getElem?_map Int.toNat_natCast decide_true decide_false Bool.not_true Bool.not_false List.set set_0 set_1 set_2 set_3 set_4 look_hit look lookD_hit lookD_cons lookD_nil ins_hit ins upd_hit upd rem1_hit rem1 dropT dropSt_eq initT cfg_dd cfg_bd cfg_ra actL_nil actL_cons act1 updT_hit updT frzB retE_norm retE_ret bndO bnd evEq eqCells not_false_eq_true not_true_eq_false toList_some Array.size_empty List.length_append List.map_append endE_norm endE_ret head_take1 List.contains_nil List.contains_cons Bool.or_self dlt_t dlt_f dle_t dle_f dgt_t dgt_f dge_t dge_f beq_t beq_f bne_t bne_f lt_T le_T nle_T nle_F Go.IntWalk.i64_in Go.IntWalk.i64_quo Go.IntWalk.rem_in ty0 ty3 ty4
section
attribute [local go_sem] W_block tySzE List.head?_drop Nat.mul_one sameAt_zero sameAt_two sameAt_three sameAt_four sameAt_five room_ok ty22 ty23 ty33 ty35 ty39 ty41 ty104 ty108
open Go.Proofs Go.RowKit Go.IntWalk
set_option maxRecDepth 100000
set_option maxHeartbeats 4000000
theorem tab_get {l:List Int} {k:Nat} (h:k < l.length):(l.map I)[k]?=some (I (l.getD k 0)):=by
 rw[List.getElem?_map,List.getElem?_eq_getElem h,List.getD_eq_getElem?_getD,List.getElem?_eq_getElem h];rfl
def symI (n:Int) (runes:Bool):Int:=
 if runes=true∧n / 14 % 4=0 then([127,128,2047,2048,55295,57344,65535,65536,1114111,8364]:List Int).getD (n / 56 % 10).toNat 0
 else([97,98,99,97,90,48,95,10,32,98,228,255,0,128]:List Int).getD (n % 14).toNat 0
def textI (l:List Int) (most:Nat) (runes:Bool):List Int:=(l.take most).map fun x=>symI (aroundI x 1048576) runes
theorem f22 (l:List Int) (hl:∀ x∈l,In64 x) (most:Nat) (hm:most≤1000) (runes:Bool) (H:List MB) :
  call Try.prog pol1 22 [.sl false (l.map I),I most,.bool runes] H=some (.sl false ((textI l most runes).map I),H):=by
 refine call_run Try.func22 rfl rfl rfl rfl rfl rfl (fun _=>rfl) (by simp[AV.plain,AV.plainL,plain_ints,plain_span,plain_ins,plain_prg]) (by simp[AV.plain,AV.plainL,plain_ints,plain_span,plain_ins,plain_prg]) ?_ H
 simp +contextual (disch:=omega) only[Try.f22,dd22,go_sem,↓reduceIte,List.reduceReplicate,Nat.reduceAdd,Nat.reduceSub,reduceCtorEq,Nat.reduceLeDiff,Nat.reduceMul,Nat.reduceLT,Nat.reduceEqDiff,Int.reduceBNe,Int.reduceBEq,Int.reduceEq,Int.reduceLT,Int.reduceLE,Int.reduceGT,Int.reduceGE,mu22,Nat.reduceBEq,↓wrap_up,↓wrap_down,↓wrap_pred,↓wrap_sub_nat,Int.reduceToNat]
 refine W_count (M:=(mskOf (pol1.mask 22) (pol1.gc 22) (pol1.acts 22) 0 3)) rfl (min l.length most) (fun i=>(⟨50,[(8,I i),(7,.ms 0 1 i 0 i),(2,.bool runes),(1,I most),(0,.sl false (l.map I))],[.row 1 ((textI (l.take i) most runes).map I) 0]⟩:St)) (fun i=>True) ?_ ?_ trivial _ (by first|rfl|(refine prep_to (n:=1) (m:=⟨some [8,7,2,1,0],some 1,[]⟩) rfl rfl ?_ ?_ ?_<;>first|rfl|(simp[keepT,AV.underL,AV.under,MB.under,underL_plain,under_plain,underL_append,plain_ints,plain_span,plain_ins,plain_prg,-List.map_take,-List.map_replicate,-List.map_set,textI];done)|(simp[keepT,AV.underL,AV.under,MB.under,underL_plain,under_plain,underL_append,plain_ints,plain_span,plain_ins,plain_prg,-List.map_take,-List.map_replicate,-List.map_set,textI];omega)))
 ·intro i hi _
  obtain⟨p,hp⟩:∃ p,l[i]?=some p:=⟨_,List.getElem?_eq_getElem (by omega)⟩
  have h12:=f12 p 1048576 (hl p (List.mem_of_getElem? hp)) (by omega)
  have hlt:=around_lt (n:=p) (m:=1048576) (by omega)
  have hlen:(textI (l.take i) most runes).length=i:=by simp[textI];omega
  have hnx:textI (l.take (i+1)) most runes=textI (l.take i) most runes++[symI (aroundI p 1048576) runes]:=by
   unfold textI
   rw[List.take_of_length_le (l:=l.take (i+1)) (by simp;omega),List.take_of_length_le (l:=l.take i) (by simp;omega),List.take_add_one,hp]
   simp
  rw[hnx]
  generalize textI (l.take i) most runes=xs at *
  generalize hq:aroundI p 1048576=q at *
  have htk:=take_map_len (f:=I) hlen
  have h14:([I 97,I 98,I 99,I 97,I 90,I 48,I 95,I 10,I 32,I 98,I 228,I 255,I 0,I 128]:List AV)[(q % 14).toNat]?=some (I (([97,98,99,97,90,48,95,10,32,98,228,255,0,128]:List Int).getD (q % 14).toNat 0)):=tab_get (l:=([97,98,99,97,90,48,95,10,32,98,228,255,0,128]:List Int)) (by simp only[List.length_cons,List.length_nil];omega)
  have h10:([I 127,I 128,I 2047,I 2048,I 55295,I 57344,I 65535,I 65536,I 1114111,I 8364]:List AV)[(q / 56 % 10).toNat]?=some (I (([127,128,2047,2048,55295,57344,65535,65536,1114111,8364]:List Int).getD (q / 56 % 10).toNat 0)):=tab_get (l:=([127,128,2047,2048,55295,57344,65535,65536,1114111,8364]:List Int)) (by simp only[List.length_cons,List.length_nil];omega)
  by_cases hrun:runes=true∧q / 14 % 4=0
  ·obtain⟨rfl,h4⟩:=hrun
   simp +contextual (disch:=omega) only[Try.f22,dd22,go_sem,↓reduceIte,List.reduceReplicate,Nat.reduceAdd,Nat.reduceSub,reduceCtorEq,Nat.reduceLeDiff,Nat.reduceMul,Nat.reduceLT,Nat.reduceEqDiff,Int.reduceBNe,Int.reduceBEq,Int.reduceEq,Int.reduceLT,Int.reduceLE,Int.reduceGT,Int.reduceGE,mu22,Nat.reduceBEq,↓wrap_up,↓wrap_down,↓wrap_pred,↓wrap_sub_nat,Int.reduceToNat,hp,hlen,htk,h12,h14,h10,h4]
   rw[show symI q true=([127,128,2047,2048,55295,57344,65535,65536,1114111,8364]:List Int).getD (q / 56 % 10).toNat 0 from if_pos ⟨rfl,h4⟩]
   exact(by first|rfl|(refine prep_to (n:=1) (m:=⟨some [8,7,2,1,0],some 1,[]⟩) rfl rfl ?_ ?_ ?_<;>first|rfl|(simp[keepT,AV.underL,AV.under,MB.under,underL_plain,under_plain,underL_append,plain_ints,plain_span,plain_ins,plain_prg,-List.map_take,-List.map_replicate,-List.map_set];done)|(simp[keepT,AV.underL,AV.under,MB.under,underL_plain,under_plain,underL_append,plain_ints,plain_span,plain_ins,plain_prg,-List.map_take,-List.map_replicate,-List.map_set];omega)))
  ·rw[show symI q runes=([97,98,99,97,90,48,95,10,32,98,228,255,0,128]:List Int).getD (q % 14).toNat 0 from if_neg hrun]
   cases runes
   ·simp +contextual (disch:=omega) only[Try.f22,dd22,go_sem,↓reduceIte,List.reduceReplicate,Nat.reduceAdd,Nat.reduceSub,reduceCtorEq,Nat.reduceLeDiff,Nat.reduceMul,Nat.reduceLT,Nat.reduceEqDiff,Int.reduceBNe,Int.reduceBEq,Int.reduceEq,Int.reduceLT,Int.reduceLE,Int.reduceGT,Int.reduceGE,mu22,Nat.reduceBEq,↓wrap_up,↓wrap_down,↓wrap_pred,↓wrap_sub_nat,Int.reduceToNat,hp,hlen,htk,h12,h14]
    exact(by first|rfl|(refine prep_to (n:=1) (m:=⟨some [8,7,2,1,0],some 1,[]⟩) rfl rfl ?_ ?_ ?_<;>first|rfl|(simp[keepT,AV.underL,AV.under,MB.under,underL_plain,under_plain,underL_append,plain_ints,plain_span,plain_ins,plain_prg,-List.map_take,-List.map_replicate,-List.map_set];done)|(simp[keepT,AV.underL,AV.under,MB.under,underL_plain,under_plain,underL_append,plain_ints,plain_span,plain_ins,plain_prg,-List.map_take,-List.map_replicate,-List.map_set];omega)))
   ·have h4:¬ q / 14 % 4=0:=fun h=>hrun ⟨rfl,h⟩
    simp +contextual (disch:=omega) only[Try.f22,dd22,go_sem,↓reduceIte,List.reduceReplicate,Nat.reduceAdd,Nat.reduceSub,reduceCtorEq,Nat.reduceLeDiff,Nat.reduceMul,Nat.reduceLT,Nat.reduceEqDiff,Int.reduceBNe,Int.reduceBEq,Int.reduceEq,Int.reduceLT,Int.reduceLE,Int.reduceGT,Int.reduceGE,mu22,Nat.reduceBEq,↓wrap_up,↓wrap_down,↓wrap_pred,↓wrap_sub_nat,Int.reduceToNat,hp,hlen,htk,h12,h14,h4]
    exact(by first|rfl|(refine prep_to (n:=1) (m:=⟨some [8,7,2,1,0],some 1,[]⟩) rfl rfl ?_ ?_ ?_<;>first|rfl|(simp[keepT,AV.underL,AV.under,MB.under,underL_plain,under_plain,underL_append,plain_ints,plain_span,plain_ins,plain_prg,-List.map_take,-List.map_replicate,-List.map_set];done)|(simp[keepT,AV.underL,AV.under,MB.under,underL_plain,under_plain,underL_append,plain_ints,plain_span,plain_ins,plain_prg,-List.map_take,-List.map_replicate,-List.map_set];omega)))
 ·intro _
  have hall:textI (l.take (min l.length most)) most runes=textI l most runes:=by
   unfold textI
   rw[List.take_take]
   congr 1
   rcases Nat.le_total l.length most with h|h
   ·rw[List.take_of_length_le (by omega),List.take_of_length_le h]
   ·rw[show min most (min l.length most)=most by omega]
  have hlen:(textI l most runes).length=min l.length most:=by simp[textI];omega
  rw[hall]
  simp +contextual (disch:=omega) only[Try.f22,dd22,go_sem,↓reduceIte,List.reduceReplicate,Nat.reduceAdd,Nat.reduceSub,reduceCtorEq,Nat.reduceLeDiff,Nat.reduceMul,Nat.reduceLT,Nat.reduceEqDiff,Int.reduceBNe,Int.reduceBEq,Int.reduceEq,Int.reduceLT,Int.reduceLE,Int.reduceGT,Int.reduceGE,mu22,Nat.reduceBEq,↓wrap_up,↓wrap_down,↓wrap_pred,↓wrap_sub_nat,Int.reduceToNat]
  repeat' (first|intro _|apply And.intro|(unfold dOk;kernel_rfl)|exact St.beq_refl _|(show altO _ _ _ _=true;kernel_rfl)|(show (_ || _)=true;kernel_rfl)|(show (_ && _)=true;kernel_rfl))
  all_goals exact⟨_,fz_row rfl (by simp[hlen]) (plain_ints _)⟩
end
section
attribute [local go_sem] W_block tySzE List.head?_drop Nat.mul_one sameAt_zero sameAt_two sameAt_three sameAt_four sameAt_five room_ok ty22 ty23 ty36 ty39 ty41 ty53 ty108 ty112 ty129 ty130
open Go.Proofs Go.RowKit Go.IntWalk
set_option maxRecDepth 100000
set_option maxHeartbeats 8000000
theorem step_pc {g:Prg} (h:Okay g) {t:List Int} {w:Way} (hw:w.pc < g.ins.length) {l:List Way} (hs:stepW (progOf g t) w=.ways l):∀ v∈l,v.pc < g.ins.length:=by
 obtain⟨i,hi⟩:∃ i,g.ins[w.pc]?=some i:=⟨_,List.getElem?_eq_getElem hw⟩
 have hok:=h.ok i (List.mem_of_getElem? hi)
 have hf:=ok_facts hok
 have hop:=okIns_op hok
 have hn:=h.next hi
 have hp:(progOf g t).ins w.pc=some i:=hi
 simp only[stepW,hp]at hs
 repeat' split at hs
 all_goals first
  | (cases hs;done)
  | (cases hs;intro v hv;simp at hv;done)
  | (cases hs;intro v hv;rw[List.mem_singleton.1 hv];exact hn (by omega))
  | (cases hs;rename_i e;have:=hf.2.1 e;intro v hv;rw[List.mem_singleton.1 hv];show i.x.toNat < _;omega)
  | (cases hs;rename_i e;have:=hf.1 e;intro v hv;rcases List.mem_cons.1 hv with e|e
     ·rw[e];show i.x.toNat < _;omega
     ·rw[List.mem_singleton.1 e];show i.y.toNat < _;omega)
def resP (g:Prg) (t:List Int) (pos most fuel:Int):List M3×Int:=
 if checkG g t.length pos most fuel≠0 then([],checkG g t.length pos most fuel)
 else match runW (progOf g t) most fuel.toNat [⟨0,pos.toNat,List.replicate (2 * g.caps.toNat) (-1)⟩] [] with
  | some out=>(out.map (matOf pos g.caps.toNat),0)
  | none=>([],11)
abbrev resPA (r:List M3×Int):AV:=.tup [.sl false (r.1.map mA),I r.2]
theorem resA_eq (pos:Int) (n:Nat) (o:Option (List Way)):resA pos n o=match matsOf pos n o with
  | some l=>.tup [.sl false (l.map mA),I 0]
  | none=>.tup [.sl false [],I 11]:=by
 cases o with
 | none=>rfl
 | some out=>
   simp only[resA,matsOf,Option.map_some,List.map_map]
   rfl
theorem paths23 (g:Prg) (hb:PrgB g) (t:List Int) (ht:t.length≤1000000000) (pos most fuel:Int) (hf:fuel≤2000000) (H:List MB) :
  call Try.prog pol1 23 [.agg [.sl false (g.ins.map insAV),I g.caps,.bool g.runes],.sl false (t.map I),I pos,I most,I fuel] H=some (resPA (resP g t pos most fuel),H):=by
 by_cases hc:checkG g t.length pos most fuel=0
 ·have hv:validG g=0:=by
   unfold checkG at hc
   split at hc
   ·rename_i h;exact absurd hc h
   ·rename_i h;simpa using h
  have hok:=okay_of hv
  have hk:=hok.caps
  have hl:=hok.len
  have h1:=f23 g hb t pos most fuel g.caps.toNat (by omega) hc (by omega) H
  rw[show prgAV g=.agg [.sl false (g.ins.map insAV),I g.caps,.bool g.runes] from rfl]at h1
  have hpos:0≤pos∧pos≤t.length:=by
   unfold checkG at hc
   split at hc
   ·rename_i h;exact absurd hc h
   ·split at hc
    ·cases hc
    ·split at hc
     ·cases hc
     ·omega
  have hcl:∀ w l,w.pc < g.ins.length→stepW (progOf g t) w=.ways l→∀ v∈l,v.pc < g.ins.length:=by
   intro w l hw hs v hv
   exact step_pc hok hw hs v hv
  rw[h1,runI_eq hcl most fuel.toNat ⟨0,pos.toNat,m1s⟩ (by show 0 < _;omega),resA_eq]
  have hsame:Way.same g.caps.toNat ⟨0,pos.toNat,m1s⟩ ⟨0,pos.toNat,List.replicate (2 * g.caps.toNat) (-1)⟩:=by
   refine⟨rfl,rfl,?_⟩
   show (List.replicate 18 (-1:Int)).take _=(List.replicate _ (-1)).take _
   rw[List.take_replicate,List.take_replicate]
   congr 1
   omega
  rw[matsOf_same pos fuel.toNat _ _ hsame]
  unfold resP
  rw[if_neg (by simp[hc])]
  cases runW (progOf g t) most fuel.toNat [⟨0,pos.toNat,List.replicate (2 * g.caps.toNat) (-1)⟩] []<;>rfl
 ·rw[f23e g hb t ht pos most fuel hc H]
  unfold resP
  rw[if_pos hc]
  rfl
theorem resP_small (g:Prg) (t:List Int) (pos most fuel:Int) (hf:fuel≤2000000) (hc:g.caps≤9):(resP g t pos most fuel).1.length≤2000000∧∀ m∈(resP g t pos most fuel).1,m.2.2.length≤1000:=by
 unfold resP
 split
 ·exact⟨by simp,fun m h=>by simp at h⟩
 ·cases hr:runW (progOf g t) most fuel.toNat [⟨0,pos.toNat,List.replicate (2 * g.caps.toNat) (-1)⟩] [] with
  | none=>exact⟨by simp,fun m h=>by simp at h⟩
  | some out=>
    have:=(run_front _ _ _ _ hr).2
    simp only[List.length_nil]at this
    refine⟨by simp;omega,fun m hm=>?_⟩
    obtain⟨w,_,rfl⟩:=List.mem_map.1 hm
    simp only[matOf,capsN_len]
    omega
end
section
attribute [local go_sem] W_block tySzE List.head?_drop Nat.mul_one sameAt_zero sameAt_two sameAt_three sameAt_four sameAt_five room_ok ty22 ty26 ty28 ty35 ty36 ty37 ty53 ty54 ty66 ty68
open Go.Proofs Go.RowKit Go.IntWalk
set_option maxRecDepth 100000
set_option maxHeartbeats 8000000
theorem paths_all {cap:Bool} {re:Re} {caps:Int} {t:List Int} (hf:FitsOk cap re caps t) (hcp:compG [] re=true) (i:Nat) (hi:i≤t.length):∃ ms:List M3,(ms.length≤2000000∧∀ m∈ms,m.2.2.length≤1000) ∧
  ∀ H,call Try.prog pol1 23 [prgAV (prgOf re caps false),.sl false (t.map I),I i,I (-1),I 1048576] H=some (.tup [.sl false (ms.map mA),I 0],H):=by
 obtain⟨hsz,hdp,hc0,hc9,hwg⟩:=valid_facts hf.val
 simp only at hc0 hc9 hwg hdp
 have hcod:=codable_of re [] hcp
 obtain⟨hv,hb⟩:=prg_valid hf.val hcod (by have:=hf.len;omega)
 have hg:GoodC caps (topI false) re:=⟨hwg,hcod⟩
 have hlp:=lpG_of re [] hcp
 have htl:=hf.tl
 obtain⟨out,hout⟩:=prog_ends (t:=t) (g:=prgOf re caps false) rfl hg hlp hdp hi (hf.cost i hi) (List.replicate (2 * caps.toNat) (-1)) 1048576 (by omega)
 have hck:checkG (prgOf re caps false) t.length i (-1) 1048576=0:=by
  unfold checkG
  rw[if_neg (by simp[hv]),if_neg (by omega),if_neg (by omega),if_neg (by omega)]
 have hr:resP (prgOf re caps false) t i (-1) 1048576=(out.map (matOf i caps.toNat),0):=by
  unfold resP
  rw[if_neg (by simp[hck])]
  have:runW (progOf (prgOf re caps false) t) (-1) (1048576:Int).toNat [⟨0,(i:Int).toNat,List.replicate (2 * (prgOf re caps false).caps.toNat) (-1)⟩] []=some out:=hout
  rw[this]
 have hs:=resP_small (prgOf re caps false) t i (-1) 1048576 (by omega) hc9
 rw[hr]at hs
 refine⟨out.map (matOf i caps.toNat),hs,fun H=>?_⟩
 have:=paths23 (prgOf re caps false) hb t (by omega) i (-1) 1048576 (by omega) H
 rw[hr]at this
 exact this
theorem f8 (l m:List Int) (hl:∀ x∈l,In64 x) (hm:∀ x∈m,In64 x) (H:List MB):call Try.prog pol1 8 [.sl false (l.map I),.sl false (m.map I)] H=some (.bool true,H):=by
 obtain⟨_,⟨cap,re,caps,t,hf,hcp,rfl⟩,h31⟩:=f31 l m hl hm true
 have hpaths:=paths_all hf hcp
 obtain⟨hsz,hdp,hc0,hc9,hwg⟩:=valid_facts hf.val
 simp only at hc0 hc9 hwg hdp hsz
 have hcod:=codable_of re [] hcp
 obtain⟨hv,hb⟩:=prg_valid hf.val hcod (by have:=hf.len;omega)
 have hlp:=lpG_of re [] hcp
 have hg:GoodC caps (topI false) re:=⟨hwg,hcod⟩
 have h14:=f14 ⟨re,caps,false⟩ hf.wt
 have hcomp:compP ⟨re,caps,false⟩=(prgOf re caps false,0):=by
  unfold compP
  rw[if_pos hf.val,if_pos hcp,if_pos (by have:=hf.len;simp only[];omega)]
 rw[hcomp]at h14
 have h30:=f30 (prgOf re caps false) hb
 rw[hv]at h30
 have hB:re.wt * max 1 (lenG re)≤1000000:=Nat.le_trans (Nat.mul_le_mul hf.wt2 (show max 1 (lenG re)≤727 by have:=hf.len;omega)) (by decide)
 obtain⟨re',e,he,h32⟩:=f32 caps 255 re hB ⟨hg,(gen_facts cap re hf.gen).2.1,hsz⟩ hlp
 have h18:=f18
 have hcode:=code_exp caps (topI false) re hg
 have hprg:prgOf (expX re) caps false=prgOf re caps false:=by
  unfold prgOf;rw[hcode.1 0]
 have h14x:=f14 ⟨expX re,caps,false⟩ (Nat.le_trans (wt_exp caps (topI false) re hg hlp) hB)
 have hcompx:(validP ⟨expX re,caps,false⟩=0∧compP ⟨expX re,caps,false⟩=(prgOf re caps false,0))∨compP ⟨expX re,caps,false⟩=(⟨[],0,false⟩,4):=by
  by_cases h1:256 < (expX re).size∨24 < (expX re).depth
  ·right
   have:validP ⟨expX re,caps,false⟩=4:=by unfold validP;rw[if_pos h1]
   unfold compP
   rw[this];rfl
  ·left
   have h0:validP ⟨expX re,caps,false⟩=0:=by
    unfold validP
    rw[if_neg h1,if_neg]
    have hw:=whole_exp caps (topI false) re hwg
    simp only[hw]
    intro h
    rcases h with h|h|h
    ·omega
    ·omega
    ·cases h
   refine⟨h0,?_⟩
   unfold compP
   rw[if_pos h0,if_pos (comp_exp caps (topI false) re [] hwg hcp),if_pos (by have:=hf.len;simp only[hcode.2];omega)]
   rw[← hprg]
 obtain⟨g,hgP⟩:∃ g,prgOf re caps false=g:=⟨_,rfl⟩
 rw[hgP]at hcomp h30 hcompx h14
 simp only[hgP]at hpaths
 clear hprg hcode hv hb
 have hl8:=reC_len re
 have htk:List.take 10 (reC re++[I caps,.bool false])=reC re++[I caps,.bool false]:=List.take_of_length_le (by simp[reC_len])
 have hall:=reC_ok re
 have htk8:∀ l,List.take 8 (reC re++l)=reC re:=fun l=>by
  rw[List.take_append_of_le_length (by omega)];exact List.take_of_length_le (by omega)
 have hdr8:∀ l,List.drop 8 (reC re++l)=l:=fun l=>by
  rw[List.drop_append_of_le_length (by omega),reC_drop];rfl
 have hl8x:=reC_len re'
 have htkx:List.take 10 (reC re'++[I caps,.bool false])=reC re'++[I caps,.bool false]:=List.take_of_length_le (by simp[reC_len])
 have hallx:=reC_ok re'
 refine call_run Try.func8 rfl rfl rfl rfl rfl rfl (fun _=>rfl) (by simp[AV.plain,AV.plainL,plain_ints]) rfl ?_ H
 rcases he with ⟨rfl,rfl⟩|⟨rfl,rfl⟩
 ·have h14z:=f14 ⟨.mk 0 [] [] 0 0 0 0 false,caps,false⟩ (by simp[Re.wt,Re.wtL])
  generalize Re.mk 0 [] [] 0 0 0 0 false=re' at *
  generalize compP ⟨re',caps,false⟩=Z at *
  simp +contextual (disch:=omega) only[Try.f8,dd8,go_sem,↓reduceIte,List.reduceReplicate,Nat.reduceAdd,Nat.reduceSub,reduceCtorEq,Nat.reduceLeDiff,Nat.reduceMul,Nat.reduceLT,Nat.reduceEqDiff,Int.reduceBNe,Int.reduceBEq,Int.reduceEq,Int.reduceLT,Int.reduceLE,Int.reduceGT,Int.reduceGE,mu8,Nat.reduceBEq,↓wrap_up,↓wrap_down,↓wrap_pred,↓wrap_sub_nat,Int.reduceToNat,h31,h14,h30,h32,h18,h14z,hl8,htk,hall,htk8,hdr8,hl8x,htkx,hallx,reC_take,List.all_append]
  exact⟨_,rfl⟩
 ·rcases hcompx with ⟨_,hcx⟩|hcx
  ·rw[hcx]at h14x
   simp +contextual (disch:=omega) only[Try.f8,dd8,go_sem,↓reduceIte,List.reduceReplicate,Nat.reduceAdd,Nat.reduceSub,reduceCtorEq,Nat.reduceLeDiff,Nat.reduceMul,Nat.reduceLT,Nat.reduceEqDiff,Int.reduceBNe,Int.reduceBEq,Int.reduceEq,Int.reduceLT,Int.reduceLE,Int.reduceGT,Int.reduceGE,mu8,Nat.reduceBEq,↓wrap_up,↓wrap_down,↓wrap_pred,↓wrap_sub_nat,Int.reduceToNat,h31,h14,h30,h32,h18,h14x,hl8,htk,hall,htk8,hdr8,hl8x,htkx,hallx,reC_take,List.all_append]
   refine W_count (M:=(mskOf (pol1.mask 8) (pol1.gc 8) (pol1.acts 8) 0 12)) rfl (t.length+1) (fun i=>(⟨99,[(14,I i),(12,.rf 4 1 0 0),(7,.rf 1 1 0 0),(6,.sl false (t.map I))],[.row 10 [patAV ⟨re,caps,false⟩] 0,.row 3 [prgAV g] 0,.row 10 [.agg (reC (expX re)++[I caps,.bool false])] 0,.row 8 [reAV (expX re)] 0,.row 3 [prgAV g] 0]⟩:St)) (fun _=>True) ?_ ?_ trivial _ ?_
   ·intro i hi _
    obtain⟨ms,⟨hm1,hm2⟩,h23⟩:=hpaths i (by omega)
    have h26:∀ H,call Try.prog pol1 26 [.sl false (ms.map mA),.sl false (ms.map mA)] H=some (.bool true,H):=fun H=>by
     have:=f26 ms ms hm1 hm1 hm2 hm2 H
     rwa [decide_eq_true rfl]at this
    have htl:=hf.tl
    simp +contextual (disch:=omega) only[Try.f8,dd8,go_sem,↓reduceIte,List.reduceReplicate,Nat.reduceAdd,Nat.reduceSub,reduceCtorEq,Nat.reduceLeDiff,Nat.reduceMul,Nat.reduceLT,Nat.reduceEqDiff,Int.reduceBNe,Int.reduceBEq,Int.reduceEq,Int.reduceLT,Int.reduceLE,Int.reduceGT,Int.reduceGE,mu8,Nat.reduceBEq,↓wrap_up,↓wrap_down,↓wrap_pred,↓wrap_sub_nat,Int.reduceToNat,h23,h26]
    rfl
   ·intro _
    simp +contextual (disch:=omega) only[Try.f8,dd8,go_sem,↓reduceIte,List.reduceReplicate,Nat.reduceAdd,Nat.reduceSub,reduceCtorEq,Nat.reduceLeDiff,Nat.reduceMul,Nat.reduceLT,Nat.reduceEqDiff,Int.reduceBNe,Int.reduceBEq,Int.reduceEq,Int.reduceLT,Int.reduceLE,Int.reduceGT,Int.reduceGE,mu8,Nat.reduceBEq,↓wrap_up,↓wrap_down,↓wrap_pred,↓wrap_sub_nat,Int.reduceToNat,h18]
    exact⟨_,rfl⟩
   ·rfl
  ·rw[hcx]at h14x
   simp +contextual (disch:=omega) only[Try.f8,dd8,go_sem,↓reduceIte,List.reduceReplicate,Nat.reduceAdd,Nat.reduceSub,reduceCtorEq,Nat.reduceLeDiff,Nat.reduceMul,Nat.reduceLT,Nat.reduceEqDiff,Int.reduceBNe,Int.reduceBEq,Int.reduceEq,Int.reduceLT,Int.reduceLE,Int.reduceGT,Int.reduceGE,mu8,Nat.reduceBEq,↓wrap_up,↓wrap_down,↓wrap_pred,↓wrap_sub_nat,Int.reduceToNat,h31,h14,h30,h32,h18,h14x,hl8,htk,hall,htk8,hdr8,hl8x,htkx,hallx,reC_take,List.all_append]
   exact⟨_,rfl⟩
end
end Go.Ev
