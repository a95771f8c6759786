/- The first result of a tree, and the machine of package sem that finds it: plain. -/
import Derived.Test.YtjgmfjneajcbmaaGreatF22
import Derived.Test.YtjgmfjneajcbmaaGreatF25
set_option linter.unusedVariables false
set_option linter.unusedSimpArgs false
open Nat (add_assoc)
open List (all_cons all_nil append_assoc cons_append drop_zero length_append length_cons length_nil map_append map_cons map_nil nil_append sum_cons take_left')
open Bool (and_eq_true false_eq_true)
open Go.Proofs Go.RowKit Go.IntWalk
set_option maxHeartbeats 16000000
set_option maxRecDepth 100000
namespace Go.Ev
abbrev Rs:=Option (Nat×List Int)
def repK (f:(Nat->List Int->Rs)->Nat->List Int->Rs) (mn mx md:Int) (k:Nat->List Int->Rs):Nat->Int->Nat->List Int->Rs
 | 0,_,_,_=>none
 | m+1,q,i,c=>
   if q<mn then f (repK f mn mx md k m (q+1)) i c
   else if md=1 then(k i c).or (if mx = -1∨q<mx then f (repK f mn mx md k m (q+1)) i c else none)
   else(if mx = -1∨q<mx then f (repK f mn mx md k m (q+1)) i c else none).or (k i c)
def setC (c:List Int) (n:Int) (i j:Nat):List Int:=(c.set (2*n-2).toNat i).set (2*n-1).toNat j
theorem Gp (c:List Int) (n:Int) (i j:Nat):(setC c n i j).length=c.length:=by simp[setC]
mutual
def fst (t:List Int):Re->(Nat->List Int->Rs)->Nat->List Int->Rs
 | .mk op set kids mn mx md n neg,k,i,c=>
   if op=1 then(match t[i]? with
    | some x=>if hasSpan set x=true then k (i+1) c else none
    | none=>none)
   else if op=2 then fstC t kids k i c
   else if op=3 then fstA t kids k i c
   else if op=4 then repK (fstH t kids) mn mx md k (t.length+1-i) 0 i c
   else if op=5 then fstH t kids (fun j d=>k j (setC d n i j)) i c
   else k i c
def fstC (t:List Int):List Re->(Nat->List Int->Rs)->Nat->List Int->Rs
 | [],k,i,c=>k i c
 | r::rs,k,i,c=>fst t r (fstC t rs k) i c
def fstA (t:List Int):List Re->(Nat->List Int->Rs)->Nat->List Int->Rs
 | [],_,_,_=>none
 | r::rs,k,i,c=>(fst t r k i c).or (fstA t rs k i c)
def fstH (t:List Int):List Re->(Nat->List Int->Rs)->Nat->List Int->Rs
 | [],_,_,_=>none
 | r::_,k,i,c=>fst t r k i c
end
inductive GI where
 | re (r:Re)
 | round (r:Re) (k:Int)
 | moved (r:Re) (k:Int) (a:Nat)
 | done (r:Re) (a:Nat)
structure Pt where
 i:Nat
 c:List Int
 g:List GI
def opM (t:List Int) (r:Re) (p:Pt) (O:List Pt):Option (Option Pt×List Pt):=
 match r with
 | .mk op set kids mn mx md n neg=>
   if op=0 then some (some p,O)
   else if op=1 then(match t[p.i]? with
    | some x=>if hasSpan set x=true then some (some ⟨p.i+1,p.c,p.g⟩,O) else some (none,O)
    | none=>some (none,O))
   else if op=2 then some (some ⟨p.i,p.c,kids.map .re++p.g⟩,O)
   else if op=3 then(match kids with
    | a::ks=>some (some ⟨p.i,p.c,.re a::p.g⟩,ks.map (fun k=>⟨p.i,p.c,.re k::p.g⟩)++O)
    | []=>none)
   else if op=4 then(if md=2 then none else some (some ⟨p.i,p.c,.round (.mk op set kids mn mx md n neg) 0::p.g⟩,O))
   else if op=5 then(match kids with
    | [a]=>if 1<=n/\n<=9 then some (some ⟨p.i,p.c,.re a::.done (.mk op set kids mn mx md n neg) p.i::p.g⟩,O) else none
    | _=>none)
   else none
def roundM (F:Nat) (r:Re) (k:Int) (p:Pt) (O:List Pt) (s:Nat):Option (Option Pt×List Pt×Nat):=
 match r with
 | .mk op set kids mn mx md n neg=>match kids with
   | [a]=>
     if s<F/\0<=k/\k<=p.i then
      if k<mn then some (some ⟨p.i,p.c,.re a::.round (.mk op set kids mn mx md n neg) (k+1)::p.g⟩,O,s+1)
      else if 0<=mx/\mx<=k then some (some p,O,s+1)
      else if md=1 then some (some p,⟨p.i,p.c,.re a::.moved (.mk op set kids mn mx md n neg) (k+1) p.i::p.g⟩::O,s+1)
      else some (some ⟨p.i,p.c,.re a::.moved (.mk op set kids mn mx md n neg) (k+1) p.i::p.g⟩,p::O,s+1)
     else none
   | _=>none
def callM (t:List Int) (F:Nat) (g:GI) (p:Pt) (O:List Pt) (s:Nat):Option (Option Pt×List Pt×Nat):=
 match g with
 | .re r=>if r.wt<=1000 then(if r.op=4 then(opM t r p O).map fun q=>(q.1,q.2,s) else if s<F then(opM t r p O).map fun q=>(q.1,q.2,s+1) else none) else none
 | .round r k=>roundM F r k p O s
 | .moved r k a=>if p.i=a then some (none,O,s) else roundM F r k p O s
 | .done (.mk op set kids mn mx md n neg) a=>if 1<=n/\n<=9 then some (some ⟨p.i,setC p.c n a p.i,p.g⟩,O,s) else none
def runM (t:List Int) (F:Nat):Nat->Option Pt->List Pt->Nat->Option (Option Pt×List Pt×Nat)
 | 0,_,_,_=>none
 | m+1,some ⟨i,c,[]⟩,O,s=>some (some ⟨i,c,[]⟩,O,s)
 | m+1,some ⟨i,c,g::K⟩,O,s=>match callM t F g ⟨i,c,K⟩ O s with
   | some (q,O',s')=>runM t F m q O' s'
   | none=>none
 | m+1,none,p::O,s=>runM t F m (some p) O s
 | m+1,none,[],s=>some (none,[],s)
def SrX (t:List Int) (F:Nat) (q:Option Pt) (ps:List Pt) (r:Rs) (N:Nat):Prop:=
 ∀(O:List Pt) (s:Nat),s+N<=F->∃(m s':Nat),s'<=s+N/\(match r with
  | none=>∀ m',runM t F (m+m') q (ps++O) s=runM t F m' none O s'
  | some x=>∃ O',∀ m',runM t F (m+1+m') q (ps++O) s=some (some ⟨x.1,x.2,[]⟩,O',s'))
abbrev Sr (t:List Int) (F:Nat) (p:Pt) (r:Rs) (N:Nat):Prop:=SrX t F (some p) [] r N
theorem SrX.mono {t:List Int}{F:Nat}{q:Option Pt}{ps:List Pt}{r:Rs}{N M:Nat} (h:SrX t F q ps r N) (hm:N<=M):SrX t F q ps r M:=fun O s hs=>by
 obtain⟨m,s',h1,h2⟩:=h O s (by omega);exact⟨m,s',by omega,h2⟩
theorem SrX.nil (t:List Int) (F:Nat):SrX t F none [] none 0:=fun O s hs=>⟨0,s,by omega,fun m'=>by simp⟩
theorem SrX.or {t:List Int}{F:Nat}{q:Option Pt}{ps:List Pt}{r r':Rs}{N M:Nat} (h:SrX t F q [] r N) (g:SrX t F none ps r' M):SrX t F q ps (r.or r') (N+M):=fun O s hs=>by
 obtain⟨m,s',h1,h2⟩:=h (ps++O) s (by omega);cases r with
 | some x=>
   obtain⟨O',h2⟩:=h2;exact⟨m,s',by omega,O',fun m'=>by simpa using h2 m'⟩
 | none=>
   simp only at h2;rw[Option.none_or];obtain⟨n,s2,g1,g2⟩:=g O s' (by omega);refine⟨m+n,s2,by omega,?_⟩;cases r' with
   | none=>exact fun m'=>by rw[add_assoc,<- g2 m'];simpa using h2 (n+m')
   | some x=>
     obtain⟨O',g2⟩:=g2;refine⟨O',fun m'=>?_⟩;rw[<- g2 m',show m+n+1+m' = m+(n+1+m') by omega]
     simpa using h2 (n+1+m')
theorem SrX.open {t:List Int}{F:Nat}{p:Pt}{ps:List Pt}{r:Rs}{N:Nat} (h:SrX t F (some p) ps r N):SrX t F none (p::ps) r N:=fun O s hs=>by
 obtain⟨m,s',h1,h2⟩:=h O s hs;refine⟨m+1,s',h1,?_⟩;cases r with
 | none=>
   intro m';rw[show m+1+m' = (m+m')+1 by omega,cons_append,runM];exact h2 m'
 | some x=>
   obtain⟨O',h2⟩:=h2;refine⟨O',fun m'=>?_⟩;rw[show m+1+1+m' = (m+1+m')+1 by omega,cons_append,runM];exact h2 m'
theorem Sr.call {t:List Int}{F:Nat}{i:Nat}{c:List Int}{g:GI}{K:List GI}{q:Option Pt}{ps:List Pt}{r:Rs}{N δ:Nat}
  (hc:∀ O s,s+δ<=F->callM t F g ⟨i,c,K⟩ O s=some (q,ps++O,s+δ)) (h:SrX t F q ps r N):Sr t F ⟨i,c,g::K⟩ r (δ+N):=fun O s hs=>by
 obtain⟨m,s',h1,h2⟩:=h O (s+δ) (by omega);refine⟨m+1,s',by omega,?_⟩;cases r with
 | none=>
   intro m';rw[show m+1+m' = (m+m')+1 by omega,nil_append,runM,hc O s (by omega)];exact h2 m'
 | some x=>
   obtain⟨O',h2⟩:=h2;refine⟨O',fun m'=>?_⟩;rw[show m+1+1+m' = (m+1+m')+1 by omega,nil_append,runM,hc O s (by omega)];exact h2 m'
theorem Sr.stop (t:List Int) (F:Nat) (i:Nat) (c:List Int):Sr t F ⟨i,c,[]⟩ (some (i,c)) 0:=fun O s hs=>⟨0,s,by omega,O,fun m'=>by
 rw[show 0+1+m' = m' + 1 by omega,runM];rfl⟩
theorem SrX.dead (t:List Int) (F:Nat):SrX t F none [] none 0:=SrX.nil t F
theorem N8 {t:List Int}{F:Nat}{op:Int}{set:List (Int×Int)}{kid:Re}{mn mx md n:Int}{neg:Bool}{k:Nat->List Int->Rs}{K:List GI} {κ:Nat->Nat}
  (hpos:∀ i,i<=t.length->∀ j∈outs t kid i,i<j/\j<=t.length)
  (hmx:mx = -1∨0<=mx) (hmn:mx = -1∨mn<=mx)
  (hK:∀(K':List GI) (i:Nat) (c:List Int) (k':Nat->List Int->Rs) (κ':Nat->Nat),i<=t.length->(∀ j∈outs t kid i,∀ d,Sr t F ⟨j,d,K'⟩ (k' j d) (κ' j))->Sr t F ⟨i,c,.re kid::K'⟩ (fst t kid k' i c) (costR t kid i+((outs t kid i).map κ').sum)) :
  ∀(m:Nat) (q:Int) (i:Nat) (c:List Int),0<=q->q<=i->i<=t.length->t.length+1-i<=m->(∀ j∈repO (outs t kid) mn mx md m q i,∀ d,Sr t F ⟨j,d,K⟩ (k j d) (κ j)) ->
   Sr t F ⟨i,c,.round (.mk op set [kid] mn mx md n neg) q::K⟩ (repK (fst t kid) mn mx md k m q i c) (repC (outs t kid) (costR t kid) mn mx m q i+((repO (outs t kid) mn mx md m q i).map κ).sum)
 | 0,q,i,c,_,_,hi,hm,_=>by omega
 | m+1,q,i,c,hq,hqi,hi,hm,hx=>by
   have ih:=fun j (hj:j∈outs t kid i) d hx=>N8 (op:=op) (set:=set) (md:=md) (n:=n) (neg:=neg) (K:=K) (k:=k) (κ:=κ) hpos hmx hmn hK m (q+1) j d (by omega) (by have:=(hpos i hi j hj).1;omega) (hpos i hi j hj).2 (by have:=(hpos i hi j hj).1;omega) hx
   have hop:∀(K':List GI),(∀ j,i<j->∀ d r N,Sr t F ⟨j,d,.round (.mk op set [kid] mn mx md n neg) (q+1)::K⟩ r N->Sr t F ⟨j,d,K'⟩ r N)->(∀ j∈(outs t kid i).flatMap (repO (outs t kid) mn mx md m (q+1)),∀ d,Sr t F ⟨j,d,K⟩ (k j d) (κ j)) ->
     Sr t F ⟨i,c,.re kid::K'⟩ (fst t kid (repK (fst t kid) mn mx md k m (q+1)) i c) (costR t kid i+((outs t kid i).map (repC (outs t kid) (costR t kid) mn mx m (q+1))).sum+(((outs t kid i).flatMap (repO (outs t kid) mn mx md m (q+1))).map κ).sum):=fun K' hK' hf=>by
    rw[DA,add_assoc,<- GO];exact hK K' i c _ _ hi fun j hj d=>hK' j (hpos i hi j hj).1 d _ _ (ih j hj d fun z hz=>hf z (List.mem_flatMap.2 ⟨j,hj,hz⟩))
   rw[repO]at hx |-;rw[repC,repK];by_cases h1:q<mn
   ·rw[if_pos h1]at hx |-;rw[if_pos h1,if_pos (.inl h1),add_assoc];refine Sr.call (q:=some ⟨i,c,.re kid::.round (.mk op set [kid] mn mx md n neg) (q+1)::K⟩) (ps:=[]) (fun O s hs=>?_) (hop _ (fun j _ d r N h=>h) hx);simp only[callM,roundM];rw[if_pos ⟨by omega,hq,hqi⟩,if_pos h1];rfl
   ·simp only[if_neg h1]at hx |-;have hmv:∀ j,i<j->∀ d r N,Sr t F ⟨j,d,.round (.mk op set [kid] mn mx md n neg) (q+1)::K⟩ r N->Sr t F ⟨j,d,.moved (.mk op set [kid] mn mx md n neg) (q+1) i::K⟩ r N:=by
     intro j hj d r N h O s hs;obtain⟨m,s',h1,h2⟩:=h O s hs;have e:∀ m',runM t F m' (some ⟨j,d,.moved (.mk op set [kid] mn mx md n neg) (q+1) i::K⟩) ([]++O) s=runM t F m' (some ⟨j,d,.round (.mk op set [kid] mn mx md n neg) (q+1)::K⟩) ([]++O) s:=fun m'=>by
      cases m' with
      | zero=>rfl
      | succ m'=>
        rw[runM,runM];simp only[callM];rw[if_neg (by omega)]
     refine⟨m,s',h1,?_⟩;cases r with
     | none=>exact fun m'=>by rw[e];exact h2 m'
     | some x=>
       obtain⟨O',h2⟩:=h2;exact⟨O',fun m'=>by rw[e];exact h2 m'⟩
    by_cases hM:mx = -1∨q<mx
    ·rw[if_pos (show q<mn∨mx = -1∨q<mx from .inr hM)];simp only[if_pos hM]at hx |-;have hnm:¬(0<=mx/\mx<=q):=by omega
     by_cases hd:md=1
     ·simp only[if_pos hd]at hx |-;rw[add_assoc];refine Sr.call (q:=some ⟨i,c,K⟩) (ps:=[⟨i,c,.re kid::.moved (.mk op set [kid] mn mx md n neg) (q+1) i::K⟩]) (fun O s hs=>?_) ?_
      ·simp only[callM,roundM];rw[if_pos ⟨by omega,hq,hqi⟩,if_neg h1,if_neg hnm,if_pos hd];rfl
      ·have:=SrX.or (hx i (by simp) c) (SrX.open (hop _ hmv fun j hj=>hx j (List.mem_cons_of_mem _ hj)));refine this.mono ?_;simp only[map_cons,sum_cons];omega
     ·simp only[if_neg hd]at hx |-;rw[add_assoc];refine Sr.call (q:=some ⟨i,c,.re kid::.moved (.mk op set [kid] mn mx md n neg) (q+1) i::K⟩) (ps:=[⟨i,c,K⟩]) (fun O s hs=>?_) ?_
      ·simp only[callM,roundM];rw[if_pos ⟨by omega,hq,hqi⟩,if_neg h1,if_neg hnm,if_neg hd];rfl
      ·have:=SrX.or (hop _ hmv fun j hj=>hx j (List.mem_append_left _ hj)) (SrX.open (hx i (by simp) c));refine this.mono ?_;simp only[map_append,List.sum_append,map_cons,map_nil,sum_cons,List.sum_nil];omega
    ·rw[if_neg (show ¬(q<mn∨mx = -1∨q<mx) by omega)];simp only[if_neg hM]at hx |-;have hO:(if md=1 then [i] else []++[i])=[i]:=by split<;>rfl
     have hO2:(if md=1 then(k i c).or none else none.or (k i c))=k i c:=by split<;>simp
     rw[hO]at hx |-;rw[hO2,add_assoc];refine Sr.call (q:=some ⟨i,c,K⟩) (ps:=[]) (fun O s hs=>?_) ((hx i (by simp) c).mono ?_)
     ·simp only[callM,roundM];rw[if_pos ⟨by omega,hq,hqi⟩,if_neg h1,if_pos (by omega)];rfl
     ·simp
section
variable {caps top:Int}{t:List Int}{F:Nat}
mutual
theorem MK (hcaps:caps<=9):∀(r:Re) (ins:List Int),compG ins r=true->wholeG caps top r=true->noAs r=true->r.wt<=1000->∀(i:Nat) (c:List Int) (K:List GI) (k:Nat->List Int->Rs) (κ:Nat->Nat),i<=t.length ->
  (∀ j∈outs t r i,∀ d,Sr t F ⟨j,d,K⟩ (k j d) (κ j))->Sr t F ⟨i,c,.re r::K⟩ (fst t r k i c) (costR t r i+((outs t r i).map κ).sum)
 | .mk op set kids mn mx md n neg,ins,hcp,hw,hna,hwt,i,c,K,k,κ,hi,hx=>by
   obtain⟨hwk,hkd,hrp,hcn,hop0,hop11⟩:=BC hw;have hcod:=C8 _ _ hcp;rw[compG]at hcp;rw[noAs,and_eq_true]at hna;have h11:op≠11:=by simpa using hna.1
   rw[codable,and_eq_true,Bool.or_eq_true,decide_eq_true_eq,beq_iff_eq]at hcod;have hwl:Re.wtL kids+1<=1000:=by rw[Re.wt]at hwt;omega
   split at hcp
   ·cases hcp
   rename_i h4n;have hC:=fun ins h=>Nv hcaps kids ins h hwk hna.2 (by omega);have hA:=fun ins h=>Nw hcaps kids ins h hwk hna.2 (by omega);have hH:=fun ins h=>Rv hcaps kids ins h hwk hna.2 (by omega);rw[outs]at hx |-;rw[costR,fst];have hre:∀ {q ps r N},op≠4->(∀ O,opM t (.mk op set kids mn mx md n neg) ⟨i,c,K⟩ O=some (q,ps++O))->SrX t F q ps r N->Sr t F ⟨i,c,.re (.mk op set kids mn mx md n neg)::K⟩ r (1+N):=fun h4 h1 h2=>by
    refine Sr.call (fun O s hs=>?_) h2;simp only[callM];rw[if_pos hwt,if_neg (by exact h4),if_pos (by omega),h1];rfl
   have hcases:op=0∨op=1∨op=2∨op=3∨op=4∨op=5:=by omega
   rcases hcases with rfl|rfl|rfl|rfl|rfl|rfl
   ·simp only[show ¬(0:Int)=1 by decide,show ¬(0:Int)=2 by decide,show ¬(0:Int)=3 by decide,show ¬(0:Int)=4 by decide,show ¬(0:Int)=5 by decide,show ¬(0:Int)=11 by decide,if_false]at hx |-;refine hre (q:=some ⟨i,c,K⟩) (ps:=[]) (by decide) (fun O=>rfl) ((hx i (by simp) c).mono ?_);simp
   ·simp only[if_true,show ¬(1:Int)=2 by decide,show ¬(1:Int)=3 by decide,show ¬(1:Int)=4 by decide,show ¬(1:Int)=5 by decide,if_false]at hx |-;cases hti:t[i]? with
    | none=>
      simp only;refine hre (q:=none) (ps:=[]) (by decide) (fun O=>?_) ((SrX.dead t F).mono (Nat.zero_le _));simp[opM,hti]
    | some x=>
      rw[hti]at hx;by_cases hh:hasSpan set x=true
      ·simp only[if_pos hh]at hx |-;refine hre (q:=some ⟨i+1,c,K⟩) (ps:=[]) (by decide) (fun O=>?_) ((hx (i+1) (by simp) c).mono ?_)
       ·simp[opM,hti,hh]
       ·simp
      ·simp only[if_neg hh];refine hre (q:=none) (ps:=[]) (by decide) (fun O=>?_) ((SrX.dead t F).mono (Nat.zero_le _));simp[opM,hti,hh]
   ·simp only[show ¬(2:Int)=1 by decide,show ¬(2:Int)=5 by decide,if_true,if_false]at hx hcp |-;rw[if_neg (by omega)]at hcp;rw[add_assoc];exact hre (q:=some ⟨i,c,kids.map .re++K⟩) (ps:=[]) (by decide) (fun O=>rfl) (hC ins hcp i c K k κ hi hx)
   ·simp only[show ¬(3:Int)=1 by decide,show ¬(3:Int)=2 by decide,show ¬(3:Int)=5 by decide,if_true,if_false]at hx hcp |-;rw[if_neg (by omega)]at hcp;rw[add_assoc];have:=hA ins hcp i c K k κ hi hx;cases kids with
    | nil=>simp[kidsG]at hkd
    | cons a ks=>
      refine hre (q:=some ⟨i,c,.re a::K⟩) (ps:=ks.map fun k=>⟨i,c,.re k::K⟩) (by decide) (fun O=>rfl) ?_;exact this
   ·obtain⟨kid,rfl⟩:∃ k,kids=[k]:=List.length_eq_one_iff.1 (by simpa [kidsG] using hkd);have hrg:=hrp rfl;simp only[repG,and_eq_true,Bool.or_eq_true,decide_eq_true_eq,beq_iff_eq]at hrg;simp only[show ¬(4:Int)=1 by decide,show ¬(4:Int)=2 by decide,show ¬(4:Int)=3 by decide,show ¬(4:Int)=5 by decide,if_true,if_false]at hx hcp |-;rw[if_neg (by omega)]at hcp;have ho1:outsH t [kid]=outs t kid:=funext fun i=>by rw[outsH]
    have hc1:costRH t [kid]=costR t kid:=funext fun i=>by rw[costRH]
    have hf1:fstH t [kid]=fst t kid:=funext fun k=>funext fun i=>funext fun c=>by rw[fstH]
    rw[ho1]at hx;rw[ho1,hc1,hf1];have hnl:nullG kid=false:=by
     cases hq:nullG kid with
     | false=>rfl
     | true=>exact absurd ⟨rfl,.inr (by rw[nullHd];exact hq)⟩ h4n
    have hmd:md≠2:=fun e=>h4n ⟨rfl,.inl e⟩;rw[compL,and_eq_true]at hcp;have hck:=C8 _ _ hcp.1
    have hr:=N8 (t:=t) (F:=F) (op:=4) (set:=set) (kid:=kid) (mn:=mn) (mx:=mx) (md:=md) (n:=n) (neg:=neg) (k:=k) (K:=K) (κ:=κ)
     (fun i hi j hj=>⟨DU t kid i hnl hck hi j hj,(CG t kid i hi j hj).2⟩) (by omega) (by omega)
     (fun K' i c k' κ' hi h=>hH ins (by rw[compL,compL,hcp.1];rfl) i c K' k' κ' hi h) (t.length+1-i) 0 i c (Int.le_refl _) (by omega) hi (Nat.le_refl _) hx
    have:=Sr.call (t:=t) (F:=F) (i:=i) (c:=c) (g:=.re (.mk 4 set [kid] mn mx md n neg)) (K:=K) (q:=some ⟨i,c,.round (.mk 4 set [kid] mn mx md n neg) 0::K⟩) (ps:=[]) (δ:=0) (fun O s hs=>by
     simp only[callM];rw[if_pos hwt,if_pos (show Re.op (.mk 4 set [kid] mn mx md n neg)=4 from rfl)];simp[opM,hmd]) hr
    exact this.mono (by omega)
   ·obtain⟨kid,rfl⟩:∃ k,kids=[k]:=List.length_eq_one_iff.1 (by simpa [kidsG] using hkd);have hn:=hcn (.inl rfl);simp only[show ¬(5:Int)=1 by decide,show ¬(5:Int)=2 by decide,show ¬(5:Int)=3 by decide,show ¬(5:Int)=4 by decide,if_true,if_false]at hx hcp |-;split at hcp
    ·cases hcp
    rw[add_assoc];refine hre (q:=some ⟨i,c,.re kid::.done (.mk 5 set [kid] mn mx md n neg) i::K⟩) (ps:=[]) (by decide) (fun O=>?_) ?_
    ·simp[opM,show 1<=n/\n<=9 by omega]
    ·have e1:outsH t [kid] i=outs t kid i:=by rw[outsH]
     have e2:costRH t [kid] i=costR t kid i:=by rw[costRH]
     rw[e1]at hx;rw[e1,e2,fstH];refine hH _ hcp i c _ (fun j d=>k j (setC d n i j)) κ hi fun j hj d=>?_;have:=Sr.call (t:=t) (F:=F) (i:=j) (c:=d) (g:=.done (.mk 5 set [kid] mn mx md n neg) i) (K:=K) (q:=some ⟨j,setC d n i j,K⟩) (ps:=[]) (δ:=0) (fun O s hs=>by
      simp only[callM];rw[if_pos (by omega)];rfl) (hx j hj (setC d n i j))
     exact this.mono (by omega)
theorem Nv (hcaps:caps<=9):∀(l:List Re) (ins:List Int),compL ins l=true->(∀ k∈l,wholeG caps top k=true)->noAsL l=true->Re.wtL l<=1000->∀(i:Nat) (c:List Int) (K:List GI) (k:Nat->List Int->Rs) (κ:Nat->Nat),i<=t.length ->
  (∀ j∈outsC t l i,∀ d,Sr t F ⟨j,d,K⟩ (k j d) (κ j))->Sr t F ⟨i,c,l.map .re++K⟩ (fstC t l k i c) (costRC t l i+((outsC t l i).map κ).sum)
 | [],_,_,_,_,_,i,c,K,k,κ,hi,hx=>by
   have:=hx i (by simp[outsC]) c
   simpa [outsC,costRC,fstC] using this
 | r::rs,ins,hcp,hw,hna,hwt,i,c,K,k,κ,hi,hx=>by
   rw[compL,and_eq_true]at hcp;rw[noAsL,and_eq_true]at hna;rw[Re.wtL]at hwt;rw[outsC]at hx |-;rw[costRC,DA,add_assoc,<- GO,fstC];refine MK hcaps r ins hcp.1 (hw r (by simp)) hna.1 (by omega) i c _ _ _ hi fun j hj d=>?_;exact Nv hcaps rs ins hcp.2 (fun q hq=>hw q (by simp[hq])) hna.2 (by omega) j d K k κ (CG t r i hi j hj).2 fun q hq=>hx q (List.mem_flatMap.2 ⟨j,hj,hq⟩)
theorem Nw (hcaps:caps<=9):∀(l:List Re) (ins:List Int),compL ins l=true->(∀ k∈l,wholeG caps top k=true)->noAsL l=true->Re.wtL l<=1000->∀(i:Nat) (c:List Int) (K:List GI) (k:Nat->List Int->Rs) (κ:Nat->Nat),i<=t.length ->
  (∀ j∈outsA t l i,∀ d,Sr t F ⟨j,d,K⟩ (k j d) (κ j)) ->
  (match l with
    | []=>SrX t F none [] none 0
    | a::ks=>SrX t F (some ⟨i,c,.re a::K⟩) (ks.map fun k=>⟨i,c,.re k::K⟩) (fstA t (a::ks) k i c) (costRA t (a::ks) i+((outsA t (a::ks) i).map κ).sum))
 | [],_,_,_,_,_,i,c,K,k,κ,hi,hx=>SrX.dead t F
 | r::rs,ins,hcp,hw,hna,hwt,i,c,K,k,κ,hi,hx=>by
   rw[compL,and_eq_true]at hcp;rw[noAsL,and_eq_true]at hna;rw[Re.wtL]at hwt;rw[outsA]at hx;have h1:=MK hcaps r ins hcp.1 (hw r (by simp)) hna.1 (by omega) i c K k κ hi fun j hj=>hx j (List.mem_append_left _ hj);have h2:=Nw hcaps rs ins hcp.2 (fun q hq=>hw q (by simp[hq])) hna.2 (by omega) i c K k κ hi fun j hj=>hx j (List.mem_append_right _ hj);simp only;rw[outsA,costRA,fstA];cases rs with
   | nil=>
     simp only[outsA,costRA,fstA,List.append_nil,Nat.add_zero,Option.or_none,map_nil];exact h1
   | cons a ks=>
     refine(SrX.or h1 (SrX.open h2)).mono ?_;simp only[map_append,List.sum_append];omega
theorem Rv (hcaps:caps<=9):∀(l:List Re) (ins:List Int),compL ins l=true->(∀ k∈l,wholeG caps top k=true)->noAsL l=true->Re.wtL l<=1000->∀(i:Nat) (c:List Int) (K:List GI) (k:Nat->List Int->Rs) (κ:Nat->Nat),i<=t.length ->
  match l with
  | []=>True
  | r::_=>(∀ j∈outs t r i,∀ d,Sr t F ⟨j,d,K⟩ (k j d) (κ j))->Sr t F ⟨i,c,.re r::K⟩ (fst t r k i c) (costR t r i+((outs t r i).map κ).sum)
 | [],_,_,_,_,_,_,_,_,_,_,_=>trivial
 | r::rs,ins,hcp,hw,hna,hwt,i,c,K,k,κ,hi=>fun hx=>by
   rw[compL,and_eq_true]at hcp;rw[noAsL,and_eq_true]at hna;rw[Re.wtL]at hwt;exact MK hcaps r ins hcp.1 (hw r (by simp)) hna.1 (by omega) i c K k κ hi hx
end
end
theorem Nu {caps top:Int}{t:List Int}{F:Nat} (hcaps:caps<=9) {r:Re} (hcp:compG [] r=true) (hw:wholeG caps top r=true) (hna:noAs r=true) (hwt:r.wt<=1000) (i:Nat) (hi:i<=t.length) (c:List Int) :
  Sr t F ⟨i,c,[.re r]⟩ (fst t r (fun j d=>some (j,d)) i c) (costR t r i):=by
 have:=MK (t:=t) (F:=F) hcaps r [] hcp hw hna hwt i c [] (fun j d=>some (j,d)) (fun _=>0) hi fun j _ d=>Sr.stop t F j d;refine this.mono ?_;have:((outs t r i).map fun _=>0).sum=0:=by
  generalize outs t r i=l
  induction l with
  | nil=>rfl
  | cons a l ih=>simpa using ih
 omega
end Go.Ev
namespace Go.Ev
attribute [local go_sem] evBin frzB Av BG bndO bnd evEq eqCells not_false_eq_true not_true_eq_false Af Array.size_empty length_append map_append tySzE List.head?_drop Nat.mul_one AR AY AP AS AT Ad
section
attribute [local go_sem] evAppend
theorem Jh {H:List MB}{sT xT e k by_ id:Nat}{ze x:AV}{xs js ys:List AV} (he:tyElem Pg sT=some e) (hxT:tyNotInt Pg xT=true) (hk:tySz Pg e=some k) (hby:tyBytes Pg e=some by_) (hze:tyZero Pg e=some ze) (hzl:ze.cells.length=k) (hk0:0<k)
  (hs:srcElems Pg H e x=some ys) (hw:ys.all (fun y=>decide (y.cells.length=k)&&y.cells.all AV.ok)=true) (hy:ys≠[]) (hr:getRow H id=some (k,xs++js,0)) (hroom:roomFor (xs.length+ys.length) by_=true) :
  evAppend Pg H sT xT (.ms id k (xs.length+js.length) 0 xs.length) x =
   some (.ms id k (xs.length+ys.length+(js.drop ys.length).length) 0 (xs.length+ys.length),H.set id (.row k (xs++(ys++js.drop ys.length)) 0)):=by
 unfold evAppend;simp only[he,hxT,hk,hby,hze,hs];rw[if_pos ⟨hw,hk0,hzl⟩];simp only[hr];rw[if_pos ⟨by simp,trivial,trivial,by omega⟩];cases ys with
 | nil=>exact absurd rfl hy
 | cons y ys=>
   rw[if_pos ⟨by omega,hroom⟩];have ht:(xs++js).take (0+xs.length)=xs:=by simp
   rw[ht];by_cases hc:0+xs.length+(y::ys).length<=xs.length+js.length
   ·rw[if_pos hc];have h1:(xs++js).drop (0+xs.length+(y::ys).length)=js.drop (y::ys).length:=by
     rw[Nat.zero_add,List.drop_append];simp
    rw[h1];have h2:xs.length+(y::ys).length+(js.drop (y::ys).length).length=xs.length+js.length:=by
     simp only[List.length_drop];omega
    rw[h2]
   ·rw[if_neg hc];have h1:js.drop (y::ys).length=[]:=List.drop_eq_nil_of_le (by omega);rw[h1];simp
def giA:GI->AV
 | .re r=>.clo 124 [.pt [.pt (reC r)],.pt [.rf 2 1 0 0]]
 | .round r k=>.clo 164 [.pt [.rf 2 1 0 0],.pt [.pt (reC r)],.pt [I k]]
 | .moved r k a=>.clo 165 [.pt [NV a],.pt [.clo 164 [.pt [.rf 2 1 0 0],.pt [.pt (reC r)],.pt [I k]]]]
 | .done r a=>.clo 143 [.pt [NV a],.pt [.pt (reC r)]]
def todoA:List GI->AV
 | []=>.nilp
 | g::K=>.pt [giA g,todoA K]
abbrev cpA (c:List Int):AV:=.pt (c.map I)
abbrev ptA (p:Pt):AV:=.agg [NV p.i,cpA p.c,todoA p.g]
def opsA:List (AV×AV):=[(I 0,.clo 112 []),(I 1,.clo 113 []),(I 2,.clo 114 []),(I 3,.clo 115 []),(I 4,.clo 116 []),(I 5,.clo 117 []),(I 6,.clo 118 []),(I 7,.clo 119 []),(I 8,.clo 120 []),(I 9,.clo 121 []),(I 10,.clo 122 []),(I 11,.clo 123 [])]
def hp4 (b0:MB) (K:List MB) (a:AV) (E:List AV):List MB:=b0::.mp (.int .i64) opsA::.row 8 [a] 0::.row 3 E 0::K
section
variable (b0:MB) (K:List MB) (a:AV) (E:List AV) (B:List MB)
theorem FF:(hp4 b0 K a E).length=K.length+4:=rfl
theorem hg41:(hp4 b0 K a E++B)[1]?=some (.mp (.int .i64) opsA):=rfl
theorem hg42:(hp4 b0 K a E++B)[2]?=some (.row 8 [a] 0):=rfl
theorem hg43:(hp4 b0 K a E++B)[3]?=some (.row 3 E 0):=rfl
theorem SU:(hp4 b0 K a E)[2]?=some (.row 8 [a] 0):=rfl
theorem z42 (a':AV):(hp4 b0 K a E++B).set 2 (.row 8 [a'] 0)=hp4 b0 K a' E++B:=rfl
theorem z43 (E':List AV):(hp4 b0 K a E++B).set 3 (.row 3 E' 0)=hp4 b0 K a E'++B:=rfl
theorem z42' (a':AV):(hp4 b0 K a E).set 2 (.row 8 [a'] 0)=hp4 b0 K a' E:=rfl
end
theorem ownH {H:List MB}{N:Nat} (hN:H.length=N) :
  (∀ B,(H++B)[N]?=B[0]?)/\(∀ B,(H++B)[N+1]?=B[1]?)/\(∀ B,(H++B)[N+2]?=B[2]?)/\(∀ B,(H++B)[N+3]?=B[3]?)/\(∀ B,(H++B)[N+4]?=B[4]?)/\(∀ B,(H++B)[N+5]?=B[5]?)/\(∀ B,(H++B)[N+6]?=B[6]?) /\
  (∀ B v,(H++B).set N v=H++B.set 0 v)/\(∀ B v,(H++B).set (N+1) v=H++B.set 1 v)/\(∀ B v,(H++B).set (N+2) v=H++B.set 2 v)/\(∀ B v,(H++B).set (N+3) v=H++B.set 3 v)/\(∀ B v,(H++B).set (N+4) v=H++B.set 4 v)/\(∀ B v,(H++B).set (N+5) v=H++B.set 5 v)/\(∀ B v,(H++B).set (N+6) v=H++B.set 6 v):=by
 subst hN;have g:∀ B i,(H++B)[H.length+i]?=B[i]?:=fun B i=>by rw[List.getElem?_append_right (by omega)];congr 1;omega
 have z:∀ B i v,(H++B).set (H.length+i) v=H++B.set i v:=fun B i v=>by rw[List.set_append_right _ _ (by omega)];congr 2;omega
 exact⟨fun B=>g B 0,fun B=>g B 1,fun B=>g B 2,fun B=>g B 3,fun B=>g B 4,fun B=>g B 5,fun B=>g B 6,fun B=>z B 0,fun B=>z B 1,fun B=>z B 2,fun B=>z B 3,fun B=>z B 4,fun B=>z B 5,fun B=>z B 6⟩
theorem ownM (b0:MB) {K:List MB}{N:Nat} (hN:K.length+4=N):(∀ a E,(hp4 b0 K a E).length=N) /\
  (∀ a E B,(hp4 b0 K a E++B)[N]?=B[0]?)/\(∀ a E B,(hp4 b0 K a E++B)[N+1]?=B[1]?)/\(∀ a E B,(hp4 b0 K a E++B)[N+2]?=B[2]?)/\(∀ a E B,(hp4 b0 K a E++B)[N+3]?=B[3]?)/\(∀ a E B,(hp4 b0 K a E++B)[N+4]?=B[4]?)/\(∀ a E B,(hp4 b0 K a E++B)[N+5]?=B[5]?)/\(∀ a E B,(hp4 b0 K a E++B)[N+6]?=B[6]?) /\
  (∀ a E B v,(hp4 b0 K a E++B).set N v=hp4 b0 K a E++B.set 0 v)/\(∀ a E B v,(hp4 b0 K a E++B).set (N+1) v=hp4 b0 K a E++B.set 1 v)/\(∀ a E B v,(hp4 b0 K a E++B).set (N+2) v=hp4 b0 K a E++B.set 2 v)/\(∀ a E B v,(hp4 b0 K a E++B).set (N+3) v=hp4 b0 K a E++B.set 3 v)/\(∀ a E B v,(hp4 b0 K a E++B).set (N+4) v=hp4 b0 K a E++B.set 4 v)/\(∀ a E B v,(hp4 b0 K a E++B).set (N+5) v=hp4 b0 K a E++B.set 5 v)/\(∀ a E B v,(hp4 b0 K a E++B).set (N+6) v=hp4 b0 K a E++B.set 6 v):=by
 have h:∀ a E,(hp4 b0 K a E).length=N:=fun a E=>(FF b0 K a E).trans hN;exact⟨h,fun a E=>(ownH (h a E)).1,fun a E=>(ownH (h a E)).2.1,fun a E=>(ownH (h a E)).2.2.1,fun a E=>(ownH (h a E)).2.2.2.1,fun a E=>(ownH (h a E)).2.2.2.2.1,fun a E=>(ownH (h a E)).2.2.2.2.2.1,fun a E=>(ownH (h a E)).2.2.2.2.2.2.1,fun a E=>(ownH (h a E)).2.2.2.2.2.2.2.1,fun a E=>(ownH (h a E)).2.2.2.2.2.2.2.2.1,fun a E=>(ownH (h a E)).2.2.2.2.2.2.2.2.2.1,fun a E=>(ownH (h a E)).2.2.2.2.2.2.2.2.2.2.1,fun a E=>(ownH (h a E)).2.2.2.2.2.2.2.2.2.2.2.1,fun a E=>(ownH (h a E)).2.2.2.2.2.2.2.2.2.2.2.2.1,fun a E=>(ownH (h a E)).2.2.2.2.2.2.2.2.2.2.2.2.2⟩
theorem JW {G:List MB}{id k z:Nat}{x:AV} (h:G[id]?=some (.row k [x] z)):fzS (.rf id 1 0 0) G=some (.pt x.cells,G.set id (.row k [x] (max z 1))):=by
 have hr:getRow G id=some (k,[x],z):=by unfold getRow;rw[h]
 simp[fzS,fzA,hr,mark]
theorem DP {G:List MB}{id k z:Nat}{x:AV} (h:G[id]?=some (.row k [x] z)) (hp:AV.plainL x.cells=true):fz (.rf id 1 0 0) G=some (.pt x.cells,G.set id (.row k [x] (max z 1))):=by
 have hr:getRow G id=some (k,[x],z):=by unfold getRow;rw[h]
 simp[fz,fzA,hr,mark,fzJ,BO _ _ _ hp]
theorem A5 (k:IntKind) (n:Int):(AV.int k n).cells=[.int k n]:=rfl
theorem Ao (b:Bool):(AV.bool b).cells=[.bool b]:=rfl
theorem Am:AV.nilp.cells=[.nilp]:=rfl
theorem An:AV.nilf.cells=[.nilf]:=rfl
theorem BT (t:Bool) (l:List AV):(AV.sl t l).cells=[.sl t l]:=rfl
theorem BV (l:List AV):(AV.pt l).cells=[.pt l]:=rfl
theorem BU (a b c d:Nat):(AV.rf a b c d).cells=[.rf a b c d]:=rfl
theorem BW (a b c d e:Nat):(AV.ms a b c d e).cells=[.ms a b c d e]:=rfl
theorem A4 (a:Nat):(AV.mpr a).cells=[.mpr a]:=rfl
theorem A6 (f:Nat) (l:List AV):(AV.clo f l).cells=[.clo f l]:=rfl
theorem A7 (l:List AV):(AV.agg l).cells=l:=rfl
theorem Aj (k:IntKind) (n:Int):AV.ok (.int k n)=true:=rfl
theorem Ac (b:Bool):AV.ok (.bool b)=true:=rfl
theorem Aa:AV.ok .nilp=true:=rfl
theorem Ab:AV.ok .nilf=true:=rfl
theorem A0 (t:Bool) (l:List AV):AV.ok (.sl t l)=true:=rfl
theorem Ax (l:List AV):AV.ok (.pt l)=true:=rfl
theorem A1 (a b c d:Nat):AV.ok (.rf a b c d)=true:=rfl
theorem A3 (a b c d e:Nat):AV.ok (.ms a b c d e)=true:=rfl
theorem Ak (a:Nat):AV.ok (.mpr a)=true:=rfl
theorem Al (f:Nat) (l:List AV):AV.ok (.clo f l)=true:=rfl
theorem AQ (g:List GI):(todoA g).cells=[todoA g]:=by cases g<;>rfl
theorem Ah (g:List GI):AV.ok (todoA g)=true:=by cases g<;>rfl
theorem FG (j:List AV->List MB->Option (List AV×List MB)):∀(g:List GI) (H:List MB),fzA j (todoA g) H=some (todoA g,H)
 | [],H=>rfl
 | g::K,H=>by
   have h1:fzA j (giA g) H=some (giA g,H):=by cases g<;>rfl
   have h2:=FG j K H;simp only[todoA,fzA,fzL,h1,h2]
theorem Mj {G:List MB}{id z:Nat} (x:GI) (g:List GI) (h:G[id]?=some (.row 2 [.agg [giA x,todoA g]] z)):fz (.rf id 1 0 0) G=some (todoA (x::g),G.set id (.row 2 [.agg [giA x,todoA g]] (max z 1))):=by
 have hr:getRow G id=some (2,[.agg [giA x,todoA g]],z):=by unfold getRow;rw[h]
 have h1:∀ j H,fzA j (giA x) H=some (giA x,H):=fun j H=>by cases x<;>rfl
 simp[fz,fzA,hr,mark,fzJ,AV.cells,fzL,h1,FG,todoA]
theorem QA {G:List MB}{id z n z' f:Nat}{cs:List AV} (x:GI) (g:List GI) (h:G[id]?=some (.row 2 [.agg [.clo f cs,.rf n 1 0 0]] z)) (h':G[n]?=some (.row 2 [.agg [giA x,todoA g]] z')) (hn:n≠id) :
  fz (.rf id 1 0 0) G=some (.pt [.clo f cs,todoA (x::g)],(G.set id (.row 2 [.agg [.clo f cs,.rf n 1 0 0]] (max z 1))).set n (.row 2 [.agg [giA x,todoA g]] (max z' 1))):=by
 have hr:getRow G id=some (2,[.agg [.clo f cs,.rf n 1 0 0]],z):=by unfold getRow;rw[h]
 have hr2:getRow (G.set id (.row 2 [.agg [.clo f cs,.rf n 1 0 0]] (max z 1))) n=some (2,[.agg [giA x,todoA g]],z'):=by unfold getRow;rw[List.getElem?_set_ne (Ne.symm hn),h']
 have h1:∀ j H,fzA j (giA x) H=some (giA x,H):=fun j H=>by cases x<;>rfl
 simp[fz,fzA,hr,hr2,mark,fzJ,AV.cells,fzL,h1,FG,todoA]
theorem Kc (N:Nat) (b:MB) (hb:MB.under N b=true):∀(H K:List MB) (n:Nat),keptOk N H (H.set n b++K)=true
 | [],K,n=>by cases K<;>rfl
 | x::H,K,0=>by simp[keptOk,hb,Bu]
 | x::H,K,n+1=>by simp[keptOk,MB.beq_refl,Kc N b hb H K n]
theorem N6 {f:Nat} (hk:pol1.keep f=false) (ho:pol1.own f=false) {H B B':List MB}{a r:AV}{n:Nat}{b:MB} (hr:fz a (H++B)=some (r,H.set n b++B')) (hu:AV.under H.length r=true) (hb:MB.under H.length b=true):retPol pol1 f H a (H++B)=some (r,H.set n b):=by
 unfold retPol;simp only[hk,ho,false_eq_true,if_false,hr,hu,Kc _ b hb,and_self,if_true];rw[take_left' (by simp)]
theorem DB {f:Nat} (hk:pol1.keep f=false) (ho:pol1.own f=false) {H B B':List MB}{a r:AV} (hr:fz a (H++B)=some (r,H++B')) (hu:AV.under H.length r=true):retPol pol1 f H a (H++B)=some (r,H):=by
 unfold retPol;simp only[hk,ho,false_eq_true,if_false,hr,hu,Bu,and_self,if_true];rw[take_left' rfl]
theorem Of (g:List GI) (H:List MB):fz (todoA g) H=some (todoA g,H):=FG _ g H
theorem Jv (n:Nat) (hn:3<=n) (g:GI):AV.under n (giA g)=true:=by
 have h1:∀ r,AV.underL n (reC r)=true:=fun r=>AE n _ (AZ r);cases g<;>simp[giA,AV.under,AV.underL,h1]<;>omega
theorem Cw (n:Nat) (hn:3<=n):∀ g:List GI,AV.under n (todoA g)=true
 | []=>rfl
 | g::K=>by simp[todoA,AV.under,AV.underL,Jv n hn g,Cw n hn K]
theorem Cx (n:Nat) (hn:3<=n) (p:Pt):AV.under n (ptA p)=true:=by
 have h1:=AE n _ (AG p.c);simp[AV.under,AV.underL,Cw n hn,h1]
theorem Qy (j:List AV->List MB->Option (List AV×List MB)) (p:Pt) (b:Bool) (H:List MB):fzA j (.tup [ptA p,.bool b]) H=some (.tup [ptA p,.bool b],H):=by
 have h1:=fun H=>BO j (p.c.map I) H (AG p.c);have h2:=fun H=>FG j p.g H;simp only[fzA,fzL,h1,h2]
theorem JK {f:Nat} (hk:pol1.keep f=false) (ho:pol1.own f=false) {b0:MB}{K:List MB}{a a':AV}{E E':List AV}{B:List MB}{r:AV} (hr:fz r (hp4 b0 K a' E'++B)=some (r,hp4 b0 K a' E'++B))
  (hu:AV.under (K.length+4) r=true) (ha:AV.underL (K.length+4) [a']=true) (hE:AV.underL (K.length+4) E' = true) :
  retPol pol1 f (hp4 b0 K a E) r (hp4 b0 K a' E'++B)=some (r,hp4 b0 K a' E'):=by
 have hkk:keptOk (K.length+4) (hp4 b0 K a E) (hp4 b0 K a' E'++B)=true:=by
  unfold hp4;simp only[cons_append,keptOk,MB.beq_refl,Bool.or_true,Bool.true_and,MB.under,ha,hE,Bool.true_or,Bu]
 unfold retPol;simp only[hk,ho,false_eq_true,if_false,hr,FF,hu,hkk,and_self,if_true];rw[<- FF b0 K a' E',take_left' rfl]
theorem Mh (p:Pt) (b:Bool) (H:List MB):fz (.tup [ptA p,.bool b]) H=some (.tup [ptA p,.bool b],H):=Qy _ p b H
abbrev pt0:AV:=.agg [I 0,.nilp,.nilp]
theorem Qz (b:Bool) (H:List MB):fz (.tup [pt0,.bool b]) H=some (.tup [pt0,.bool b],H):=rfl
abbrev mcA (pc:List AV) (tx:List Int) (L n:Nat) (st:Int) (s F:Nat):AV:=.agg [.pt pc,.sl false (tx.map I),.mpr 1,.ms 3 3 L 0 n,I st,NV s,NV F,.bool false]
theorem CZ {pc:List AV} (hpc:AV.plainL pc=true) (tx:List Int) (L n:Nat) (st:Int) (s F N:Nat) (hN:4<=N):AV.underL N [mcA pc tx L n st s F]=true:=by
 have h1:=AE N _ hpc;have h2:=AE N _ (AG tx);simp[AV.underL,AV.under,h1,h2];omega
theorem s100 (r:Re) (g:List GI) (H:List MB) (hH:3<=H.length):call Pg pol1 92 [.rf 2 1 0 0,.pt (reC r),todoA g] H=some (todoA (.re r::g),H):=by
 have hfz:∀ G,fz (todoA g) G=some (todoA g,G):=Of g;refine AO (pol:=pol1) Tryz.func92 rfl rfl rfl rfl (AL _ _ 0 rfl) ?_;have pl:=AZ r;simp only[giA,todoA];obtain⟨c,hc⟩:∃ c,reC r=c:=⟨_,rfl⟩;rw[hc]at pl |-;obtain⟨N,hN⟩:∃ N,H.length=N:=⟨_,rfl⟩;obtain⟨g0,g1,g2,g3,g4,g5,g6,z0,z1,z2,z3,z4,z5,z6⟩:=ownH hN;have b0:∀ a b,fzS (.rf N 1 0 0) (H++[.row 1 [.rf a 1 0 0] 0,b])=some (.pt [.rf a 1 0 0],H++[.row 1 [.rf a 1 0 0] 1,b]):=fun a b=>by rw[JW (g0 _),z0];rfl
 have b1:∀ a,fz (.rf (N+1) 1 0 0) (H++[a,.row 1 [.pt c] 0])=some (.pt [.pt c],H++[a,.row 1 [.pt c] 1]):=fun a=>by rw[DP (g1 _) (by simp[AV.cells,AV.plainL,AV.plain,pl]),z1];rfl
 simp +contextual (disch:=omega) only[Tryz.f92,dd92,go_sem,simprocAttr,mu92,↓AD,↓AC,↓AB,↓AA,hN,b0,b1,A5,Ao,Am,An,BT,BV,BU,BW,A4,A6,A7,AQ,Ah,Aj,Ac,Aa,Ab,A0,Ax,A1,A3,Ak,Al,append_assoc,cons_append,nil_append,length_append,length_cons,length_nil];subst hc;have hr:∀ a b,fz (.rf (N+2) 1 0 0) (H++[a,b,.row 2 [.agg [giA (.re r),todoA g]] 0])=some (todoA (.re r::g),H++[a,b,.row 2 [.agg [giA (.re r),todoA g]] 1]):=fun a b=>by rw[Mj _ _ (g2 _),z2];rfl
 have hu:=Cw H.length hH (.re r::g);exact DB rfl rfl (hr _ _) hu
theorem R5 (r:Re) (x:GI) (g:List GI) (H:List MB) (n z:Nat) (h:H[n]?=some (.row 2 [.agg [giA x,todoA g]] z)) (hH:3<=H.length) :
  call Pg pol1 92 [.rf 2 1 0 0,.pt (reC r),.rf n 1 0 0] H=some (todoA (.re r::x::g),H.set n (.row 2 [.agg [giA x,todoA g]] (max z 1))):=by
 refine AO (pol:=pol1) Tryz.func92 rfl rfl rfl rfl (AL _ _ 0 rfl) ?_;have pl:=AZ r;have hn:=(List.getElem?_eq_some_iff.1 h).1;have eT:todoA (.re r::x::g)=.pt [.clo 124 [.pt [.pt (reC r)],.pt [.rf 2 1 0 0]],todoA (x::g)]:=rfl;rw[eT];obtain⟨c,hc⟩:∃ c,reC r=c:=⟨_,rfl⟩;rw[hc]at pl |-;obtain⟨N,hN⟩:∃ N,H.length=N:=⟨_,rfl⟩;obtain⟨g0,g1,g2,g3,g4,g5,g6,z0,z1,z2,z3,z4,z5,z6⟩:=ownH hN;have b0:∀ a b,fzS (.rf N 1 0 0) (H++[.row 1 [.rf a 1 0 0] 0,b])=some (.pt [.rf a 1 0 0],H++[.row 1 [.rf a 1 0 0] 1,b]):=fun a b=>by rw[JW (g0 _),z0];rfl
 have b1:∀ a,fz (.rf (N+1) 1 0 0) (H++[a,.row 1 [.pt c] 0])=some (.pt [.pt c],H++[a,.row 1 [.pt c] 1]):=fun a=>by rw[DP (g1 _) (by simp[AV.cells,AV.plainL,AV.plain,pl]),z1];rfl
 simp +contextual (disch:=omega) only[Tryz.f92,dd92,go_sem,simprocAttr,mu92,↓AD,↓AC,↓AB,↓AA,hN,b0,b1,A5,Ao,Am,An,BT,BV,BU,BW,A4,A6,A7,AQ,Ah,Aj,Ac,Aa,Ab,A0,Ax,A1,A3,Ak,Al,append_assoc,cons_append,nil_append,length_append,length_cons,length_nil];have e1:=QA (G:=H++[.row 1 [.rf 2 1 0 0] 1,.row 1 [.pt c] 1,.row 2 [.agg [.clo 124 [.pt [.pt c],.pt [.rf 2 1 0 0]],.rf n 1 0 0]] 0]) (id:=N+2) (z:=0) x g (by rw[g2];rfl) (n:=n) (z':=z) (by rw[List.getElem?_append_left hn];exact h) (by omega);rw[z2,List.set_append_left _ _ hn]at e1;have hu:=Cw H.length hH (.re r::x::g);have hu2:=Cw H.length hH (x::g);simp only[todoA,AV.under]at hu2;subst hc;exact N6 rfl rfl e1 hu (by simpa [MB.under,AV.underL,AV.under] using hu2)
theorem s135 (b0:MB) (K:List MB) {pc:List AV} (hpc:AV.plainL pc=true) (tx:List Int) (L n:Nat) (st:Int) (s F:Nat) (E:List AV) (hE:AV.underL (K.length+4) E=true) (hs:s<F) (hF:F<=1099511627776) :
  call Pg pol1 125 [.rf 2 1 0 0] (hp4 b0 K (mcA pc tx L n st s F) E)=some (.bool true,hp4 b0 K (mcA pc tx L n st (s+1) F) E):=by
 refine AO (pol:=pol1) Tryz.func125 rfl rfl rfl rfl (AL _ _ 0 rfl) ?_;have hw:IntKind.i64.wrap ((s:Int)+1)=((s+1:Nat):Int):=by rw[i64_in]<;>omega
 have hlt:((F:Int)<=(s:Int))=False:=eq_false (by omega);have hu:=CZ hpc tx L n st (s+1) F (K.length+4) (by omega);have hret:=JK (f:=125) rfl rfl (b0:=b0) (K:=K) (a:=mcA pc tx L n st s F) (a':=mcA pc tx L n st (s+1) F) (E:=E) (E':=E) (B:=[]) (r:=.bool true) rfl rfl hu hE;rw[List.append_nil]at hret;have g0:=SU b0 K (mcA pc tx L n st s F) E;have z0:=z42' b0 K (mcA pc tx L n st s F) E (mcA pc tx L n st (s+1) F);generalize hp4 b0 K (mcA pc tx L n st s F) E=H0 at *;generalize hp4 b0 K (mcA pc tx L n st (s+1) F) E=H1 at *;simp +contextual (disch:=omega) only[Tryz.f125,Sp,go_sem,simprocAttr,SG,↓AD,↓AC,↓AB,↓AA,hw,hlt,g0,z0,A5,Ao,Am,An,BT,BV,BU,BW,A4,A6,A7,AQ,Ah,Aj,Ac,Aa,Ab,A0,Ax,A1,A3,Ak,Al,append_assoc,cons_append,nil_append,length_append,length_cons,length_nil];repeat' (first|intro _|apply And.intro|(unfold dOk;kernel_rfl)|(show (_||_)=true;kernel_rfl)|(show (_&&_)=true;kernel_rfl))
 exact hret
end
section
attribute [local go_sem] evAppend
theorem M6 {l:List AV} (h:AV.plainL l=true):AV.plainL (AV.cells (.pt l))=true:=by simp[AV.cells,AV.plainL,AV.plain,h]
def qA:Option Pt->AV
 | some p=>ptA p
 | none=>pt0
theorem KE {f:Nat} (hk:pol1.keep f=false) (ho:pol1.own f=false) {H B:List MB} (hH:3<=H.length) (p:Pt) (b:Bool):retPol pol1 f H (.tup [ptA p,.bool b]) (H++B)=some (.tup [ptA p,.bool b],H):=
 DB hk ho (Mh p b _) (by
  have:=Cx H.length hH p;simp only[AV.under,AV.underL,Bool.and_true]at this |-;exact this)
theorem R6 {f:Nat} (hk:pol1.keep f=false) (ho:pol1.own f=false) {H B:List MB} (b:Bool):retPol pol1 f H (.tup [pt0,.bool b]) (H++B)=some (.tup [pt0,.bool b],H):=
 DB hk ho (Qz b _) rfl
theorem Qs {f:Nat} (hk:pol1.keep f=false) (ho:pol1.own f=false) {H B:List MB} (hH:3<=H.length) (i:Nat) (cs:List Int) (x:GI) (g:List GI) (b:Bool) {m j z:Nat} (hm:m=H.length+j) (h:B[j]?=some (.row 2 [.agg [giA x,todoA g]] z)) :
  retPol pol1 f H (.tup [.agg [NV i,cpA cs,.rf m 1 0 0],.bool b]) (H++B)=some (.tup [ptA ⟨i,cs,x::g⟩,.bool b],H):=by
 have hg:(H++B)[m]?=some (.row 2 [.agg [giA x,todoA g]] z):=by rw[hm,List.getElem?_append_right (by omega),Nat.add_sub_cancel_left];exact h
 have h1:=Mj x g hg;rw[hm,List.set_append_right _ _ (by omega),Nat.add_sub_cancel_left]at h1;rw[<- hm]at h1;have hc:∀ G,fzA (fzJ 6) (cpA cs) G=some (cpA cs,G):=fun G=>Az G (by simp[AV.plain,AG]);unfold fz at h1;refine DB hk ho (B':=B.set j (.row 2 [.agg [giA x,todoA g]] (max z 1))) ?_ (by
  have:=Cx H.length hH ⟨i,cs,x::g⟩;simp only[AV.under,AV.underL,Bool.and_true]at this |-;exact this)
 unfold fz;simp only[fzA,fzL]at hc |-;simp only[fzA,fzL,hc]at h1 |-;simp only[h1]
theorem s122 (c:List AV) (p:Pt) (H:List MB) (hH:3<=H.length):call Pg pol1 112 [.rf 2 1 0 0,.pt c,ptA p] H=some (.tup [ptA p,.bool true],H):=by
 obtain⟨i,cs,g⟩:=p;have hret:=fun B=>KE (f:=112) (H:=H) (B:=B) rfl rfl hH ⟨i,cs,g⟩ true;refine AO (pol:=pol1) Tryz.func112 rfl rfl rfl rfl (AL _ _ 0 rfl) ?_;obtain⟨N,hN⟩:∃ N,H.length=N:=⟨_,rfl⟩;obtain⟨g0,g1,g2,g3,g4,g5,g6,z0,z1,z2,z3,z4,z5,z6⟩:=ownH hN;simp +contextual (disch:=omega) only[Tryz.f112,Su,go_sem,simprocAttr,SK,↓AD,↓AC,↓AB,↓AA,hN,g0,g1,g2,g3,g4,g5,g6,z0,z1,z2,z3,z4,z5,z6,A5,Ao,Am,An,BT,BV,BU,BW,A4,A6,A7,AQ,Ah,Aj,Ac,Aa,Ab,A0,Ax,A1,A3,Ak,Al,append_assoc,cons_append,nil_append,length_append,length_cons,length_nil];repeat' (first|intro _|apply And.intro|(unfold dOk;kernel_rfl)|(show (_||_)=true;kernel_rfl)|(show (_&&_)=true;kernel_rfl))
 exact hret _
def AllU (H:List MB):Prop:=∀ n,H.length<=n->H.all (MB.under n)=true
theorem s123 (set:List (Int×Int)) (hset:set.length<=1000000) (kids:List Re) (mn mx md n:Int) (neg:Bool) (p:Pt) (t:List Int) (ht:t.length<=1000000) (H:List MB) (hH:3<=H.length) (hU:AllU H) {a2 l2:List AV} (ha:H[2]?=some (.row 8 [.agg (.pt a2::.sl false (t.map I)::l2)] 0)) :
  call Pg pol1 113 [.rf 2 1 0 0,.pt (reC (.mk 1 set kids mn mx md n neg)),ptA p] H=some (.tup [qA (match t[p.i]? with
   | some x=>if hasSpan set x=true then some ⟨p.i+1,p.c,p.g⟩ else none
   | none=>none),.bool (match t[p.i]? with
   | some x=>hasSpan set x
   | none=>false)],H):=by
 obtain⟨i,cs,g⟩:=p;have hret:=fun B=>KE (f:=113) (H:=H) (B:=B) rfl rfl hH ⟨i+1,cs,g⟩ true;have hret0:=fun B=>R6 (f:=113) (H:=H) (B:=B) rfl rfl false;have gM:∀ B,(H++B)[2]?=some (.row 8 [.agg (.pt a2::.sl false (t.map I)::l2)] 0):=fun B=>by rw[List.getElem?_append_left (by omega)];exact ha
 refine AO (pol:=pol1) Tryz.func113 rfl rfl rfl rfl (AL _ _ 0 rfl) ?_;rw[Bh];obtain⟨N,hN⟩:∃ N,H.length=N:=⟨_,rfl⟩;obtain⟨g0,g1,g2,g3,g4,g5,g6,z0,z1,z2,z3,z4,z5,z6⟩:=ownH hN;cases hx:t[i]? with
 | none=>
   have hge:((t.length:Int)<=(i:Int))=True:=eq_true (by have:=List.getElem?_eq_none_iff.1 hx;omega);simp +contextual (disch:=omega) only[Tryz.f113,Iw,go_sem,simprocAttr,Ia,↓AD,↓AC,↓AB,↓AA,hN,gM,hge,g0,g1,g2,g3,g4,g5,g6,z0,z1,z2,z3,z4,z5,z6,A5,Ao,Am,An,BT,BV,BU,BW,A4,A6,A7,AQ,Ah,Aj,Ac,Aa,Ab,A0,Ax,A1,A3,Ak,Al,append_assoc,cons_append,nil_append,length_append,length_cons,length_nil];repeat' (first|intro _|apply And.intro|(unfold dOk;kernel_rfl)|(show (_||_)=true;kernel_rfl)|(show (_&&_)=true;kernel_rfl))
   exact hret0 _
 | some x=>
   have hil:=(List.getElem?_eq_some_iff.1 hx).1;have hge:((t.length:Int)<=(i:Int))=False:=eq_false (by omega);have hlt:((i:Int)<(t.length:Int))=True:=eq_true (by omega);have hx':(t.map I)[i]?=some (I x):=by simp[hx]
   have hwi:IntKind.i64.wrap ((i:Int)+1)=((i+1:Nat):Int):=by rw[i64_in]<;>omega
   simp +contextual (disch:=omega) only[Tryz.f113,Iw,go_sem,simprocAttr,Ia,↓AD,↓AC,↓AB,↓AA,hN,gM,hge,hlt,hx',g0,g1,g2,g3,g4,g5,g6,z0,z1,z2,z3,z4,z5,z6,A5,Ao,Am,An,BT,BV,BU,BW,A4,A6,A7,AQ,Ah,Aj,Ac,Aa,Ab,A0,Ax,A1,A3,Ak,Al,append_assoc,cons_append,nil_append,length_append,length_cons,length_nil];repeat' (first|intro _|apply And.intro|(unfold dOk;kernel_rfl)|(show (_||_)=true;kernel_rfl)|(show (_&&_)=true;kernel_rfl))
   have uH:∀(i:Nat) (cs:List Int) (g:List GI),(H++[MB.row 3 [ptA ⟨i,cs,g⟩] 0,MB.row 3 [pt0] 0]).all (MB.under (N+2))=true:=fun i cs g=>by
    have h1:=hU (N+2) (by omega);have h2:=Cx (N+2) (by omega) ⟨i,cs,g⟩;rw[List.all_append,h1];simp only[all_cons,all_nil,MB.under,AV.underL,h2];rfl
   have tk:∀(a b:MB) (G:List MB),(H++a::b::G).take (N+2)=H++[a,b]:=fun a b G=>by rw[show H++a::b::G=(H++[a,b])++G by simp,take_left' (by simp[hN])]
   have ulS:AV.underL (N+2) (set.map spanAV)=true:=AE _ _ (AF set)
   refine Ae (M:=⟨some [33,32,31,8,6,5],some (N+2),[]⟩) (by rfl) set.length (fun k=>(⟨54,[(33,NV k),(32,NV set.length),(31,.sl false (set.map spanAV)),(8,I x),(6,.rf (N+1) 1 0 0),(5,.rf N 1 0 0)],H++[.row 3 [ptA ⟨i,cs,g⟩] 0,.row 3 [pt0] 0]⟩:St))
    (fun k=>∀ j q,j<k->set[j]?=some q->¬(q.1<=x/\x<=q.2)) ?_ ?_ (fun j q hj=>absurd hj (Nat.not_lt_zero j)) _ ?_
   ·intro k hk hno;obtain⟨q,hq⟩:∃ q,set[k]?=some q:=⟨_,List.getElem?_eq_getElem hk⟩;have hq':(set.map spanAV)[k]?=some (spanAV q):=by simp[hq]
    have hlk:((k:Int)<((set.length:Nat):Int))=True:=eq_true (by omega);have hwk:IntKind.i64.wrap ((k:Int)+1)=((k+1:Nat):Int):=by rw[i64_in]<;>omega
    have hdone:hasSpan set x=true->¬¬(q.1<=x/\x<=q.2)->True:=fun _ _=>trivial;have hnext:¬(q.1<=x/\x<=q.2)->∀ j q',j<k+1->set[j]?=some q'->¬(q'.1<=x/\x<=q'.2):=fun h j q' hj e=>by
     rcases Nat.lt_or_ge j k with h1|h1
     ·exact hno j q' h1 e
     ·have:j=k:=by omega
      subst this;rw[hq]at e;cases e;exact h
    by_cases h1:q.1<=x
    ·by_cases h2:x<=q.2
     ·have hh:=Eg hq ⟨h1,h2⟩;rw[hh]at *;simp +contextual (disch:=omega) only[Tryz.f113,Iw,go_sem,simprocAttr,Ia,↓AD,↓AC,↓AB,↓AA,hN,gM,hq',hlk,hwk,hwi,h1,h2,g0,g1,g2,g3,g4,g5,g6,z0,z1,z2,z3,z4,z5,z6,A5,Ao,Am,An,BT,BV,BU,BW,A4,A6,A7,AQ,Ah,Aj,Ac,Aa,Ab,A0,Ax,A1,A3,Ak,Al,append_assoc,cons_append,nil_append,length_append,length_cons,length_nil];repeat' (first|intro _|apply And.intro|(unfold dOk;kernel_rfl)|(show (_||_)=true;kernel_rfl)|(show (_&&_)=true;kernel_rfl))
      exact hret _
     ·simp +contextual (disch:=omega) only[Tryz.f113,Iw,go_sem,simprocAttr,Ia,↓AD,↓AC,↓AB,↓AA,hN,gM,hq',hlk,hwk,h1,h2,g0,g1,g2,g3,g4,g5,g6,z0,z1,z2,z3,z4,z5,z6,A5,Ao,Am,An,BT,BV,BU,BW,A4,A6,A7,AQ,Ah,Aj,Ac,Aa,Ab,A0,Ax,A1,A3,Ak,Al,append_assoc,cons_append,nil_append,length_append,length_cons,length_nil];refine⟨hnext (by omega),BD rfl rfl rfl (tk _ _ _) ?_ (uH i cs g)⟩;simp only[map_cons,map_nil,AV.underL,AV.under,ulS];simp
    ·simp +contextual (disch:=omega) only[Tryz.f113,Iw,go_sem,simprocAttr,Ia,↓AD,↓AC,↓AB,↓AA,hN,gM,hq',hlk,hwk,h1,g0,g1,g2,g3,g4,g5,g6,z0,z1,z2,z3,z4,z5,z6,A5,Ao,Am,An,BT,BV,BU,BW,A4,A6,A7,AQ,Ah,Aj,Ac,Aa,Ab,A0,Ax,A1,A3,Ak,Al,append_assoc,cons_append,nil_append,length_append,length_cons,length_nil];refine⟨hnext (by omega),BD rfl rfl rfl (tk _ _ _) ?_ (uH i cs g)⟩;simp only[map_cons,map_nil,AV.underL,AV.under,ulS];simp
   ·intro hno;have hh:hasSpan set x=false:=Ef fun k q hk e=>hno k q hk e;rw[hh]at *;simp +contextual (disch:=omega) only[Tryz.f113,Iw,go_sem,simprocAttr,Ia,↓AD,↓AC,↓AB,↓AA,hN,gM,g0,g1,g2,g3,g4,g5,g6,z0,z1,z2,z3,z4,z5,z6,A5,Ao,Am,An,BT,BV,BU,BW,A4,A6,A7,AQ,Ah,Aj,Ac,Aa,Ab,A0,Ax,A1,A3,Ak,Al,append_assoc,cons_append,nil_append,length_append,length_cons,length_nil];repeat' (first|intro _|apply And.intro|(unfold dOk;kernel_rfl)|(show (_||_)=true;kernel_rfl)|(show (_&&_)=true;kernel_rfl))
    exact hret0 _
   ·refine BD rfl rfl rfl (tk _ _ _) ?_ (uH i cs g);simp only[map_cons,map_nil,AV.underL,AV.under,ulS];simp
theorem s148 (r:Re) (k:Int) (H:List MB) (hH:3<=H.length):call Pg pol1 141 [.rf 2 1 0 0,.pt (reC r),I k] H=some (giA (.round r k),H):=by
 refine AO (pol:=pol1) Tryz.func141 rfl rfl rfl rfl (AL _ _ 0 rfl) ?_;have pl:=AZ r;have eT:giA (.round r k)=.clo 164 [.pt [.rf 2 1 0 0],.pt [.pt (reC r)],.pt [I k]]:=rfl;rw[eT];have hu:=Jv H.length hH (.round r k);rw[eT]at hu;obtain⟨c,hc⟩:∃ c,reC r=c:=⟨_,rfl⟩;rw[hc]at pl hu |-;have hret:=fun B=>DB (f:=141) (H:=H) (B:=B) (B':=B) (a:=.clo 164 [.pt [.rf 2 1 0 0],.pt [.pt c],.pt [I k]]) rfl rfl rfl hu;obtain⟨N,hN⟩:∃ N,H.length=N:=⟨_,rfl⟩;obtain⟨g0,g1,g2,g3,g4,g5,g6,z0,z1,z2,z3,z4,z5,z6⟩:=ownH hN;have b0:∀ a b c,fzS (.rf N 1 0 0) (H++[.row 1 [.rf a 1 0 0] 0,b,c])=some (.pt [.rf a 1 0 0],H++[.row 1 [.rf a 1 0 0] 1,b,c]):=fun a b c=>by rw[JW (g0 _),z0];rfl
 have b1:∀ a b,fz (.rf (N+1) 1 0 0) (H++[a,.row 1 [.pt c] 0,b])=some (.pt [.pt c],H++[a,.row 1 [.pt c] 1,b]):=fun a b=>by rw[DP (g1 _) (by simp[AV.cells,AV.plainL,AV.plain,pl]),z1];rfl
 have b2:∀ a b,fz (.rf (N+2) 1 0 0) (H++[a,b,.row 1 [I k] 0])=some (.pt [I k],H++[a,b,.row 1 [I k] 1]):=fun a b=>by rw[DP (g2 _) rfl,z2];rfl
 simp +contextual (disch:=omega) only[Tryz.f141,Sl,go_sem,simprocAttr,SC,↓AD,↓AC,↓AB,↓AA,hN,b0,b1,b2,A5,Ao,Am,An,BT,BV,BU,BW,A4,A6,A7,AQ,Ah,Aj,Ac,Aa,Ab,A0,Ax,A1,A3,Ak,Al,append_assoc,cons_append,nil_append,length_append,length_cons,length_nil];repeat' (first|intro _|apply And.intro|(unfold dOk;kernel_rfl)|(show (_||_)=true;kernel_rfl)|(show (_&&_)=true;kernel_rfl))
 exact hret _
theorem s126 (set:List (Int×Int)) (kids:List Re) (mn mx md n:Int) (neg:Bool) (hmd:md≠2) (p:Pt) (H:List MB) (hH:3<=H.length) :
  call Pg pol1 116 [.rf 2 1 0 0,.pt (reC (.mk 4 set kids mn mx md n neg)),ptA p] H=some (.tup [ptA ⟨p.i,p.c,.round (.mk 4 set kids mn mx md n neg) 0::p.g⟩,.bool true],H):=by
 obtain⟨i,cs,g⟩:=p;refine AO (pol:=pol1) Tryz.func116 rfl rfl rfl rfl (AL _ _ 0 rfl) ?_;have h148:=fun B=>s148 (.mk 4 set kids mn mx md n neg) 0 (H++B) (by simp;omega);have hret:=fun B m j z=>Qs (f:=116) (H:=H) (B:=B) rfl rfl hH i cs (.round (.mk 4 set kids mn mx md n neg) 0) g true (m:=m) (j:=j) (z:=z);have hxc:(giA (.round (.mk 4 set kids mn mx md n neg) 0)).cells=[giA (.round (.mk 4 set kids mn mx md n neg) 0)]:=rfl;have hxo:AV.ok (giA (.round (.mk 4 set kids mn mx md n neg) 0))=true:=rfl;generalize giA (.round (.mk 4 set kids mn mx md n neg) 0)=X at *;rw[Bh]at *;obtain⟨N,hN⟩:∃ N,H.length=N:=⟨_,rfl⟩;obtain⟨g0,g1,g2,g3,g4,g5,g6,z0,z1,z2,z3,z4,z5,z6⟩:=ownH hN;have h5:(md=2)=False:=eq_false hmd;simp +contextual (disch:=omega) only[Tryz.f116,Ss,go_sem,simprocAttr,SJ,↓AD,↓AC,↓AB,↓AA,hN,h148,h5,hxc,hxo,g0,g1,g2,g3,g4,g5,g6,z0,z1,z2,z3,z4,z5,z6,A5,Ao,Am,An,BT,BV,BU,BW,A4,A6,A7,AQ,Ah,Aj,Ac,Aa,Ab,A0,Ax,A1,A3,Ak,Al,append_assoc,cons_append,nil_append,length_append,length_cons,length_nil];repeat' (first|intro _|apply And.intro|(unfold dOk;kernel_rfl)|(show (_||_)=true;kernel_rfl)|(show (_&&_)=true;kernel_rfl))
 exact hret _ _ 2 _ (by rw[hN]) rfl
theorem s127 (set:List (Int×Int)) (kid:Re) (mn mx md n:Int) (neg:Bool) (p:Pt) (H:List MB) (hH:3<=H.length) :
  call Pg pol1 117 [.rf 2 1 0 0,.pt (reC (.mk 5 set [kid] mn mx md n neg)),ptA p] H=some (.tup [ptA ⟨p.i,p.c,.re kid::.done (.mk 5 set [kid] mn mx md n neg) p.i::p.g⟩,.bool true],H):=by
 obtain⟨i,cs,g⟩:=p;have hret:=fun B=>KE (f:=117) (H:=H) (B:=B) rfl rfl hH ⟨i,cs,.re kid::.done (.mk 5 set [kid] mn mx md n neg) i::g⟩ true;refine AO (pol:=pol1) Tryz.func117 rfl rfl rfl rfl (AL _ _ 0 rfl) ?_;have pl:=AZ (.mk 5 set [kid] mn mx md n neg);have plk:=AZ kid;rw[Bh]at pl |-;obtain⟨N,hN⟩:∃ N,H.length=N:=⟨_,rfl⟩
 have h100:∀ a b c d,call Pg pol1 92 [.rf 2 1 0 0,.pt (reC kid),.rf (N+4) 1 0 0] (H++[a,b,c,d,.row 2 [.agg [.clo 143 [.pt [NV i],.pt [.pt [I 5,.sl false (set.map spanAV),.sl false ([kid].map reAV),I mn,I mx,I md,I n,.bool neg]]],todoA g]] 0]) =
   some (todoA (.re kid::.done (.mk 5 set [kid] mn mx md n neg) i::g),H++[a,b,c,d,.row 2 [.agg [.clo 143 [.pt [NV i],.pt [.pt [I 5,.sl false (set.map spanAV),.sl false ([kid].map reAV),I mn,I mx,I md,I n,.bool neg]]],todoA g]] 1]):=fun a b c d=>by
  have:=R5 kid (.done (.mk 5 set [kid] mn mx md n neg) i) g (H++[a,b,c,d,.row 2 [.agg [giA (.done (.mk 5 set [kid] mn mx md n neg) i),todoA g]] 0]) (N+4) 0 (by rw[(ownH hN).2.2.2.2.1];rfl) (by simp<;>omega);rw[(ownH hN).2.2.2.2.2.2.2.2.2.2.2.1]at this;simp only[giA,Bh]at this;exact this
 generalize hT:todoA (.re kid::.done (.mk 5 set [kid] mn mx md n neg) i::g)=T at *;have hTc:T.cells=[T]:=by rw[<- hT];exact AQ _
 have hTo:AV.ok T=true:=by rw[<- hT];exact Ah _
 obtain⟨ck,hck⟩:∃ ck,reC kid=ck:=⟨_,rfl⟩;have hkl:=AM kid;obtain⟨g0,g1,g2,g3,g4,g5,g6,z0,z1,z2,z3,z4,z5,z6⟩:=ownH hN;simp only[map_cons,map_nil,reAV]at *;rw[hck]at *;have b0:∀ a b,fz (.rf N 1 0 0) (H++[.row 1 [.pt [I 5,.sl false (set.map spanAV),.sl false [.agg ck],I mn,I mx,I md,I n,.bool neg]] 0,a,b])=some (.pt [.pt [I 5,.sl false (set.map spanAV),.sl false [.agg ck],I mn,I mx,I md,I n,.bool neg]],H++[.row 1 [.pt [I 5,.sl false (set.map spanAV),.sl false [.agg ck],I mn,I mx,I md,I n,.bool neg]] 1,a,b]):=fun a b=>by
  rw[DP (g0 _) (M6 pl),z0];rfl
 have b1:∀ a b c,fz (.rf (N+3) 1 0 0) (H++[a,b,c,.row 1 [NV i] 0])=some (.pt [NV i],H++[a,b,c,.row 1 [NV i] 1]):=fun a b c=>by rw[DP (g3 _) rfl,z3];rfl
 simp +contextual (disch:=omega) only[Tryz.f117,Sq,go_sem,simprocAttr,SH,↓AD,↓AC,↓AB,↓AA,hN,b0,b1,h100,hkl,hTc,hTo,g0,g1,g2,g3,g4,g5,g6,z0,z1,z2,z3,z4,z5,z6,A5,Ao,Am,An,BT,BV,BU,BW,A4,A6,A7,AQ,Ah,Aj,Ac,Aa,Ab,A0,Ax,A1,A3,Ak,Al,append_assoc,cons_append,nil_append,length_append,length_cons,length_nil];repeat' (first|intro _|apply And.intro|(unfold dOk;kernel_rfl)|(show (_||_)=true;kernel_rfl)|(show (_&&_)=true;kernel_rfl))
 subst hT;exact hret _
theorem set2 {α:Type}:∀(l:List α) (q:Nat) (a b:α),q+2<=l.length->l.take q++(a::b::l.drop (q+2))=(l.set q a).set (q+1) b
 | [],q,a,b,h=>by simp at h
 | [x],q,a,b,h=>by simp at h
 | x::y::l,0,a,b,h=>rfl
 | x::y::l,q+1,a,b,h=>by
   have:=set2 (y::l) q a b (by simp at h |-;omega);simp only[List.take_succ_cons,cons_append,List.drop_succ_cons,List.set_cons_succ]at this |-;rw[this]
theorem s150 (op:Int) (set:List (Int×Int)) (kids:List Re) (mn mx md n:Int) (neg:Bool) (hn:1<=n/\n<=9) (a i:Nat) (cs:List Int) (hcs:cs.length=18) (g:List GI) (H:List MB) (hH:3<=H.length) :
  call Pg pol1 143 [NV i,cpA cs,todoA g,.pt [NV a],.pt [.pt (reC (.mk op set kids mn mx md n neg))]] H=some (.tup [ptA ⟨i,setC cs n a i,g⟩,.bool true],H):=by
 have hret:=fun B=>KE (f:=143) (H:=H) (B:=B) rfl rfl hH ⟨i,setC cs n a i,g⟩ true;refine AO (pol:=pol1) Tryz.func143 rfl rfl rfl rfl (AL _ _ 0 rfl) ?_;rw[Bh];obtain⟨N,hN⟩:∃ N,H.length=N:=⟨_,rfl⟩;obtain⟨g0,g1,g2,g3,g4,g5,g6,z0,z1,z2,z3,z4,z5,z6⟩:=ownH hN;have hw:IntKind.i64.wrap (n-1)=n-1:=by rw[i64_in]<;>omega
 have hlt:(n-1<9)=True:=eq_true (by omega);have hge:(0<=n-1)=True:=eq_true (by omega);have htk:(cs.map I).take 18=cs.map I:=List.take_of_length_le (by simp[hcs]);have hspl:(cs.map I).take ((n-1).toNat*2)++(NV a::NV i::(cs.map I).drop ((n-1).toNat*2+2))=(setC cs n a i).map I:=by
  have h1:(2*n-2).toNat=(n-1).toNat*2:=by omega
  have h2:(2*n-1).toNat=(n-1).toNat*2+1:=by omega
  unfold setC;rw[h1,h2,<- set2 cs _ _ _ (by omega)];simp
 have hall:(cs.map I).all AV.ok=true:=by simp[AV.ok]
 have hml:(cs.map I).length=18:=by simp[hcs]
 have hall2:((setC cs n a i).map I).all AV.ok=true:=by simp[AV.ok]
 have hml2:((setC cs n a i).map I).length=18:=by simp[Gp,hcs]
 have b0:∀(a:MB) (S:List Int),fz (.rf (N+1) 1 0 0) (H++[a,.row 18 [.agg (S.map I)] 0])=some (.pt (S.map I),H++[a,.row 18 [.agg (S.map I)] 1]):=fun a S=>by rw[DP (x:=.agg (S.map I)) (g1 _) (AG S),z1];rfl
 generalize hS:setC cs n a i=S at *;simp +contextual (disch:=omega) only[Tryz.f143,Sk,go_sem,simprocAttr,SB,↓AD,↓AC,↓AB,↓AA,b0,hN,hw,hlt,hge,htk,hspl,hall,hml,hall2,hml2,g0,g1,g2,g3,g4,g5,g6,z0,z1,z2,z3,z4,z5,z6,A5,Ao,Am,An,BT,BV,BU,BW,A4,A6,A7,AQ,Ah,Aj,Ac,Aa,Ab,A0,Ax,A1,A3,Ak,Al,append_assoc,cons_append,nil_append,length_append,length_cons,length_nil];repeat' (first|intro _|apply And.intro|(unfold dOk;kernel_rfl)|(show (_||_)=true;kernel_rfl)|(show (_&&_)=true;kernel_rfl))
 exact hret _
end
section
theorem s124 (set:List (Int×Int)) (kids:List Re) (hk:kids.length<=100000) (mn mx md n:Int) (neg:Bool) (p:Pt) (H:List MB) (hH:3<=H.length) :
  call Pg pol1 114 [.rf 2 1 0 0,.pt (reC (.mk 2 set kids mn mx md n neg)),ptA p] H=some (.tup [ptA ⟨p.i,p.c,kids.map .re++p.g⟩,.bool true],H):=by
 obtain⟨i,cs,g⟩:=p;have hret:=fun B=>KE (f:=114) (H:=H) (B:=B) rfl rfl hH ⟨i,cs,kids.map .re++g⟩ true;have h100:=fun kid g B=>s100 kid g (H++B) (by simp<;>omega);refine AO (pol:=pol1) Tryz.func114 rfl rfl rfl rfl (AL _ _ 0 rfl) ?_;rw[Bh];obtain⟨N,hN⟩:∃ N,H.length=N:=⟨_,rfl⟩;obtain⟨g0,g1,g2,g3,g4,g5,g6,z0,z1,z2,z3,z4,z5,z6⟩:=ownH hN;have hw:IntKind.i64.wrap (((kids.length:Nat):Int)-1)=((kids.length:Nat):Int)-1:=by rw[i64_in]<;>omega
 simp +contextual (disch:=omega) only[Tryz.f114,O8,go_sem,simprocAttr,evAppend,OW,↓AD,↓AC,↓AB,↓AA,hN,hw,g0,g1,g2,g3,g4,g5,g6,z0,z1,z2,z3,z4,z5,z6,A5,Ao,Am,An,BT,BV,BU,BW,A4,A6,A7,AQ,Ah,Aj,Ac,Aa,Ab,A0,Ax,A1,A3,Ak,Al,append_assoc,cons_append,nil_append,length_append,length_cons,length_nil]
 refine Ae (M:=⟨some [8,6,5,1,0],none,[]⟩) (by rfl) kids.length (fun j=>(⟨31,[(8,I (((kids.length:Nat):Int)-1-(j:Int))),(6,.rf (N+1) 1 0 0),(5,.rf N 1 0 0),(1,.pt [I 2,.sl false (set.map spanAV),.sl false (kids.map reAV),I mn,I mx,I md,I n,.bool neg]),(0,.rf 2 1 0 0)],H++[.row 3 [ptA ⟨i,cs,(kids.drop (kids.length-j)).map .re++g⟩] 0,.row 3 [pt0] 0]⟩:St))
  (fun _=>True) ?_ ?_ trivial _ ?_
 ·intro j hj _;obtain⟨q,hq⟩:∃ q,kids.length-j=q+1:=⟨kids.length-j-1,by omega⟩;have e1:((kids.length:Nat):Int)-1-(j:Int)=(q:Int):=by omega
  have e2:((kids.length:Nat):Int)-1-((j+1:Nat):Int)=(q:Int)-1:=by omega
  have hw1:IntKind.i64.wrap ((q:Int)-1)=(q:Int)-1:=by rw[i64_in]<;>omega
  rw[e1,e2,hq,show kids.length-(j+1)=q by omega];have hql:q<kids.length:=by omega
  have hdr:kids.drop q=kids[q]::kids.drop (q+1):=List.drop_eq_getElem_cons hql;rw[hdr,map_cons,cons_append];have hget:(kids.map reAV)[q]?=some (reAV kids[q]):=by simp[hql]
  have hltq:((q:Int)<((kids.length:Nat):Int))=True:=eq_true (by omega);have hge:((0:Int)<=(q:Int))=True:=eq_true (by omega);generalize kids[q]=kid at *;have hkl:=AM kid;have h100k:=h100 kid;generalize (kids.drop (q+1)).map GI.re++g=g' at *;simp +contextual (disch:=omega) only[Tryz.f114,O8,go_sem,simprocAttr,evAppend,OW,↓AD,↓AC,↓AB,↓AA,hN,hget,hltq,hge,hw1,h100k,hkl,g0,g1,g2,g3,g4,g5,g6,z0,z1,z2,z3,z4,z5,z6,A5,Ao,Am,An,BT,BV,BU,BW,A4,A6,A7,AQ,Ah,Aj,Ac,Aa,Ab,A0,Ax,A1,A3,Ak,Al,append_assoc,cons_append,nil_append,length_append,length_cons,length_nil];repeat' (first|intro _|apply And.intro|(unfold dOk;kernel_rfl)|(show (_||_)=true;kernel_rfl)|(show (_&&_)=true;kernel_rfl))
  rfl
 ·intro _;rw[Nat.sub_self,drop_zero];have hge:((0:Int)<=((kids.length:Nat):Int)-1-((kids.length:Nat):Int))=False:=eq_false (by omega);simp +contextual (disch:=omega) only[Tryz.f114,O8,go_sem,simprocAttr,evAppend,OW,↓AD,↓AC,↓AB,↓AA,hN,hge,g0,g1,g2,g3,g4,g5,g6,z0,z1,z2,z3,z4,z5,z6,A5,Ao,Am,An,BT,BV,BU,BW,A4,A6,A7,AQ,Ah,Aj,Ac,Aa,Ab,A0,Ax,A1,A3,Ak,Al,append_assoc,cons_append,nil_append,length_append,length_cons,length_nil];repeat' (first|intro _|apply And.intro|(unfold dOk;kernel_rfl)|(show (_||_)=true;kernel_rfl)|(show (_&&_)=true;kernel_rfl))
  exact hret _
 ·simp[List.drop_length];rfl
abbrev hpS (b0:MB) (K:List MB) (pc:List AV) (t:List Int) (st:Int) (s F:Nat) (O:List Pt) (J:List AV):List MB:=
 hp4 b0 K (mcA pc t (O.length+J.length) O.length st s F) (O.reverse.map ptA++J)
theorem FQ (b0:MB) (K:List MB) (a:AV) (O:List Pt) (J:List AV) (x:Pt) (B:List MB) (tt:Bool) (hO:O.length<=3000000000) :
  evAppend Pg (hp4 b0 K a (O.reverse.map ptA++J)++B) 121 121 (.ms 3 3 (O.length+J.length) 0 O.length) (.sl tt [ptA x]) =
   some (.ms 3 3 ((x::O).length+(J.drop 1).length) 0 (x::O).length,hp4 b0 K a ((x::O).reverse.map ptA++J.drop 1)++B):=by
 have hl:(O.reverse.map ptA).length=O.length:=by simp
 have h1:=Jh (H:=hp4 b0 K a (O.reverse.map ptA++J)++B) (sT:=121) (xT:=121) (x:=.sl tt [ptA x]) (ys:=[ptA x]) (xs:=O.reverse.map ptA) (js:=J) (id:=3) (e:=172) (by kernel_rfl) (by kernel_rfl) (k:=3) (by kernel_rfl) (by_:=24) (by kernel_rfl) (ze:=.agg [I 0,.nilp,.nilp]) (by kernel_rfl) rfl (by omega) rfl
  (by simp only[all_cons,all_nil,AV.cells,Ah,Aj,Ax];rfl) (by simp) (by simp only[getRow,hg43]) (Ad (by simp;omega) (by omega))
 rw[hl]at h1;rw[h1,z43];simp
theorem CX (N:Nat) (hN:3<=N) (O:List Pt) (J:List AV) (hJ:∀ m,3<=m->AV.underL m J=true):AV.underL N (O.reverse.map ptA++J)=true:=by
 rw[AJ,hJ N hN,Bool.and_true,Ap];intro c hc;obtain⟨p,_,rfl⟩:=List.mem_map.1 hc;exact Cx N hN p
theorem CV {J:List AV} (hJ:∀ m,3<=m->AV.underL m J=true) (k:Nat):∀ m,3<=m->AV.underL m (J.drop k)=true:=fun m hm=>by
 rw[Ap];intro c hc;exact(Ap m J).1 (hJ m hm) c (List.mem_of_mem_drop hc)
theorem Gs {f:Nat} (hk:pol1.keep f=false) (ho:pol1.own f=false) {b0:MB}{K B:List MB}{pc:List AV} (hpc:AV.plainL pc=true) {t:List Int}{st:Int}{s s' F:Nat}{O O':List Pt}{J J':List AV} (hJ:∀ m,3<=m->AV.underL m J' = true) {r:AV} (hr:∀ H,fz r H=some (r,H)) (hu:∀ m,3<=m->AV.under m r=true) :
  retPol pol1 f (hpS b0 K pc t st s F O J) r (hpS b0 K pc t st s' F O' J'++B)=some (r,hpS b0 K pc t st s' F O' J'):=
 JK hk ho (hr _) (hu _ (by omega)) (CZ hpc _ _ _ _ _ _ _ (by omega)) (CX _ (by omega) _ _ hJ)
theorem FL (p:Pt) (b:Bool):∀ m,3<=m->AV.under m (.tup [ptA p,.bool b])=true:=fun m hm=>by
 have:=Cx m hm p;simp only[AV.under,AV.underL,Bool.and_true]at this |-;exact this
theorem s125 (b0:MB) (K:List MB) {pc:List AV} (hpc:AV.plainL pc=true) (t:List Int) (st:Int) (s F:Nat) (O:List Pt) (J:List AV) (hJ:∀ m,3<=m->AV.underL m J=true) (hO:O.length<=2000000000)
  (set:List (Int×Int)) (a:Re) (ks:List Re) (hk:ks.length<=100000) (mn mx md n:Int) (neg:Bool) (p:Pt) :
  call Pg pol1 115 [.rf 2 1 0 0,.pt (reC (.mk 3 set (a::ks) mn mx md n neg)),ptA p] (hpS b0 K pc t st s F O J) =
   some (.tup [ptA ⟨p.i,p.c,.re a::p.g⟩,.bool true],hpS b0 K pc t st s F (ks.map (fun k=>⟨p.i,p.c,.re k::p.g⟩)++O) (J.drop ks.length)):=by
 obtain⟨i,cs,g⟩:=p;have hret:=fun B=>Gs (f:=115) rfl rfl (b0:=b0) (K:=K) (B:=B) hpc (t:=t) (st:=st) (s:=s) (s':=s) (F:=F) (O:=O) (O':=ks.map (fun k=>⟨i,cs,.re k::g⟩)++O) (J:=J) (J':=J.drop ks.length) (CV hJ _) (Mh ⟨i,cs,.re a::g⟩ true) (FL ⟨i,cs,.re a::g⟩ true);have h100:=fun kid A E B=>s100 kid g (hp4 b0 K A E++B) (by simp[hp4]);refine AO (pol:=pol1) Tryz.func115 rfl rfl rfl rfl (AL _ _ 0 rfl) ?_;rw[Bh];obtain⟨N,hN⟩:∃ N,K.length+4=N:=⟨_,rfl⟩;obtain⟨hlen,g0,g1,g2,g3,g4,g5,g6,z0,z1,z2,z3,z4,z5,z6⟩:=ownM b0 hN;have hw:IntKind.i64.wrap (((ks.length+1:Nat):Int)-1)=(ks.length:Int):=by rw[i64_in]<;>omega
 have hkl:=AM a;have hll:((a::ks).map reAV).length=ks.length+1:=by simp
 have hget0:((a::ks).map reAV)[0]?=some (.agg (reC a)):=rfl;have hgets:∀ q:Nat,((a::ks).map reAV)[q+1]?=(ks[q]?).map reAV:=fun q=>by simp
 generalize (a::ks).map reAV=KL at *;simp +contextual (disch:=omega) only[Tryz.f115,O7,go_sem,simprocAttr,evAppend,OV,↓AD,↓AC,↓AB,↓AA,hlen,hw,hll,g0,g1,g2,g3,g4,g5,g6,z0,z1,z2,z3,z4,z5,z6,A5,Ao,Am,An,BT,BV,BU,BW,A4,A6,A7,AQ,Ah,Aj,Ac,Aa,Ab,A0,Ax,A1,A3,Ak,Al,append_assoc,cons_append,nil_append,length_append,length_cons,length_nil]
 refine Ae (M:=⟨some [9,8,6,5,1,0],none,[]⟩) (by rfl) ks.length (fun j=>(⟨55,[(9,NV (ks.length-j)),(8,todoA g),(6,.rf (N+1) 1 0 0),(5,.rf N 1 0 0),(1,.pt [I 3,.sl false (set.map spanAV),.sl false KL,I mn,I mx,I md,I n,.bool neg]),(0,.rf 2 1 0 0)],
   hpS b0 K pc t st s F ((ks.drop (ks.length-j)).map (fun k=>⟨i,cs,.re k::g⟩)++O) (J.drop j)++[.row 3 [ptA ⟨i,cs,g⟩] 0,.row 3 [pt0] 0]⟩:St))
  (fun _=>True) ?_ ?_ trivial _ ?_
 ·intro j hj _;obtain⟨q,hq⟩:∃ q,ks.length-j=q+1:=⟨ks.length-j-1,by omega⟩;have hw1:IntKind.i64.wrap (((q+1:Nat):Int)-1)=(q:Int):=by rw[i64_in]<;>omega
  rw[hq,show ks.length-(j+1)=q by omega];have hql:q<ks.length:=by omega
  have hdr:ks.drop q=ks[q]::ks.drop (q+1):=List.drop_eq_getElem_cons hql;rw[hdr,map_cons,cons_append];have hget:KL[q+1]?=some (.agg (reC ks[q])):=by rw[hgets,List.getElem?_eq_getElem hql];rfl
  have hltq:(((q+1:Nat):Int)<((ks.length+1:Nat):Int))=True:=eq_true (by omega);have hge:((0:Int)<((q+1:Nat):Int))=True:=eq_true (by omega);have hge':((0:Int)<=((q+1:Nat):Int))=True:=eq_true (by omega);have hO1:((ks.drop (q+1)).map (fun k=>(⟨i,cs,.re k::g⟩:Pt))++O).length<=3000000000:=by simp;omega
  generalize ks[q]=kid at *;generalize (ks.drop (q+1)).map (fun k=>(⟨i,cs,.re k::g⟩:Pt))++O=O1 at *;have hkl1:=AM kid;have h100k:=h100 kid;have hpush:=fun a B tt=>FQ b0 K a O1 (J.drop j) ⟨i,cs,.re kid::g⟩ B tt hO1;rw[List.drop_drop]at hpush;simp only[hpS];generalize (Pt.mk i cs (.re kid::g)::O1).reverse.map ptA++J.drop (j+1)=E1 at *;generalize O1.reverse.map ptA++J.drop j=E0 at *;generalize (Pt.mk i cs (.re kid::g)::O1).length+(J.drop (j+1)).length=L1 at *;generalize (Pt.mk i cs (.re kid::g)::O1).length=n1 at *;generalize O1.length+(J.drop j).length=L0 at *;generalize O1.length=n0 at *;simp +contextual (disch:=omega) only[Tryz.f115,O7,go_sem,simprocAttr,OV,↓AD,↓AC,↓AB,↓AA,hlen,hget,hltq,hge,hge',hw1,h100k,hkl1,hpush,hg41,hg42,hg43,z42,z43,sameAt_refl,Ag,g0,g1,g2,g3,g4,g5,g6,z0,z1,z2,z3,z4,z5,z6,A5,Ao,Am,An,BT,BV,BU,BW,A4,A6,A7,AQ,Ah,Aj,Ac,Aa,Ab,A0,Ax,A1,A3,Ak,Al,append_assoc,cons_append,nil_append,length_append,length_cons,length_nil];repeat' (first|intro _|apply And.intro|(unfold dOk;kernel_rfl)|(show (_||_)=true;kernel_rfl)|(show (_&&_)=true;kernel_rfl))
  rfl
 ·intro _;rw[Nat.sub_self,drop_zero];have h100k:=h100 a;have hge:((0:Int)<((0:Nat):Int))=False:=eq_false (by omega);simp +contextual (disch:=omega) only[Tryz.f115,O7,go_sem,simprocAttr,evAppend,OV,↓AD,↓AC,↓AB,↓AA,hlen,hge,hget0,hkl,h100k,g0,g1,g2,g3,g4,g5,g6,z0,z1,z2,z3,z4,z5,z6,A5,Ao,Am,An,BT,BV,BU,BW,A4,A6,A7,AQ,Ah,Aj,Ac,Aa,Ab,A0,Ax,A1,A3,Ak,Al,append_assoc,cons_append,nil_append,length_append,length_cons,length_nil];repeat' (first|intro _|apply And.intro|(unfold dOk;kernel_rfl)|(show (_||_)=true;kernel_rfl)|(show (_&&_)=true;kernel_rfl))
  have:=hret [.row 3 [.agg [NV i,cpA cs,todoA (.re a::g)]] 0,.row 3 [.agg [NV i,cpA cs,todoA (.re a::g)]] 0];simp only[hpS,length_append,List.length_map]at this |-;exact this
 ·rw[Nat.sub_zero,List.drop_length,drop_zero];rfl
end
end Go.Ev
