/- The first result of a tree is what its program finds first: plain. -/
import Derived.Test.YtjgmfjneajcbmaaGreatF27
import Derived.Test.YtjgmfjneajcbmaaGreatF24
set_option linter.unusedVariables false
set_option linter.unusedSimpArgs false
open List (all_cons all_nil append_assoc getElem?_set_ne map_append map_cons mem_flatMap mem_singleton)
open Bool (and_eq_true eq_false_iff false_eq_true)
open Go.Proofs Go.RowKit Go.IntWalk
set_option maxHeartbeats 16000000
set_option maxRecDepth 100000
namespace Go.Ev
structure ProgT (p:Prog1) (ins:List Ins) (t:List Int):Prop where
 ins:∀ n,p.ins n=ins[n]?
 has:∀ s n,p.has s n=match t[n]? with
  | some x=>hasSpan s x
  | none=>false
inductive Ex (P:Prog1):List Way->Rs->Nat->Prop
 | nil:Ex P [] none 0
 | done {w:Way}{S:List Way} (h:stepW P w=.done):Ex P (w::S) (some (w.at_,w.regs)) 1
 | step {w:Way}{S l:List Way}{r:Rs}{n:Nat} (h:stepW P w=.ways l) (g:Ex P (l++S) r n):Ex P (w::S) r (n+1)
theorem Ex.uniq {P:Prog1}{S:List Way}{r r':Rs}{n m:Nat} (h:Ex P S r n) (g:Ex P S r' m):r=r'/\n=m:=by
 induction h generalizing r' m with
 | nil=>cases g;exact⟨rfl,rfl⟩
 | done h=>
   cases g with
   | done _=>exact⟨rfl,rfl⟩
   | step h' _=>rw[h]at h';cases h'
 | step h _ ih=>
   cases g with
   | done h'=>rw[h]at h';cases h'
   | step h' g'=>
     rw[h]at h';cases h';obtain⟨h1,h2⟩:=ih g';exact⟨h1,by rw[h2]⟩
theorem Ex.fst {P:Prog1}{S:List Way}{r:Rs}{n:Nat} (h:Ex P S r n):∀ {x:Nat×List Int} (T:List Way),r=some x->Ex P (S++T) (some x) n:=by
 induction h with
 | nil=>intro x T e;cases e
 | done h=>intro x T e;cases e;exact Ex.done h
 | step h _ ih=>
   intro x T e;refine Ex.step h ?_;have:=ih T e;rw[append_assoc]at this;exact this
theorem Ex.app {P:Prog1}{S:List Way}{r:Rs}{n:Nat} (h:Ex P S r n):∀ {T:List Way}{q:Rs}{m:Nat},r=none->Ex P T q m->Ex P (S++T) q (n+m):=by
 induction h with
 | nil=>intro T q m _ g;simpa using g
 | done h=>intro T q m e;cases e
 | step h _ ih=>
   intro T q m e g;rw[Nat.add_right_comm];refine Ex.step h ?_;have:=ih e g;rw[append_assoc]at this;exact this
theorem Ex.split {P:Prog1}:∀(n:Nat) (A B:List Way) (r:Rs),Ex P (A++B) r n->(∃ x k,r=some x/\k<=n/\Ex P A (some x) k)∨(∃ k1 k2,k1+k2=n/\Ex P A none k1/\Ex P B r k2)
 | n,[],B,r,h=>.inr ⟨0,n,by omega,Ex.nil,h⟩
 | n,w::A,B,r,h=>by
   cases h with
   | done h=>exact .inl ⟨_,1,rfl,Nat.le_refl _,Ex.done h⟩
   | step h g=>
     rename_i l n;have g:Ex P ((l++A)++B) r n:=by rw[append_assoc];exact g
     rcases Ex.split n (l++A) B r g with ⟨x,k,e,hk,g1⟩|⟨k1,k2,e,g1,g2⟩
     ·exact .inl ⟨x,k+1,e,by omega,Ex.step h g1⟩
     ·exact .inr ⟨k1+1,k2,by omega,Ex.step h g1,g2⟩
theorem Ex.or {P:Prog1}{S T:List Way}{r q:Rs}{n m:Nat} (h:Ex P S r n) (g:Ex P T q m):∃ k,Ex P (S++T) (r.or q) k:=by
 cases r with
 | none=>exact⟨n+m,h.app rfl g⟩
 | some x=>exact⟨n,h.fst T rfl⟩
def En (P:Prog1) (w:Way) (r:Rs):Prop:=∃ N,Ex P [w] r N
theorem En.dead {P:Prog1}{w:Way} (h:stepW P w=.ways []):En P w none:=⟨1,Ex.step h (by simpa using Ex.nil)⟩
theorem En.one {P:Prog1}{w w':Way}{r:Rs} (h:stepW P w=.ways [w']) (h1:En P w' r):En P w r:=by
 obtain⟨N,h1⟩:=h1;exact⟨N+1,Ex.step h (by simpa using h1)⟩
theorem En.two {P:Prog1}{w a b:Way}{r r':Rs} (h:stepW P w=.ways [a,b]) (h1:En P a r) (h2:En P b r'):En P w (r.or r'):=by
 obtain⟨N,h1⟩:=h1;obtain⟨M,h2⟩:=h2;obtain⟨k,h3⟩:=h1.or h2;exact⟨k+1,Ex.step h (by simpa using h3)⟩
def LiesE (p:Prog1) (f:Nat) (l:List Ins):Prop:=∀(j:Nat) (x:Ins),l[j]?=some x->p.ins (f+j)=some x
theorem LiesE.left {p:Prog1}{f:Nat}{a b:List Ins} (h:LiesE p f (a++b)):LiesE p f a:=fun j x hj=>h j x (by
 have:=(List.getElem?_eq_some_iff.1 hj).1
 rwa [List.getElem?_append_left this])
theorem LiesE.right {p:Prog1}{f n:Nat}{a b:List Ins} (h:LiesE p f (a++b)) (hn:a.length=n):LiesE p (f+n) b:=fun j x hj=>by
 have:=h (n+j) x (by rw[List.getElem?_append_right (by omega),show n+j-a.length=j by omega];exact hj)
 rwa [<- Nat.add_assoc]at this
theorem LiesE.head {p:Prog1}{f:Nat}{x:Ins}{l:List Ins} (h:LiesE p f (x::l)):p.ins f=some x:=h 0 x rfl
theorem LiesE.tail {p:Prog1}{f:Nat}{x:Ins}{l:List Ins} (h:LiesE p f (x::l)):LiesE p (f+1) l:=fun j y hj=>by
 have:=h (j+1) y hj
 rwa [show f+(j+1)=f+1+j by omega]at this
theorem Ec {α:Type}{p:Prog1}{g:α->List Ins}:∀ {l:List α}{f L:Nat} (k:Nat) (x:α),(∀ y∈l,(g y).length=L)->LiesE p f (l.flatMap g)->l[k]?=some x->LiesE p (f+k*L) (g x)
 | [],_,_,k,x,_,_,h=>by simp at h
 | y::l,f,L,0,x,hl,h,hk=>by
   simp only[List.getElem?_cons_zero,Option.some.injEq]at hk;subst hk;rw[List.flatMap_cons]at h
   simpa using h.left
 | y::l,f,L,k+1,x,hl,h,hk=>by
   rw[List.flatMap_cons]at h;have h1:=h.right (hl y (by simp));have:=Ec (f:=f+L) k x (fun z hz=>hl z (by simp[hz])) h1 (by simpa using hk)
   rwa [show f+(k+1)*L=f+L+k*L by rw[Nat.succ_mul];omega]
def repE (f L:Nat) (mn mx:Int) (k:Int):Nat:=if k<=mn then f+k.toNat*L else if mx = -1 then f+mn.toNat*L else f+mn.toNat*L+(k-mn).toNat*(L+1)
theorem N9 {p:Prog1}{t:List Int}{G:List Int->List Int}{kid:Re}{f L:Nat}{mn mx md:Int}{e:Nat}{K:Nat->List Int->Rs} (hg:∀ g,(codeG kid g).length=L) (h0:0<=mn) (hmx:mx = -1∨mn<=mx) (he:e=if mx = -1 then f+mn.toNat*L+L+2 else f+mx.toNat*L+(mx.toNat-mn.toNat))
  (hc:∀ k:Nat,(k:Int)<mn->LiesE p (f+k*L) (codeG kid (f+k*L)))
  (hm:mx = -1->LiesE p (f+mn.toNat*L) (insSplit md ((f+mn.toNat*L+1:Nat):Int) (e:Int)::(codeG kid (f+mn.toNat*L+1)++[⟨3,((f+mn.toNat*L:Nat):Int),0,0,[]⟩])))
  (hb:mx≠-1->∀ k:Nat,(k:Int)<mx-mn->LiesE p (f+mn.toNat*L+k*(L+1)) (insSplit md ((f+mn.toNat*L+k*(L+1)+1:Nat):Int) (e:Int)::codeG kid (f+mn.toNat*L+k*(L+1)+1)))
  (hpos:∀ i,i<=t.length->∀ j∈outs t kid i,i<j/\j<=t.length)
  (hK:∀(g:Nat) (i:Nat) (c:List Int) (k':Nat->List Int->Rs),LiesE p g (codeG kid g)->i<=t.length->(∀ j∈outs t kid i,∀ d,En p ⟨g+L,j,G d⟩ (k' j d))->En p ⟨g,i,G c⟩ (fst t kid k' i c)) :
  ∀(n:Nat) (k:Int) (i:Nat) (c:List Int),0<=k->(mx = -1∨k<=mx)->i<=t.length->t.length+1-i<=n->(∀ j∈repO (outs t kid) mn mx md n k i,∀ d,En p ⟨e,j,G d⟩ (K j d)) ->
   En p ⟨repE f L mn mx k,i,G c⟩ (repK (fst t kid) mn mx md K n k i c)
 | 0,k,i,c,_,_,hi,hn,_=>by omega
 | n+1,k,i,c,hk,hkx,hi,hn,hx=>by
   have ih:=fun j (hj:j∈outs t kid i) (hk1:mx = -1∨k+1<=mx) d hx=>N9 (G:=G) (md:=md) (K:=K) hg h0 hmx he hc hm hb hpos hK n (k+1) j d (by omega) hk1 (hpos i hi j hj).2 (by have:=(hpos i hi j hj).1;omega) hx;rw[repO]at hx;rw[repK];by_cases h1:k<mn
   ·rw[if_pos h1]at hx;rw[if_pos h1];have hpc:repE f L mn mx k=f+k.toNat*L:=by rw[repE,if_pos (by omega)]
    have hpc1:repE f L mn mx (k+1)=f+k.toNat*L+L:=by rw[repE,if_pos (by omega),show (k+1).toNat=k.toNat+1 by omega,Nat.succ_mul];omega
    rw[hpc];refine hK _ i c _ (hc k.toNat (by omega)) hi (fun j hj d=>?_);rw[<- hpc1];exact ih j hj (by omega) d (fun q hq=>hx q (mem_flatMap.2 ⟨j,hj,hq⟩))
   ·rw[if_neg h1]at hx;rw[if_neg h1];by_cases hm1:mx = -1
    ·have hl:=hm hm1;have hpc:repE f L mn mx k=f+mn.toNat*L:=by
      rw[repE];by_cases hkm:k<=mn
      ·rw[if_pos hkm,show k=mn by omega]
      ·rw[if_neg hkm,if_pos hm1]
     have hpc1:repE f L mn mx (k+1)=f+mn.toNat*L:=by rw[repE,if_neg (by omega),if_pos hm1]
     rw[hpc];simp only[if_pos (Or.inl hm1:mx = -1∨k<mx)]at hx |-;have hj3:p.ins (f+mn.toNat*L+1+L)=some ⟨3,((f+mn.toNat*L:Nat):Int),0,0,[]⟩:=(hl.tail.right (hg _)).head;have once:(∀ j∈(outs t kid i).flatMap (repO (outs t kid) mn mx md n (k+1)),∀ d,En p ⟨e,j,G d⟩ (K j d))->En p ⟨f+mn.toNat*L+1,i,G c⟩ (fst t kid (repK (fst t kid) mn mx md K n (k+1)) i c):=fun hx=>by
      refine hK _ i c _ hl.tail.left hi (fun j hj d=>?_);have h:=ih j hj (.inl hm1) d (fun q hq=>hx q (mem_flatMap.2 ⟨j,hj,hq⟩));rw[hpc1]at h;refine En.one ?_ h;simp only[stepW,hj3];rfl
     have hs:p.ins (f+mn.toNat*L)=some (insSplit md ((f+mn.toNat*L+1:Nat):Int) (e:Int)):=hl.head;by_cases hd:md=1
     ·rw[if_pos hd]at hx |-;exact En.two (w:=⟨f+mn.toNat*L,i,G c⟩) (by simp only[stepW,hs,insSplit,if_pos hd];rfl) (hx i (by simp) c) (once fun j hj=>hx j (List.mem_cons_of_mem _ hj))
     ·rw[if_neg hd]at hx |-;exact En.two (w:=⟨f+mn.toNat*L,i,G c⟩) (by simp only[stepW,hs,insSplit,if_neg hd];rfl) (once fun j hj=>hx j (List.mem_append_left _ hj)) (hx i (by simp) c)
    ·have hmn:(mx.toNat:Int)=mx:=by omega
     by_cases h2:k<mx
     ·have hl:=hb hm1 (k-mn).toNat (by omega);have hpc:repE f L mn mx k=f+mn.toNat*L+(k-mn).toNat*(L+1):=by
       rw[repE];by_cases hkm:k<=mn
       ·rw[if_pos hkm,show k=mn by omega];simp
       ·rw[if_neg hkm,if_neg hm1]
      have hpc1:repE f L mn mx (k+1)=f+mn.toNat*L+(k-mn).toNat*(L+1)+1+L:=by
       rw[repE,if_neg (by omega),if_neg hm1,show (k+1-mn).toNat=(k-mn).toNat+1 by omega,Nat.succ_mul];omega
      rw[hpc];generalize f+mn.toNat*L+(k-mn).toNat*(L+1)=pc at *;simp only[if_pos (Or.inr h2:mx = -1∨k<mx)]at hx |-;have once:(∀ j∈(outs t kid i).flatMap (repO (outs t kid) mn mx md n (k+1)),∀ d,En p ⟨e,j,G d⟩ (K j d))->En p ⟨pc+1,i,G c⟩ (fst t kid (repK (fst t kid) mn mx md K n (k+1)) i c):=fun hx=>by
       refine hK _ i c _ hl.tail hi (fun j hj d=>?_);have h:=ih j hj (.inr (by omega)) d (fun q hq=>hx q (mem_flatMap.2 ⟨j,hj,hq⟩))
       rwa [hpc1]at h
      have hs:p.ins pc=some (insSplit md ((pc+1:Nat):Int) (e:Int)):=hl.head;by_cases hd:md=1
      ·rw[if_pos hd]at hx |-;exact En.two (w:=⟨pc,i,G c⟩) (by simp only[stepW,hs,insSplit,if_pos hd];rfl) (hx i (by simp) c) (once fun j hj=>hx j (List.mem_cons_of_mem _ hj))
      ·rw[if_neg hd]at hx |-;exact En.two (w:=⟨pc,i,G c⟩) (by simp only[stepW,hs,insSplit,if_neg hd];rfl) (once fun j hj=>hx j (List.mem_append_left _ hj)) (hx i (by simp) c)
     ·have hkm:k=mx:=by omega
      have hpc:repE f L mn mx k=e:=by
       rw[he,if_neg hm1,repE];by_cases hkn:k<=mn
       ·have:mx=mn:=by omega
        rw[if_pos hkn,hkm,this];simp
       ·rw[if_neg hkn,if_neg hm1,hkm];have e1:mx.toNat=mn.toNat+(mx-mn).toNat:=by omega
        rw[e1,Nat.add_mul,Nat.mul_succ];omega
      rw[hpc];simp only[if_neg (show ¬ (mx = -1∨k<mx) by omega)]at hx |-;have hO:(if md=1 then [i] else []++[i])=[i]:=by split<;>rfl
      have hO2:(if md=1 then(K i c).or none else none.or (K i c))=K i c:=by split<;>simp
      rw[hO]at hx;rw[hO2];exact hx i (by simp) c
def aO (C:Nat) (o:List (Int×Nat)) (c:List Int):List Int:=o.foldl (fun r p=>r.set (2*p.1-2).toNat p.2) (c.take C)
theorem PN (C:Nat) (o:List (Int×Nat)) (n:Int) (a:Nat) (c:List Int):aO C (o++[(n,a)]) c=(aO C o c).set (2*n-2).toNat a:=by simp[aO]
theorem Km:∀(o:List (Int×Nat)) (r:List Int) (x:Nat) (v:Int),(∀ p∈o,(2*p.1-2).toNat≠x)->o.foldl (fun r p=>r.set (2*p.1-2).toNat p.2) (r.set x v)=(o.foldl (fun r p=>r.set (2*p.1-2).toNat p.2) r).set x v
 | [],r,x,v,_=>rfl
 | p::o,r,x,v,h=>by
   simp only[List.foldl_cons];rw[List.set_comm _ _ (Ne.symm (h p (by simp))),Km o _ x v fun q hq=>h q (by simp[hq])]
theorem PM (C:Nat) (o:List (Int×Nat)) (c:List Int) (x:Nat) (v:Int) (h:∀ p∈o,(2*p.1-2).toNat≠x):aO C o (c.set x v)=(aO C o c).set x v:=by
 unfold aO;rw[List.take_set,Km o _ x v h]
theorem QL (C:Nat) (o:List (Int×Nat)) (ho:∀ p∈o,1<=p.1) (n:Int) (hn:1<=n) (hno:n ∉ o.map (·.1)) (c:List Int) (i j:Nat):aO C o (setC c n i j)=(aO C (o++[(n,i)]) c).set (2*n-1).toNat j:=by
 rw[PN,setC,PM,PM]
 ·intro p hp e;have:=ho p hp;exact hno (List.mem_map.2 ⟨p,hp,by omega⟩)
 ·intro p hp e;have:=ho p hp;omega
section
variable {caps top:Int}{t:List Int}{p:Prog1}{C:Nat}
mutual
theorem Ku (ho:∀ s k,p.has s k=match t[k]? with
  | some x=>hasSpan s x
  | none=>false):∀(r:Re) (o:List (Int×Nat)),(∀ q∈o,1<=q.1)->GoodC caps top r->compG (o.map (·.1)) r=true->noAs r=true->∀(f:Nat),LiesE p f (codeG r f)->∀(i:Nat) (c:List Int) (K:Nat->List Int->Rs),i<=t.length ->
  (∀ j∈outs t r i,∀ d,En p ⟨f+lenG r,j,aO C o d⟩ (K j d))->En p ⟨f,i,aO C o c⟩ (fst t r K i c)
 | .mk op set kids mn mx md n neg,o,ho1,hr,hcp,hna,f,hl,i,c,K,hi,hx=>by
   have hop:=hr.op;obtain⟨_,hkd,hrp,hcn,_,_⟩:=BC hr.whole;rw[compG]at hcp;rw[noAs,and_eq_true]at hna;have h11:op≠11:=by simpa using hna.1
   have hC:=fun h=>Ox ho kids o ho1 hr.kids h hna.2;have hA:=fun h=>Oy ho kids o ho1 hr.kids h hna.2;have hH:=fun o ho1 h=>SY ho kids o ho1 hr.kids h hna.2;split at hcp
   ·cases hcp
   rename_i h4n;rw[codeG]at hl;rw[lenG]at hx;rw[outs]at hx;rw[fst];rcases hop with rfl|rfl|rfl|rfl|rfl|rfl|rfl
   ·have hk0:kids=[]:=List.length_eq_zero_iff.1 (by simpa [kidsG] using hkd);subst hk0;have:=hx i (by simp) c
    simpa [lenL] using this
   ·simp only[if_true,true_or]at hl hx |-;have hin:=hl.head;have hb:=ho set i;cases hti:t[i]? with
    | none=>
      simp only[hti]at hb;exact En.dead (by simp[stepW,hin,hb])
    | some x=>
      simp only[hti]at hb hx;by_cases hh:hasSpan set x=true
      ·simp only[if_pos hh]at hx |-;exact En.one (by simp[stepW,hin,hb,hh]) (hx (i+1) (by simp) c)
      ·simp only[if_neg hh];exact En.dead (by simp[stepW,hin,hb,hh])
   ·simp at hl hx hcp |-;exact hC hcp f hl i c K hi hx
   ·simp at hl hx hcp |-;refine hA hcp f (f+(lenL kids+2*(kids.length-1))) ?_ (by omega) hl i c K hi hx;have:2<=kids.length:=by simpa [kidsG] using hkd
    intro e;rw[e]at this;simp at this
   ·obtain⟨k,rfl⟩:∃ k,kids=[k]:=List.length_eq_one_iff.1 (by simpa [kidsG] using hkd);have hrg:=hrp rfl;simp only[repG,and_eq_true,Bool.or_eq_true,decide_eq_true_eq,beq_iff_eq]at hrg;simp only[show ¬(4:Int)=1 by decide,show ¬(4:Int)=11 by decide,show ¬(4:Int)=2 by decide,show ¬(4:Int)=3 by decide,show ¬(4:Int)=5 by decide,if_false,if_true,or_self,lenL,codeHd,Nat.add_zero]at hl hx hcp |-;rw[if_neg (by omega)]at hcp;have hgk:=hr.kids k (by simp);have ho1':outsH t [k]=outs t k:=funext fun i=>by rw[outsH]
    have hf1:fstH t [k]=fst t k:=funext fun k=>funext fun i=>funext fun c=>by rw[fstH]
    rw[ho1']at hx;rw[hf1];rw[compL,and_eq_true]at hcp;have hnl:nullG k=false:=by
     cases hq:nullG k with
     | false=>rfl
     | true=>exact absurd ⟨rfl,.inr (by rw[nullHd];exact hq)⟩ h4n
    have hcl:=HY hgk f mn.toNat;unfold copiesG at hcl;have hcop:LiesE p f ((List.range mn.toNat).flatMap fun i=>codeG k (f+i*lenG k)):=by
     split at hl
     ·exact hl.left
     ·exact hl.left
    have h:=N9 (p:=p) (t:=t) (G:=aO C o) (kid:=k) (f:=f) (L:=lenG k) (mn:=mn) (mx:=mx) (md:=md) (K:=K) (e:=if mx = -1 then f+mn.toNat*lenG k+lenG k+2 else f+mx.toNat*lenG k+(mx.toNat-mn.toNat))
     (fun g=>BE caps top k g hgk) (by omega) (by omega) rfl
     (fun q hq=>Ec (g:=fun i=>codeG k (f+i*lenG k)) q q (fun y hy=>BE caps top k _ hgk) hcop (by rw[List.getElem?_range (by omega)]))
     (fun hm=>by
       rw[if_pos hm]at hl;rw[if_pos hm];exact hl.right hcl)
     (fun hm q hq=>by
       rw[if_neg hm]at hl;rw[if_neg hm]
       exact Ec (g:=fun j=>insSplit md ((f+mn.toNat*lenG k+j*(lenG k+1)+1:Nat):Int) ((f+mx.toNat*lenG k+(mx.toNat-mn.toNat):Nat):Int)::codeG k (f+mn.toNat*lenG k+j*(lenG k+1)+1)) q q
        (fun y hy=>by simp[BE caps top k _ hgk]) (hl.right hcl) (by rw[List.getElem?_range (by omega)]))
     (fun i hi j hj=>⟨DU t k i hnl hgk.cod hi j hj,(CG t k i hi j hj).2⟩)
     (fun g i c k' hl hi hx=>hH o ho1 (by rw[compL,compL,hcp.1];rfl) g hl i c k' hi hx)
     (t.length+1-i) 0 i c (Int.le_refl _) (by omega) hi (Nat.le_refl _)
     (fun j hj d=>by
       have:=hx j hj d;have he:f+(if mx = -1 then(mn.toNat+1)*lenG k+2 else mx.toNat*lenG k+(mx.toNat-mn.toNat))=if mx = -1 then f+mn.toNat*lenG k+lenG k+2 else f+mx.toNat*lenG k+(mx.toNat-mn.toNat):=by
        split
        ·rw[Nat.succ_mul];omega
        ·omega
       rwa [he]at this)
    have hpc:repE f (lenG k) mn mx 0=f:=by rw[repE,if_pos (by omega)];simp
    rwa [hpc]at h
   ·obtain⟨k,rfl⟩:∃ k,kids=[k]:=List.length_eq_one_iff.1 (by simpa [kidsG] using hkd);have hn:=hcn (.inl rfl);simp only[show ¬(5:Int)=1 by decide,show ¬(5:Int)=11 by decide,show ¬(5:Int)=2 by decide,show ¬(5:Int)=3 by decide,show ¬(5:Int)=4 by decide,if_false,if_true,or_self,lenL,codeHd,Nat.add_zero,outsH,fstH]at hl hx hcp |-;split at hcp
    ·cases hcp
    rename_i hno;have hgk:=hr.kids k (by simp);have hs:=hl.head;have hl2:=(hl.tail.right (BE caps top k _ hgk)).head;refine En.one (w':=⟨f+1,i,aO C (o++[(n,i)]) c⟩) (by rw[PN];simp only[stepW,hs];rfl) ?_;refine hH (o++[(n,i)]) (fun q hq=>?_) (by simpa using hcp) (f+1) hl.tail.left i c _ hi (fun j hj d=>?_)
    ·rcases List.mem_append.1 hq with hq|hq
     ·exact ho1 q hq
     ·rw[mem_singleton.1 hq];exact hn.1
    ·have:=hx j hj (setC d n i j);rw[QL C o ho1 n hn.1 hno]at this;refine En.one ?_ this;simp only[stepW,hl2];rw[show f+1+lenG k+1=f+(lenG k+2) by omega];rfl
   ·exact absurd rfl h11
theorem Ox (ho:∀ s k,p.has s k=match t[k]? with
  | some x=>hasSpan s x
  | none=>false):∀(l:List Re) (o:List (Int×Nat)),(∀ q∈o,1<=q.1)->(∀ k∈l,GoodC caps top k)->compL (o.map (·.1)) l=true->noAsL l=true->∀(f:Nat),LiesE p f (codeCat l f)->∀(i:Nat) (c:List Int) (K:Nat->List Int->Rs),i<=t.length ->
  (∀ j∈outsC t l i,∀ d,En p ⟨f+lenL l,j,aO C o d⟩ (K j d))->En p ⟨f,i,aO C o c⟩ (fstC t l K i c)
 | [],_,_,_,_,_,f,hl,i,c,K,hi,hx=>by
   have:=hx i (by simp[outsC]) c
   simpa [outsC,fstC,lenL] using this
 | k::ks,o,ho1,hr,hcp,hna,f,hl,i,c,K,hi,hx=>by
   rw[compL,and_eq_true]at hcp;rw[noAsL,and_eq_true]at hna;rw[codeCat]at hl;rw[outsC]at hx;rw[fstC];refine Ku ho k o ho1 (hr k (by simp)) hcp.1 hna.1 f hl.left i c _ hi (fun j hj d=>?_);refine Ox ho ks o ho1 (fun q hq=>hr q (by simp[hq])) hcp.2 hna.2 (f+lenG k) (hl.right (BE caps top k _ (hr k (by simp)))) j d K (CG t k i hi j hj).2 (fun q hq d=>?_);have:=hx q (mem_flatMap.2 ⟨j,hj,hq⟩) d
   rwa [lenL,<- Nat.add_assoc]at this
theorem Oy (ho:∀ s k,p.has s k=match t[k]? with
  | some x=>hasSpan s x
  | none=>false):∀(l:List Re) (o:List (Int×Nat)),(∀ q∈o,1<=q.1)->(∀ k∈l,GoodC caps top k)->compL (o.map (·.1)) l=true->noAsL l=true->∀(f e:Nat),l≠[]->e=f+lenL l+2*(l.length-1)->LiesE p f (codeAlt l f)->∀(i:Nat) (c:List Int) (K:Nat->List Int->Rs),i<=t.length ->
  (∀ j∈outsA t l i,∀ d,En p ⟨e,j,aO C o d⟩ (K j d))->En p ⟨f,i,aO C o c⟩ (fstA t l K i c)
 | [],_,_,_,_,_,f,e,hn,_,hl,i,c,K,hi,hx=>absurd rfl hn
 | k::ks,o,ho1,hr,hcp,hna,f,e,hn,he,hl,i,c,K,hi,hx=>by
   rw[compL,and_eq_true]at hcp;rw[noAsL,and_eq_true]at hna;rw[codeAlt]at hl;rw[outsA]at hx;rw[fstA];by_cases h0:ks.length=0
   ·rw[if_pos h0]at hl;have hks:ks=[]:=List.length_eq_zero_iff.1 h0;subst hks;simp only[outsA,List.append_nil,fstA,Option.or_none]at hx |-;refine Ku ho k o ho1 (hr k (by simp)) hcp.1 hna.1 f hl i c K hi (fun j hj d=>?_);have:=hx j hj d;rw[he]at this
    simpa [lenL] using this
   ·rw[if_neg h0]at hl;have hs:=hl.head;have hl1:=hl.tail.left;have hl2:=hl.tail.right (BE caps top k _ (hr k (by simp)));have hj3:=hl2.head;have hl3:=hl2.tail;simp only[List.length_cons,lenL]at he hj3;have he':f+(lenG k+lenL ks)+2*ks.length=e:=by rw[he];omega
    rw[he']at hj3;have h1:En p ⟨f+1,i,aO C o c⟩ (fst t k K i c):=by
     refine Ku ho k o ho1 (hr k (by simp)) hcp.1 hna.1 (f+1) hl1 i c _ hi (fun j hj d=>?_);refine En.one ?_ (hx j (List.mem_append_left _ hj) d);simp only[stepW,hj3];rfl
    have h2:En p ⟨f+lenG k+2,i,aO C o c⟩ (fstA t ks K i c):=by
     refine Oy ho ks o ho1 (fun q hq=>hr q (by simp[hq])) hcp.2 hna.2 (f+lenG k+2) e (fun e=>h0 (by rw[e];rfl)) (by rw[<- he'];omega) ?_ i c K hi (fun j hj d=>hx j (List.mem_append_right _ hj) d)
     rwa [show f+lenG k+2=f+1+lenG k+1 by omega]at hl3 |-
    exact En.two (w:=⟨f,i,aO C o c⟩) (by simp only[stepW,hs];rfl) h1 h2
theorem SY (ho:∀ s k,p.has s k=match t[k]? with
  | some x=>hasSpan s x
  | none=>false):∀(l:List Re) (o:List (Int×Nat)),(∀ q∈o,1<=q.1)->(∀ k∈l,GoodC caps top k)->compL (o.map (·.1)) l=true->noAsL l=true ->
  match l with
  | []=>True
  | k::_=>∀(f:Nat),LiesE p f (codeG k f)->∀(i:Nat) (c:List Int) (K:Nat->List Int->Rs),i<=t.length->(∀ j∈outs t k i,∀ d,En p ⟨f+lenG k,j,aO C o d⟩ (K j d))->En p ⟨f,i,aO C o c⟩ (fst t k K i c)
 | [],_,_,_,_,_=>trivial
 | k::ks,o,ho1,hr,hcp,hna=>fun f hl i c K hi hx=>by
   rw[compL,and_eq_true]at hcp;rw[noAsL,and_eq_true]at hna;exact Ku ho k o ho1 (hr k (by simp)) hcp.1 hna.1 f hl i c K hi hx
end
end
section
variable (t:List Int) (g:Nat×List Int->Nat×List Int)
theorem KI (f:(Nat->List Int->Rs)->Nat->List Int->Rs) (hf:∀ K i c,(f K i c).map g=f (fun j d=>(K j d).map g) i c) (mn mx md:Int) (K:Nat->List Int->Rs) :
  ∀(m:Nat) (q:Int) (i:Nat) (c:List Int),(repK f mn mx md K m q i c).map g=repK f mn mx md (fun j d=>(K j d).map g) m q i c
 | 0,_,_,_=>rfl
 | m+1,q,i,c=>by
   have ih:(fun j d=>(repK f mn mx md K m (q+1) j d).map g)=repK f mn mx md (fun j d=>(K j d).map g) m (q+1):=funext fun j=>funext fun d=>KI f hf mn mx md K m (q+1) j d;have h1:(f (repK f mn mx md K m (q+1)) i c).map g=f (repK f mn mx md (fun j d=>(K j d).map g) m (q+1)) i c:=by rw[hf,ih]
   have hor:∀ a b:Rs,(a.or b).map g=(a.map g).or (b.map g):=fun a b=>by cases a<;>rfl
   rw[repK,repK];split
   ·exact h1
   ·split
    ·rw[hor];split
     ·rw[h1]
     ·rfl
    ·rw[hor];split
     ·rw[h1]
     ·rfl
mutual
theorem GX:∀(r:Re) (K:Nat->List Int->Rs) (i:Nat) (c:List Int),(fst t r K i c).map g=fst t r (fun j d=>(K j d).map g) i c
 | .mk op set kids mn mx md n neg,K,i,c=>by
   rw[fst,fst];split
   ·split
    ·split<;>rfl
    ·rfl
   ·split
    ·exact Ki kids K i c
    ·split
     ·exact Kk kids K i c
     ·split
      ·exact KI g _ (fun K i c=>Kh kids K i c) mn mx md K _ _ _ _
      ·split
       ·rw[Kh kids]
       ·rfl
theorem Ki:∀(l:List Re) (K:Nat->List Int->Rs) (i:Nat) (c:List Int),(fstC t l K i c).map g=fstC t l (fun j d=>(K j d).map g) i c
 | [],K,i,c=>rfl
 | r::rs,K,i,c=>by
   rw[fstC,fstC,GX r];congr 1;exact funext fun j=>funext fun d=>Ki rs K j d
theorem Kk:∀(l:List Re) (K:Nat->List Int->Rs) (i:Nat) (c:List Int),(fstA t l K i c).map g=fstA t l (fun j d=>(K j d).map g) i c
 | [],K,i,c=>rfl
 | r::rs,K,i,c=>by
   rw[fstA,fstA,<- GX r,<- Kk rs];cases fst t r K i c<;>rfl
theorem Kh:∀(l:List Re) (K:Nat->List Int->Rs) (i:Nat) (c:List Int),(fstH t l K i c).map g=fstH t l (fun j d=>(K j d).map g) i c
 | [],K,i,c=>rfl
 | r::rs,K,i,c=>by
   rw[fstH,fstH,GX r]
end
end
theorem Ow {caps top:Int}{t:List Int}{r:Re}{runes:Bool} (hr:GoodC caps top r) (hcp:compG [] r=true) (hna:noAs r=true) (i:Nat) (hi:i<=t.length) (c:List Int) (C:Nat) {P:Prog1} (hP:ProgT P (codeG r 0++[⟨0,0,0,0,[]⟩]) t) :
  En P ⟨0,i,c.take C⟩ ((fst t r (fun j d=>some (j,d)) i c).map fun x=>(x.1,x.2.take C)):=by
 have hl:LiesE P 0 (codeG r 0++[⟨0,0,0,0,[]⟩]):=fun j x hj=>by rw[Nat.zero_add,hP.ins];exact hj
 have hend:P.ins (0+lenG r)=some ⟨0,0,0,0,[]⟩:=(hl.right (BE caps top r 0 hr)).head;have:=Ku (C:=C) hP.has r [] (by simp) hr (by simpa using hcp) hna 0 hl.left i c (fun j d=>some (j,d.take C)) hi fun j hj d=>⟨1,Ex.done (by simp only[stepW,hend];rfl)⟩;rw[GX];exact this
end Go.Ev
namespace Go.Ev
attribute [local go_sem] evAppend evBin AV.cells AV.ok frzB Av BG bndO bnd evEq eqCells not_false_eq_true not_true_eq_false Af Array.size_empty List.length_append map_append tySzE List.head?_drop Nat.mul_one AR AY AP AS AT Ad
section
theorem s121 (x:Int) (hx:0<=x/\x<=255) (k:Nat) (H:List MB) (h:H[k]?=some (.row 1 [I 255] 0)):call Pg pol1 111 [I x,.rf k 1 0 0] H=some (.bool false,H):=by
 refine AO (pol:=pol1) Tryz.func111 rfl rfl rfl rfl (AL _ _ 0 rfl) ?_;have h1:(x<0)=False:=eq_false (by omega);have h2:(255<x)=False:=eq_false (by omega);have hret:retPol pol1 111 H (.bool false) H=some (.bool false,H):=by
  have:=DB (f:=111) (H:=H) (B:=[]) (B':=[]) (a:=.bool false) (r:=.bool false) rfl rfl rfl rfl
  simpa using this
 simp +contextual (disch:=omega) only[Tryz.f111,Sv,go_sem,simprocAttr,SL,↓AD,↓AC,↓AB,↓AA,h,h1,h2];exact hret
theorem s146 (t:List Int) (ht:∀ x∈t,0<=x/\x<=255) (htl:t.length<=1000000) (k:Nat) (H:List MB) (h:H[k]?=some (.row 1 [I 255] 0)):call Pg pol1 139 [.sl false (t.map I),.clo 111 [.rf k 1 0 0]] H=some (I (-1),H):=by
 refine AO (pol:=pol1) Tryz.func139 rfl rfl rfl rfl (AL _ _ 0 rfl) ?_;have hret:retPol pol1 139 H (I (-1)) H=some (I (-1),H):=by
  have:=DB (f:=139) (H:=H) (B:=[]) (B':=[]) (a:=I (-1)) (r:=I (-1)) rfl rfl rfl rfl
  simpa using this
 simp +contextual (disch:=omega) only[Tryz.f139,O5,go_sem,simprocAttr,OT,↓AD,↓AC,↓AB,↓AA];refine Ae (M:=⟨some [8,7,1,0],none,[]⟩) (by rfl) t.length (fun i=>(⟨19,[(8,NV i),(7,NV t.length),(1,.clo 111 [.rf k 1 0 0]),(0,.sl false (t.map I))],H⟩:St)) (fun _=>True) ?_ ?_ trivial _ rfl
 ·intro i hi _;obtain⟨x,hx⟩:∃ x,t[i]?=some x:=⟨_,List.getElem?_eq_getElem hi⟩;have hx':(t.map I)[i]?=some (I x):=by simp[hx]
  have hxx:=ht x (List.mem_of_getElem? hx);have h121:=s121 x hxx k H h;have hlt:((i:Int)<((t.length:Nat):Int))=True:=eq_true (by omega);have hw:IntKind.i64.wrap ((i:Int)+1)=((i+1:Nat):Int):=by rw[i64_in]<;>omega
  simp +contextual (disch:=omega) only[Tryz.f139,O5,go_sem,simprocAttr,OT,↓AD,↓AC,↓AB,↓AA,h121,hx',hlt,hw,Dd];rfl
 ·intro _;simp +contextual (disch:=omega) only[Tryz.f139,O5,go_sem,simprocAttr,OT,↓AD,↓AC,↓AB,↓AA];exact hret
theorem s120 (t:List Int) (ht:∀ x∈t,0<=x/\x<=255) (htl:t.length<=1000000) (k:Nat) (H:List MB) (h:H[k]?=some (.row 1 [I 255] 0)):call Pg pol1 110 [.sl false (t.map I),.clo 111 [.rf k 1 0 0]] H=some (.bool false,H):=by
 have h146:=s146 t ht htl k H h;refine AO (pol:=pol1) Tryz.func110 rfl rfl rfl rfl (AL _ _ 0 rfl) ?_;have hret:retPol pol1 110 H (.bool false) H=some (.bool false,H):=by
  have:=DB (f:=110) (H:=H) (B:=[]) (B':=[]) (a:=.bool false) (r:=.bool false) rfl rfl rfl rfl
  simpa using this
 simp +contextual (disch:=omega) only[Tryz.f110,Sw,go_sem,simprocAttr,SM,↓AD,↓AC,↓AB,↓AA,h146];exact hret
theorem s98 (r:Re) (n:Int) (t:List Int) (ht:∀ x∈t,0<=x/\x<=255) (htl:t.length<=1000000) (H:List MB):call Pg pol1 90 [patAV ⟨r,n,false⟩,.sl false (t.map I)] H=some (I 0,H):=by
 have hpl:=Aw ⟨r,n,false⟩;have h120:=fun b=>s120 t ht htl 1 [b,.row 1 [I 255] 0] rfl;refine AX Tryz.func90 rfl rfl rfl rfl rfl rfl (fun _=>rfl) (by simp only[AV.plain,AV.plainL,AG,hpl];rfl) rfl ?_ H;have hrl:=AM r;have hd:(patC ⟨r,n,false⟩)[9]?=some (.bool false):=by
  show (reC r++[I n,.bool false])[9]?=_;rw[List.getElem?_append_right (by omega),hrl];rfl
 have hl10:(patC ⟨r,n,false⟩).length=10:=by simp[hrl]
 have hall:(patC ⟨r,n,false⟩).all AV.ok=true:=by simp[Au,AV.ok]
 show W _ _ _ _ _ _ ⟨_,initT 0 [.agg (patC ⟨r,n,false⟩),.sl false (t.map I)] [],_⟩ _ _;generalize patC ⟨r,n,false⟩=pc at *;simp +contextual (disch:=omega) only[Tryz.f90,dd90,go_sem,simprocAttr,mu90,↓AD,↓AC,↓AB,↓AA,hd,hl10,hall,h120];exact⟨_,rfl⟩
theorem s68 (r:Re) (n:Int) (hv:validP ⟨r,n,false⟩=0) (hw:r.wt<=1000000) (t:List Int) (ht:∀ x∈t,0<=x/\x<=255) (htl:t.length<=65536) (F:Nat) (hF:F<=1048576) (H:List MB) :
  call Pg pol1 53 [.sl false (t.map I),NV F,.sl false [patAV ⟨r,n,false⟩]] H=some (I 0,H):=by
 have hpl:=Aw ⟨r,n,false⟩;have h98:=s98 r n t ht (by omega);have h53:=f48 ⟨r,n,false⟩ hw;rw[hv]at h53;have hrl:=AM r;have hl10:(patC ⟨r,n,false⟩).length=10:=by simp[hrl]
 have hall:(patC ⟨r,n,false⟩).all AV.ok=true:=by simp[Au,AV.ok]
 have htk:(patC ⟨r,n,false⟩).take 10=patC ⟨r,n,false⟩:=List.take_of_length_le (by omega);refine AX Tryz.func53 rfl rfl rfl rfl rfl rfl (fun _=>rfl) (by simp only[AV.plain,AV.plainL,AG,hpl];rfl) rfl ?_ H;simp only[patAV]at h98 h53 |-;generalize patC ⟨r,n,false⟩=pc at *;simp +contextual (disch:=omega) only[Tryz.f53,dd53,go_sem,simprocAttr,mu53,↓AD,↓AC,↓AB,↓AA,hl10,hall,htk,h53];have kp:∀ i:Nat,AV.underL 0 [NV i,I 1,.sl false [.agg pc],.sl false [.agg pc],NV F,.sl false (t.map I)]=true:=fun i=>by
  have h1:=AE 0 _ hpl;have h2:=AE 0 _ (AG t);simp[AV.underL,AV.under,h1,h2]
 have kp2:∀ i:Nat,AV.underL 0 [NV i,I 1,.sl false [.agg pc],NV F,.sl false (t.map I)]=true:=fun i=>by
  have h1:=AE 0 _ hpl;have h2:=AE 0 _ (AG t);simp[AV.underL,AV.under,h1,h2]
 refine Ae (M:=⟨some [15,14,13,2,1,0],some 0,[]⟩) (by rfl) 1 (fun i=>(⟨47,[(15,NV i),(14,I 1),(13,.sl false [.agg pc]),(2,.sl false [.agg pc]),(1,NV F),(0,.sl false (t.map I))],[]⟩:St)) (fun _=>True) ?_ ?_ trivial _ (Ar rfl rfl (kp 0) rfl rfl)
 ·intro i hi _;obtain rfl:i=0:=by omega
  simp +contextual (disch:=omega) only[Tryz.f53,dd53,go_sem,simprocAttr,mu53,↓AD,↓AC,↓AB,↓AA,hl10,hall,htk,h53];exact Ar rfl rfl (kp 1) rfl rfl
 ·intro _;have htl':((65536:Int)<((t.length:Nat):Int))=False:=eq_false (by omega);simp +contextual (disch:=omega) only[Tryz.f53,dd53,go_sem,simprocAttr,mu53,↓AD,↓AC,↓AB,↓AA,hl10,hall,htk,h53,htl'];refine Ae (M:=⟨some [30,29,28,1,0],some 0,[]⟩) (by rfl) 1 (fun i=>(⟨47,[(30,NV i),(29,I 1),(28,.sl false [.agg pc]),(1,NV F),(0,.sl false (t.map I))],[]⟩:St)) (fun _=>True) ?_ ?_ trivial _ (Ar rfl rfl (kp2 0) rfl rfl)
  ·intro i hi _;obtain rfl:i=0:=by omega
   simp +contextual (disch:=omega) only[Tryz.f53,dd53,go_sem,simprocAttr,mu53,↓AD,↓AC,↓AB,↓AA,hl10,hall,htk,h98];exact Ar rfl rfl (kp2 1) rfl rfl
  ·intro _;have hF1:((F:Int)<0)=False:=eq_false (by omega);have hF2:((1099511627776:Int)<(F:Int))=False:=eq_false (by omega);simp +contextual (disch:=omega) only[Tryz.f53,dd53,go_sem,simprocAttr,mu53,↓AD,↓AC,↓AB,↓AA,hl10,hall,htk,hF1,hF2];exact⟨_,rfl⟩
end
section
theorem Na {P:Program}{pol:Pol}{f:Nat}{args l:List AV}{H H1:List MB} (hp:pol.pure f=true) (h:frzArgs pol f 0 args H=some (l,H1)) (ha:AV.plainL l=true) :
  call P pol f args H=call P pol f l H1:=by
 have hf:∀(l:List AV) (i:Nat),AV.plainL l=true->frzArgs pol f i l H1=some (l,H1):=by
  intro l
  induction l with
  | nil=>intro i _;rfl
  | cons x l ih=>
    intro i h;simp only[AV.plainL,and_eq_true]at h;simp only[frzArgs,Az H1 h.1,ih (i+1) h.2];split<;>simp_all
 rw[Bk,Bk];unfold evStep;simp only[hp,if_true,h,hf l 0 ha]
def allA (at_ n:Nat) (s:Nat):Option Pt->AV
 | some p=>.tup [.sl false [matAV at_ p.i (pairsN p.c n)],NV s,I 0]
 | none=>.tup [.sl false [],NV s,I 0]
theorem M7 (at_ n s:Nat) (q:Option Pt):AV.plain (allA at_ n s q)=true:=by
 cases q with
 | none=>rfl
 | some p=>
   have:=FT at_ p.i (pairsN p.c n);simp[allA,AV.plain,AV.plainL,this]
theorem P8 {x x':AV}{G G':List MB} (a b:Int) (h:fz x G=some (x',G')):fz (.tup [x,I a,I b]) G=some (.tup [x',I a,I b],G'):=by
 unfold fz at *;simp only[fzA,fzL,h]
theorem s33 (r:Re) (n:Nat) (hn:n<=9) (hv:validP ⟨r,n,false⟩=0) (hw:r.wt<=1000000) (t:List Int) (ht:∀ x∈t,0<=x/\x<=255) (htl:t.length<=65536) (at_:Nat) (hat:at_<=t.length) (F:Nat) (hF:F<=1048576)
  (m:Nat) (q:Option Pt) (hq:∀ p,q=some p->p.c.length=18) (O':List Pt) (s':Nat) (h:runM t F m none [⟨at_,cap0,[.re r]⟩] 0=some (q,O',s')) (H:List MB) :
  call Pg pol1 26 [patAV ⟨r,n,false⟩,.sl false (t.map I),NV at_,I 1,NV F] H=some (allA at_ n s' q,H):=by
 have hpc:=Aw ⟨r,n,false⟩;have h68:∀ H,call Pg pol1 53 [.sl false (t.map I),NV F,.sl true [patAV ⟨r,n,false⟩]] H=some (I 0,H):=fun H=>by
  rw[Na (l:=[.sl false (t.map I),NV F,.sl false [patAV ⟨r,n,false⟩]]) (H1:=H) rfl ?_ ?_]
  ·exact s68 r n hv hw t ht htl F hF H
  ·have h1:fz (.sl false (t.map I)) H=some (.sl false (t.map I),H):=Az H (by simp only[AV.plain,AG];rfl);have h2:fz (.sl true [patAV ⟨r,n,false⟩]) H=some (.sl false [patAV ⟨r,n,false⟩],H):=by
    unfold fz;have:=BO (fzJ 6) [patAV ⟨r,n,false⟩] H (by simp only[AV.plainL,AV.plain,hpc];rfl);simp only[fzA,this]
   have h3:fz (NV F) H=some (NV F,H):=rfl;have hby:∀ i,pol1.byref 53 i=false:=fun i=>rfl;simp only[frzArgs,hby,false_eq_true,if_false,h1,h2,h3]
  ·simp only[AV.plainL,AV.plain,AG,hpc];rfl
 have hrl:=AM r;have hl10:(patC ⟨r,n,false⟩).length=10:=by simp[hrl]
 have hall:(patC ⟨r,n,false⟩).all AV.ok=true:=by simp[Au,AV.ok]
 have htk:(patC ⟨r,n,false⟩).take 10=patC ⟨r,n,false⟩:=List.take_of_length_le (by omega);have hfz:fz (.rf 0 1 0 0) [MB.row 10 [patAV ⟨r,n,false⟩] 0]=some (.pt (patC ⟨r,n,false⟩),[MB.row 10 [patAV ⟨r,n,false⟩] 1]):=DP (G:=[MB.row 10 [patAV ⟨r,n,false⟩] 0]) (id:=0) (k:=10) (z:=0) (x:=patAV ⟨r,n,false⟩) rfl hpc;have hU:∀ k,([MB.row 3 [] 0]:List MB).length+4<=k->(MB.row 10 [patAV ⟨r,n,false⟩] 1::[MB.row 3 [] 0]).all (MB.under k)=true:=fun k hk=>by
  have:=AE k _ hpc;simp only[all_cons,all_nil,MB.under,AV.underL,AV.under,this];rfl
 have h69:=s69 (MB.row 10 [patAV ⟨r,n,false⟩] 1) (patC ⟨r,n,false⟩) t F;have h70:=s70 (MB.row 10 [patAV ⟨r,n,false⟩] 1) r n false t at_ F;obtain⟨J',hJ',h71⟩:=s71 (MB.row 10 [patAV ⟨r,n,false⟩] 1) [MB.row 3 [] 0] hU r n hn false t (by omega) at_ F hF m [⟨at_,cap0,[.re r]⟩] 0 [] (fun m hm=>rfl) (fun x hx=>by simp at hx;subst hx;exact⟨hat,rfl⟩) (by simp) (by omega) q hq O' s' h;refine AX Tryz.func26 rfl rfl rfl rfl rfl rfl (fun _=>rfl) (by simp only[AV.plain,AV.plainL,AG,hpc];rfl) (M7 _ _ _ _) ?_ H;have hat1:((at_:Int)<0)=False:=eq_false (by omega);have hat2:(((t.length:Nat):Int)<(at_:Int))=False:=eq_false (by omega);simp only[patAV,hpS]at *;have hpd:patC ⟨r,n,false⟩=patC ⟨r,n,false⟩:=rfl;generalize patC ⟨r,n,false⟩=pc at *;have h70':call Pg pol1 55 [.rf 2 1 0 0,NV at_] (hp4 (MB.row 10 [.agg pc] 1) [] (mcA pc t 0 0 0 0 F) [])=some (.tup [],[MB.row 10 [.agg pc] 1,.mp (.int .i64) opsA,.row 8 [mcA pc t 1 1 at_ 0 F] 0,.row 3 [ptA ⟨at_,cap0,[.re r]⟩] 0]):=h70
 have h71':call Pg pol1 56 [.rf 2 1 0 0] [MB.row 10 [.agg pc] 1,.mp (.int .i64) opsA,.row 8 [mcA pc t 1 1 at_ 0 F] 0,.row 3 [ptA ⟨at_,cap0,[.re r]⟩] 0,.row 3 [] 0] =
  some (nextA at_ n q,[MB.row 10 [.agg pc] 1,.mp (.int .i64) opsA,.row 8 [mcA pc t (O'.length+J'.length) O'.length at_ s' F] 0,.row 3 (O'.reverse.map ptA++J') 0,.row 3 [] 0]):=h71
 have uE0:AV.underL 5 [ptA ⟨at_,cap0,[.re r]⟩]=true:=CX 5 (by omega) [⟨at_,cap0,[.re r]⟩] [] (fun m hm=>rfl);have uE1:AV.underL 5 (O'.reverse.map ptA++J')=true:=CX 5 (by omega) O' J' hJ';have uM:∀ L k (s:Nat),AV.underL 5 [mcA pc t L k at_ s F]=true:=fun L k s=>CZ hpc t L k at_ s F 5 (by omega);have uO:MB.under 5 (.mp (.int .i64) opsA)=true:=rfl;have uP:MB.under 5 (.row 10 [.agg pc] 1)=true:=by
  have:=AE 5 _ hpc;simp only[MB.under,AV.underL,AV.under,this];rfl
 have v0:MB.under 5 (.row 3 [ptA ⟨at_,cap0,[.re r]⟩] 0)=true:=uE0;have v1:∀ L k (s:Nat),MB.under 5 (.row 8 [mcA pc t L k at_ s F] 0)=true:=uM;have vE:MB.under 5 (.row 3 (O'.reverse.map ptA++J') 0)=true:=uE1;have vn:MB.under 5 (.row 3 [] 0)=true:=rfl;clear h70 h71 hU;generalize opsA=OP at *;generalize ptA ⟨at_,cap0,[.re r]⟩=P0 at *;generalize O'.reverse.map ptA++J' = E1 at *;generalize O'.length+J'.length=L1 at *;generalize O'.length=n1 at *;simp +contextual (disch:=omega) only[Tryz.f26,dd26,go_sem,simprocAttr,mu26,↓AD,↓AC,↓AB,↓AA,hl10,hall,htk,hfz,h68,h69,h70',hat1,hat2];cases q with
 | none=>
   refine Ae (M:=⟨some [15,14,3],some 5,[]⟩) (by rfl) 0 (fun i=>(⟨66,[(15,.ms 4 3 0 0 0),(14,.rf 2 1 0 0),(3,I 1)],[MB.row 10 [.agg pc] 1,.mp (.int .i64) OP,.row 8 [mcA pc t 1 1 at_ 0 F] 0,.row 3 [P0] 0,.row 3 [] 0]⟩:St)) (fun _=>True) ?_ ?_ trivial _ ?_
   ·intro i hi _;omega
   ·intro _;simp only[nextA]at h71';simp +contextual (disch:=omega) only[Tryz.f26,dd26,go_sem,simprocAttr,mu26,↓AD,↓AC,↓AB,↓AA,hl10,hall,htk,h71'];repeat' (first|intro _|apply And.intro|(unfold dOk;kernel_rfl)|(show (_||_)=true;kernel_rfl)|(show (_&&_)=true;kernel_rfl))
    exact⟨_,rfl⟩
   ·exact BD rfl rfl rfl rfl (by rfl) (by simp only[all_cons,all_nil,v0,v1,vn,uO,uP];rfl)
 | some p=>
   simp only[nextA]at h71';have hpm:=FT at_ p.i (pairsN p.c n);have hmc:matAV at_ p.i (pairsN p.c n)=.agg [I at_,NV p.i,.sl false ((pairsN p.c n).map spanAV)]:=rfl;have um:AV.underL 5 [matAV at_ p.i (pairsN p.c n)]=true:=by simp only[AV.underL,AH 5 _ hpm];rfl
   refine Dk (σ:=Bool) (M:=⟨some [15,14,3],some 5,[]⟩) (by rfl) (fun b=>(⟨66,[(15,.ms 4 3 (if b then 1 else 0) 0 (if b then 1 else 0)),(14,.rf 2 1 0 0),(3,I 1)],
    [MB.row 10 [.agg pc] 1,.mp (.int .i64) OP,.row 8 [if b then mcA pc t L1 n1 at_ s' F else mcA pc t 1 1 at_ 0 F] 0,.row 3 (if b then E1 else [P0]) 0,.row 3 (if b then [matAV at_ p.i (pairsN p.c n)] else []) 0]⟩:St)) (fun _=>True) (fun b=>if b then 0 else 1) false ?_ trivial _ ?_
   ·intro b _;cases b with
    | false=>
      simp only[false_eq_true,if_false];rw[hmc]at h71';have hrm:roomFor (0+1) 40=true:=by decide
      simp +contextual (disch:=omega) only[Tryz.f26,dd26,go_sem,simprocAttr,mu26,↓AD,↓AC,↓AB,↓AA,hl10,hall,htk,h71'];have um2:MB.under 5 (.row 3 [matAV at_ p.i (pairsN p.c n)] 0)=true:=um;exact⟨true,by simp,BD rfl rfl rfl rfl (by rfl) (by simp only[all_cons,all_nil,if_true,v1,vE,um2,uO,uP];rfl)⟩
    | true=>
      simp only[if_true];simp +contextual (disch:=omega) only[Tryz.f26,dd26,go_sem,simprocAttr,mu26,↓AD,↓AC,↓AB,↓AA,hl10,hall,htk];refine⟨by unfold dOk;kernel_rfl,?_⟩;have h1:=fun G (hG:getRow G 4=some (3,[matAV at_ p.i (pairsN p.c n)],0))=>De hG (tot:=1) rfl (by simp only[AV.plainL,hpm];rfl);have h2:=h1 [MB.row 10 [.agg pc] 1,.mp (.int .i64) OP,.row 8 [mcA pc t L1 n1 at_ s' F] 0,.row 3 E1 0,.row 3 [matAV at_ p.i (pairsN p.c n)] 0] rfl;exact⟨_,P8 _ _ h2⟩
   ·exact BD rfl rfl rfl rfl (by rfl) (by simp only[all_cons,all_nil,v0,v1,vn,uO,uP,false_eq_true,if_false];rfl)
end
def GoodC9 (c:List Int):Prop:=c.length=18/\∀ k,k<9->(c.getD (2*k) 0 = -1/\c.getD (2*k+1) 0 = -1)∨(0<=c.getD (2*k) 0/\0<=c.getD (2*k+1) 0)
theorem NK:GoodC9 cap0:=⟨rfl,fun k hk=>.inl (by
 have:∀ k,k<9->cap0.getD (2*k) 0 = -1/\cap0.getD (2*k+1) 0 = -1:=by decide
 exact this k hk)⟩
theorem Od {c:List Int} (h:GoodC9 c) {n:Int} (hn:1<=n) (i j:Nat):GoodC9 (setC c n i j):=by
 obtain⟨m,hm⟩:∃ m:Nat,n=m+1:=⟨(n-1).toNat,by omega⟩;have e1:(2*n-2).toNat=2*m:=by omega
 have e2:(2*n-1).toNat=2*m+1:=by omega
 refine⟨by rw[Gp];exact h.1,fun k hk=>?_⟩;have hl:=h.1;unfold setC;rw[e1,e2];simp only[List.getD_eq_getElem?_getD];by_cases hkm:k=m
 ·subst hkm;right;rw[getElem?_set_ne (by omega),List.getElem?_set_self (by omega),List.getElem?_set_self (by rw[List.length_set];omega)];simp
 ·have:=h.2 k hk;simp only[List.getD_eq_getElem?_getD]at this;rw[getElem?_set_ne (by omega),getElem?_set_ne (by omega),getElem?_set_ne (by omega),getElem?_set_ne (by omega)];exact this
theorem KJ {P:List Int->Prop}{f:(Nat->List Int->Rs)->Nat->List Int->Rs} (hf:∀ K,(∀ j d,P d->∀ x,K j d=some x->P x.2)->∀ i c,P c->∀ x,f K i c=some x->P x.2) (mn mx md:Int) {K:Nat->List Int->Rs} (hK:∀ j d,P d->∀ x,K j d=some x->P x.2) :
  ∀(m:Nat) (q:Int) (i:Nat) (c:List Int),P c->∀ x,repK f mn mx md K m q i c=some x->P x.2
 | 0,_,_,_,_,x,h=>by simp[repK]at h
 | m+1,q,i,c,hc,x,h=>by
   have ih:=hf _ (fun j d hd x hx=>KJ hf mn mx md hK m (q+1) j d hd x hx) i c hc;have hor:∀ a b:Rs,(∀ x,a=some x->P x.2)->(∀ x,b=some x->P x.2)->∀ x,a.or b=some x->P x.2:=fun a b ha hb x hx=>by
    cases a with
    | none=>exact hb x (by simpa using hx)
    | some y=>exact ha x (by simpa using hx)
   have hif:∀ x,(if mx = -1∨q<mx then f (repK f mn mx md K m (q+1)) i c else none)=some x->P x.2:=fun x hx=>by
    split at hx
    ·exact ih x hx
    ·cases hx
   rw[repK]at h;split at h
   ·exact ih x h
   ·split at h
    ·exact hor _ _ (hK i c hc) hif x h
    ·exact hor _ _ hif (hK i c hc) x h
section
variable {caps top:Int}{t:List Int}
mutual
theorem GY:∀(r:Re),wholeG caps top r=true->∀(K:Nat->List Int->Rs),(∀ j d,GoodC9 d->∀ x,K j d=some x->GoodC9 x.2)->∀ i c,GoodC9 c->∀ x,fst t r K i c=some x->GoodC9 x.2
 | .mk op set kids mn mx md n neg,hw,K,hK,i,c,hc,x,h=>by
   obtain⟨hwk,_,_,hcn,_,_⟩:=BC hw;have hH:=Oi kids hwk;rw[fst]at h;split at h
   ·split at h
    ·split at h
     ·exact hK _ _ hc x h
     ·cases h
    ·cases h
   ·split at h
    ·exact Kj kids hwk K hK i c hc x h
    ·split at h
     ·exact Kl kids hwk K hK i c hc x h
     ·split at h
      ·exact KJ (P:=GoodC9) (fun K hK i c hc x h=>hH K hK i c hc x h) mn mx md hK _ _ _ _ hc x h
      ·split at h
       ·rename_i h5;exact hH _ (fun j d hd x hx=>hK _ _ (Od hd (hcn (.inl h5)).1 i j) x hx) i c hc x h
       ·exact hK _ _ hc x h
theorem Kj:∀(l:List Re),(∀ k∈l,wholeG caps top k=true)->∀(K:Nat->List Int->Rs),(∀ j d,GoodC9 d->∀ x,K j d=some x->GoodC9 x.2)->∀ i c,GoodC9 c->∀ x,fstC t l K i c=some x->GoodC9 x.2
 | [],_,K,hK,i,c,hc,x,h=>hK i c hc x h
 | r::rs,hw,K,hK,i,c,hc,x,h=>by
   rw[fstC]at h;exact GY r (hw r (by simp)) _ (fun j d hd y hy=>Kj rs (fun k hk=>hw k (by simp[hk])) K hK j d hd y hy) i c hc x h
theorem Kl:∀(l:List Re),(∀ k∈l,wholeG caps top k=true)->∀(K:Nat->List Int->Rs),(∀ j d,GoodC9 d->∀ x,K j d=some x->GoodC9 x.2)->∀ i c,GoodC9 c->∀ x,fstA t l K i c=some x->GoodC9 x.2
 | [],_,K,hK,i,c,hc,x,h=>by simp[fstA]at h
 | r::rs,hw,K,hK,i,c,hc,x,h=>by
   rw[fstA]at h;cases hq:fst t r K i c with
   | none=>rw[hq]at h;exact Kl rs (fun k hk=>hw k (by simp[hk])) K hK i c hc x (by simpa using h)
   | some y=>rw[hq]at h;exact GY r (hw r (by simp)) K hK i c hc x (by rw[hq];simpa using h)
theorem Oi:∀(l:List Re),(∀ k∈l,wholeG caps top k=true)->∀(K:Nat->List Int->Rs),(∀ j d,GoodC9 d->∀ x,K j d=some x->GoodC9 x.2)->∀ i c,GoodC9 c->∀ x,fstH t l K i c=some x->GoodC9 x.2
 | [],_,K,hK,i,c,hc,x,h=>by simp[fstH]at h
 | r::rs,hw,K,hK,i,c,hc,x,h=>by
   rw[fstH]at h;exact GY r (hw r (by simp)) K hK i c hc x h
end
end
def firstM (re:Re) (t:List Int) (i:Nat):Rs:=fst t re (fun j d=>some (j,d)) i cap0
def firstP (re:Re) (t:List Int) (i:Nat):Option Pt:=(firstM re t i).map fun x=>⟨x.1,x.2,[]⟩
theorem M2 {caps top:Int}{t:List Int}{F:Nat} (hcaps:caps<=9) {r:Re} (hcp:compG [] r=true) (hw:wholeG caps top r=true) (hna:noAs r=true) (hwt:r.wt<=1000) (i:Nat) (hi:i<=t.length) (hF:costR t r i<=F) :
  (∃ m O' s',runM t F m none [⟨i,cap0,[.re r]⟩] 0=some (firstP r t i,O',s'))/\∀ p,firstP r t i=some p->p.c.length=18/\GoodC9 p.c:=by
 constructor
 ·obtain⟨m,s',h1,h2⟩:=Nu (t:=t) (F:=F) hcaps hcp hw hna hwt i hi cap0 [] 0 (by omega);unfold firstP firstM;cases hq:fst t r (fun j d=>some (j,d)) i cap0 with
  | none=>
    rw[hq]at h2;refine⟨m+1+1,[],s',?_⟩;have:=h2 1;simp only[List.nil_append,runM]at this;rw[runM];exact this
  | some x=>
    rw[hq]at h2;obtain⟨O',h2⟩:=h2;refine⟨m+1+1,O',s',?_⟩;have:=h2 0;rw[runM];exact this
 ·intro p hp;obtain⟨x,hx,rfl⟩:=Option.map_eq_some_iff.1 hp;have:=GY (t:=t) r hw (fun j d=>some (j,d)) (fun j d hd x hx=>by cases hx;exact hd) i cap0 NK x hx;exact⟨this.1,this⟩
abbrev wy (p n:Nat):Way:=⟨n,p,[]⟩
structure LeadsD (ins:List Ins):Prop where
 ops:∀ i∈ins,i.op=0∨i.op=1∨i.op=2∨i.op=3∨i.op=4
 next:∀ n i,ins[n]?=some i->(i.op=2∨i.op=3->i.x.toNat<ins.length)/\(i.op=2->i.y.toNat<ins.length)/\(i.op=1∨i.op=4->n+1<ins.length)
theorem Cs (ins:List Ins):∀(k n:Nat) (s:VS),∃ m,(visit ins k n s).r=s.r++m
 | 0,n,s=>⟨[],by simp[visit]⟩
 | k+1,n,s=>by
   simp only[visit];split
   ·exact⟨[],by simp⟩
   split
   ·exact⟨[],by simp⟩
   split
   ·exact⟨[n],rfl⟩
   split
   ·exact⟨[n],rfl⟩
   split
   ·exact Cs ins k _ (s.mark n)
   split
   ·obtain⟨m1,h1⟩:=Cs ins k ‹Ins›.x.toNat (s.mark n);obtain⟨m2,h2⟩:=Cs ins k ‹Ins›.y.toNat (visit ins k ‹Ins›.x.toNat (s.mark n));exact⟨m1++m2,by rw[h2,h1,append_assoc];rfl⟩
   split
   ·exact Cs ins k (n+1) (s.mark n)
   ·exact⟨[],by simp[VS.mark]⟩
section
variable {ins:List Ins}{t:List Int}{P:Prog1} (hl:LeadsD ins) (hP:ProgT P ins t) (p:Nat)
def BarD (P:Prog1) (p:Nat) (s:VS) (N:Nat):Prop:=∀ m,s.a[m]?=some true->(∃ k,Ex P [wy p m] none k)∨(∀ r k,Ex P [wy p m] r k->N<k)
theorem BarD.mark {P:Prog1}{p:Nat}{s:VS}{N:Nat} (h:BarD P p s N) {n:Nat}{r:Rs} (g:Ex P [wy p n] r N) {M:Nat} (hM:M<N):BarD P p (s.mark n) M:=by
 intro m hm;by_cases e:n=m
 ·subst e;exact .inr fun r' k g'=>by rw[<- (g.uniq g').2];exact hM
 ·have:s.a[m]?=some true:=by simpa [VS.mark,getElem?_set_ne e] using hm
  rcases h m this with h1|h1
  ·exact .inl h1
  ·exact .inr fun r' k g'=>Nat.lt_trans hM (h1 r' k g')
theorem Nm (hl:LeadsD ins) (hP:ProgT P ins t) (p:Nat):∀(N k n:Nat) (s:VS) (r:Rs),Ex P [wy p n] r N->s.c=false->s.Ok ins.length->s.open<k->n<ins.length->BarD P p s N ->
  ∃ fd,(visit ins k n s).r=s.r++fd/\(∃ N1,Ex P (fd.map (wy p)) r N1)/\((visit ins k n s).c=true->r≠none) /\
    (r=none->∀ m,(visit ins k n s).a[m]?=some true->s.a[m]?=some true∨∃ k,Ex P [wy p m] none k):=by
 intro N
 induction N using Nat.strongRecOn with
 | ind N ih=>
 intro k n s r hE hc hok hk hn hB;obtain⟨k,rfl⟩:∃ q,k=q+1:=⟨k-1,by omega⟩;simp only[visit];by_cases hm:s.c=true∨s.a[n]?≠some false
 ·rw[if_pos hm];have hna:s.a[n]?=some true:=by
   rcases hm with h|h
   ·rw[hc]at h;cases h
   ·have hlt:n<s.a.length:=by rw[hok.len];exact hn
    rw[List.getElem?_eq_getElem hlt]at h |-;cases hb:s.a[n] with
    | false=>rw[hb]at h;exact absurd rfl h
    | true=>rfl
  have hr:r=none:=by
   rcases hB n hna with ⟨q,h⟩|h
   ·exact(hE.uniq h).1
   ·exact absurd (h r N hE) (Nat.lt_irrefl _)
  subst hr;refine⟨[],by simp,⟨0,Ex.nil⟩,fun h=>(by rw[hc]at h;cases h),fun _ m h=>.inl h⟩
 ·rw[if_neg hm];have hna:s.a[n]?=some false:=Classical.byContradiction fun e=>hm (.inr e);obtain⟨i,hi⟩:∃ i,ins[n]?=some i:=⟨_,List.getElem?_eq_getElem hn⟩;have hPi:P.ins n=some i:=by rw[hP.ins,hi]
  have ho:=FV hna;have hok1:=hok.mark (n:=n);obtain⟨l1,l2,l3⟩:=hl.next n i hi;simp only[hi];rcases hl.ops i (List.mem_of_getElem? hi) with h0|h0|h0|h0|h0
  ·rw[if_pos h0];refine⟨[n],rfl,⟨N,hE⟩,fun _ e=>?_,fun e=>?_⟩
   all_goals
    have:stepW P (wy p n)=.done:=by simp[stepW,hPi,h0]
    cases hE with
    | done _=>cases e
    | step h' _=>rw[this]at h';cases h'
  ·rw[if_neg (by omega),if_pos h0];refine⟨[n],rfl,⟨N,hE⟩,fun h=>by simp[VS.found]at h,fun e m h=>?_⟩;subst e;by_cases en:n=m
   ·subst en;exact .inr ⟨N,hE⟩
   ·exact .inl (by simpa [VS.found,getElem?_set_ne en] using h)
  ·rw[if_neg (by omega),if_neg (by omega),if_neg (by omega),if_pos h0];have hs:stepW P (wy p n)=.ways [wy p i.x.toNat,wy p i.y.toNat]:=by simp[stepW,hPi,h0]
   have hE0:=hE;cases hE with
   | done h'=>rw[hs]at h';cases h'
   | step h' g=>
     rename_i l N;rw[hs]at h';cases h';have hb1:=fun M hM=>hB.mark (M:=M) hE0 hM;have hmk:∀ m,(s.mark n).a[m]?=some true->n=m∨s.a[m]?=some true:=fun m h=>by
      by_cases en:n=m
      ·exact .inl en
      ·exact .inr (by simpa [VS.mark,getElem?_set_ne en] using h)
     rcases Ex.split N [wy p i.x.toNat] [wy p i.y.toNat] r g with ⟨x,q,e,hq,g1⟩|⟨k1,k2,e,g1,g2⟩
     ·obtain⟨fd,f1,⟨N1,f2⟩,_,_⟩:=ih q (by omega) k i.x.toNat (s.mark n) _ g1 hc hok1 (by omega) (l1 (.inl h0)) (hb1 q (by omega));obtain⟨m2,h2⟩:=Cs ins k i.y.toNat (visit ins k i.x.toNat (s.mark n));subst e;refine⟨fd++m2,by rw[h2,f1,append_assoc];rfl,⟨N1,?_⟩,fun _ e=>(by cases e),fun e=>(by cases e)⟩;rw[map_append];exact f2.fst _ rfl
     ·obtain⟨fd,f1,⟨N1,f2⟩,f3,f4⟩:=ih k1 (by omega) k i.x.toNat (s.mark n) _ g1 hc hok1 (by omega) (l1 (.inl h0)) (hb1 k1 (by omega));have hv:=hok1.visit (ins:=ins) (k:=k) (n:=i.x.toNat);have hc1:(visit ins k i.x.toNat (s.mark n)).c=false:=eq_false_iff.2 fun e=>f3 e rfl;have hb2:BarD P p (visit ins k i.x.toNat (s.mark n)) k2:=fun m hm=>by
       rcases f4 rfl m hm with h|h
       ·exact hb1 k2 (by omega) m h
       ·exact .inl h
      obtain⟨fd2,e1,⟨N2,e2⟩,e3,e4⟩:=ih k2 (by omega) k i.y.toNat (visit ins k i.x.toNat (s.mark n)) r g2 hc1 hv.1 (by omega) (l2 h0) hb2;refine⟨fd++fd2,by rw[e1,f1,append_assoc];rfl,⟨N1+N2,?_⟩,e3,fun er m hm=>?_⟩
      ·rw[map_append];exact f2.app rfl e2
      ·rcases e4 er m hm with h|h
       ·rcases f4 rfl m h with h|h
        ·rcases hmk m h with rfl|h
         ·subst er;exact .inr ⟨_,hE0⟩
         ·exact .inl h
        ·exact .inr h
       ·exact .inr h
  ·rw[if_neg (by omega),if_neg (by omega),if_pos h0];have hs:stepW P (wy p n)=.ways [wy p i.x.toNat]:=by simp[stepW,hPi,h0]
   have hE0:=hE;cases hE with
   | done h'=>rw[hs]at h';cases h'
   | step h' g=>
     rename_i l N;rw[hs]at h';cases h';obtain⟨fd,f1,f2,f3,f4⟩:=ih N (by omega) k i.x.toNat (s.mark n) r g hc hok1 (by omega) (l1 (.inr h0)) (hB.mark hE0 (by omega));refine⟨fd,f1,f2,f3,fun er m hm=>?_⟩;rcases f4 er m hm with h|h
     ·by_cases en:n=m
      ·subst en;subst er;exact .inr ⟨_,hE0⟩
      ·exact .inl (by simpa [VS.mark,getElem?_set_ne en] using h)
     ·exact .inr h
  ·rw[if_neg (by omega),if_neg (by omega),if_neg (by omega),if_neg (by omega),if_pos h0];have hs:stepW P (wy p n)=.ways [wy p (n+1)]:=by simp[stepW,hPi,h0]
   have hE0:=hE;cases hE with
   | done h'=>rw[hs]at h';cases h'
   | step h' g=>
     rename_i l N;rw[hs]at h';cases h';obtain⟨fd,f1,f2,f3,f4⟩:=ih N (by omega) k (n+1) (s.mark n) r g hc hok1 (by omega) (l3 (.inr h0)) (hB.mark hE0 (by omega));refine⟨fd,f1,f2,f3,fun er m hm=>?_⟩;rcases f4 er m hm with h|h
     ·by_cases en:n=m
      ·subst en;subst er;exact .inr ⟨_,hE0⟩
      ·exact .inl (by simpa [VS.mark,getElem?_set_ne en] using h)
     ·exact .inr h
end
section
variable {ins:List Ins}{t:List Int}{P:Prog1}
theorem Gd (ins:List Ins) (k:Nat):∀(ns:List Nat) (s:VS),∃ m,(visits ins k ns s).r=s.r++m
 | [],s=>⟨[],by simp[EU]⟩
 | n::ns,s=>by
   obtain⟨m1,h1⟩:=Cs ins k n s;obtain⟨m2,h2⟩:=Gd ins k ns (visit ins k n s);exact⟨m1++m2,by rw[C9,h2,h1,append_assoc]⟩
theorem MI (hl:LeadsD ins) (hP:ProgT P ins t) (p:Nat) (k:Nat):∀(ns:List Nat) (N:Nat) (s:VS) (r:Rs),Ex P (ns.map (wy p)) r N->s.c=false->s.Ok ins.length->s.open<k->(∀ n∈ns,n<ins.length)->(∀ m,s.a[m]?=some true->∃ k,Ex P [wy p m] none k) ->
  ∃ fd,(visits ins k ns s).r=s.r++fd/\∃ N1,Ex P (fd.map (wy p)) r N1
 | [],N,s,r,hE,hc,hok,hk,hn,hB=>⟨[],by simp[EU],N,hE⟩
 | n::ns,N,s,r,hE,hc,hok,hk,hn,hB=>by
   rw[C9];rcases Ex.split N [wy p n] (ns.map (wy p)) r hE with ⟨x,q,e,hq,g1⟩|⟨k1,k2,e,g1,g2⟩
   ·obtain⟨fd,f1,⟨N1,f2⟩,_,_⟩:=Nm hl hP p q k n s _ g1 hc hok hk (hn n (by simp)) (fun m hm=>.inl (hB m hm));obtain⟨m2,h2⟩:=Gd ins k ns (visit ins k n s);subst e;refine⟨fd++m2,by rw[h2,f1,append_assoc],N1,?_⟩;rw[map_append];exact f2.fst _ rfl
   ·obtain⟨fd,f1,⟨N1,f2⟩,f3,f4⟩:=Nm hl hP p k1 k n s _ g1 hc hok hk (hn n (by simp)) (fun m hm=>.inl (hB m hm));have hv:=hok.visit (ins:=ins) (k:=k) (n:=n);obtain⟨fd2,e1,N2,e2⟩:=MI hl hP p k ns k2 (visit ins k n s) r g2 (eq_false_iff.2 fun e=>f3 e rfl) hv.1 (by omega) (fun m hm=>hn m (by simp[hm])) (fun m hm=>by
     rcases f4 rfl m hm with h|h
     ·exact hB m h
     ·exact h)
    refine⟨fd++fd2,by rw[e1,f1,append_assoc],N1+N2,?_⟩;rw[map_append];exact f2.app rfl e2
theorem JD (hl:LeadsD ins) (hP:ProgT P ins t) (p:Nat) {ns:List Nat}{r:Rs}{N:Nat} (h:Ex P (ns.map (wy p)) r N) (hn:∀ n∈ns,n<ins.length):∃ N1,Ex P ((stateL ins ns).map (wy p)) r N1:=by
 obtain⟨fd,h1,N1,h2⟩:=MI hl hP p (ins.length+1) ns N (vs0 ins.length) r h rfl (JB _) (by rw[Jr];omega) hn (fun m hm=>by
  simp only[vs0]at hm;rw[List.getElem?_replicate]at hm;split at hm<;>cases hm)
 refine⟨N1,?_⟩;have:stateL ins ns=fd:=by unfold stateL;rw[h1];simp[vs0]
 rw[this];exact h2
def OpIs (ins:List Ins) (o:Int) (n:Nat):Prop:=∃ i,ins[n]?=some i/\i.op=o
def ShapeV (ins:List Ins) (s:VS):Prop:=if s.c=true then ∃ l d,s.r=l++[d]/\OpIs ins 0 d/\∀ n∈l,OpIs ins 1 n else ∀ n∈s.r,OpIs ins 1 n
theorem ShapeV.visit:∀(k n:Nat) (s:VS),ShapeV ins s->ShapeV ins (visit ins k n s)
 | 0,n,s,h=>h
 | k+1,n,s,h=>by
   simp only[Go.Ev.visit];split
   ·exact h
   rename_i hm;have hc:s.c=false:=eq_false_iff.2 fun e=>hm (.inl e);have h':∀ n∈s.r,OpIs ins 1 n:=by simpa [ShapeV,hc] using h
   split
   ·exact h
   rename_i i hi;split
   ·rename_i h0;simp only[ShapeV,VS.found,if_true];exact⟨s.r,n,rfl,⟨i,hi,h0⟩,h'⟩
   split
   ·rename_i h1;simp only[ShapeV,VS.found,false_eq_true,if_false];intro m hm;rcases List.mem_append.1 hm with hm|hm
    ·exact h' m hm
    ·rw[mem_singleton.1 hm];exact⟨i,hi,h1⟩
   split
   ·exact ShapeV.visit k _ (s.mark n) h
   split
   ·exact ShapeV.visit k _ _ (ShapeV.visit k _ (s.mark n) h)
   split
   ·exact ShapeV.visit k _ (s.mark n) h
   ·exact h
theorem ShapeV.visits (k:Nat):∀(ns:List Nat) (s:VS),ShapeV ins s->ShapeV ins (visits ins k ns s)
 | [],s,h=>h
 | n::ns,s,h=>by rw[C9];exact ShapeV.visits k ns _ (ShapeV.visit k n s h)
def ShapeL (ins:List Ins) (l:List Nat):Prop:=(∀ n∈l,OpIs ins 1 n)∨∃ l1 d,l=l1++[d]/\OpIs ins 0 d/\∀ n∈l1,OpIs ins 1 n
theorem Cn (ins:List Ins) (ns:List Nat):ShapeL ins (stateL ins ns):=by
 have h:=ShapeV.visits (ins:=ins) (ins.length+1) ns (vs0 ins.length) (by simp[ShapeV,vs0]);unfold ShapeV at h;split at h
 ·exact .inr h
 ·exact .inl h
theorem hasD (hP:ProgT P ins t) (s:List (Int×Int)) (p:Nat) {x:Int} (hx:t[p]?=some x):P.has s p=hasSpan s x:=by rw[hP.has,hx]
theorem hasN (hP:ProgT P ins t) (s:List (Int×Int)) (p:Nat) (hx:t[p]?=none):P.has s p=false:=by rw[hP.has,hx]
theorem MQ (hP:ProgT P ins t) (p:Nat) {x:Int} (hx:t[p]?=some x):∀(l:List Nat),(∀ n∈l,OpIs ins 1 n)->∀(N:Nat) (r:Rs),Ex P (l.map (wy p)) r N->∃ N1,Ex P ((afterL ins l x).map (wy (p+1))) r N1
 | [],_,N,r,h=>⟨N,h⟩
 | n::l,ho,N,r,h=>by
   obtain⟨i,hi,h1⟩:=ho n (by simp);have hPi:P.ins n=some i:=by rw[hP.ins,hi]
   have ha:afterL ins (n::l) x=(if hasSpan i.set x=true then [n+1] else [])++afterL ins l x:=by
    simp[afterL,hi,h1]
   have ih:=MQ hP p hx l (fun m hm=>ho m (by simp[hm]));rw[map_cons]at h;by_cases hh:hasSpan i.set x=true
   ·have hs:stepW P (wy p n)=.ways [wy (p+1) (n+1)]:=by simp[stepW,hPi,h1,hasD hP i.set p hx,hh]
    cases h with
    | done h'=>rw[hs]at h';cases h'
    | step h' g=>
      rename_i q l';rw[hs]at h';cases h';rw[ha,if_pos hh,map_append];rcases Ex.split _ [wy (p+1) (n+1)] _ r g with ⟨z,k,e,_,g1⟩|⟨k1,k2,_,g1,g2⟩
      ·subst e;exact⟨k,g1.fst _ rfl⟩
      ·obtain⟨N1,g3⟩:=ih k2 r g2;exact⟨k1+N1,g1.app rfl g3⟩
   ·have hs:stepW P (wy p n)=.ways []:=by simp[stepW,hPi,h1,hasD hP i.set p hx,hh]
    cases h with
    | done h'=>rw[hs]at h';cases h'
    | step h' g=>
      rw[hs]at h';cases h';rw[ha,if_neg hh,List.nil_append];exact ih _ r g
theorem O4 (hP:ProgT P ins t) (p:Nat) (hx:t[p]?=none):∀(l:List Nat),(∀ n∈l,OpIs ins 1 n)->∀(N:Nat) (r:Rs),Ex P (l.map (wy p)) r N->r=none
 | [],_,N,r,h=>by cases h;rfl
 | n::l,ho,N,r,h=>by
   obtain⟨i,hi,h1⟩:=ho n (by simp);have hPi:P.ins n=some i:=by rw[hP.ins,hi]
   have hs:stepW P (wy p n)=.ways []:=by simp[stepW,hPi,h1,hasN hP i.set p hx]
   rw[map_cons]at h;cases h with
   | done h'=>rw[hs]at h';cases h'
   | step h' g=>
     rw[hs]at h';cases h';exact O4 hP p hx l (fun m hm=>ho m (by simp[hm])) _ r g
theorem Qb (hP:ProgT P ins t) (p d:Nat) (hd:OpIs ins 0 d) {r:Rs}{N:Nat} (h:Ex P [wy p d] r N):r=some (p,[]):=by
 obtain⟨i,hi,h0⟩:=hd;have hPi:P.ins d=some i:=by rw[hP.ins,hi]
 have hs:stepW P (wy p d)=.done:=by simp[stepW,hPi,h0]
 cases h with
 | done _=>rfl
 | step h' _=>rw[hs]at h';cases h'
theorem Kv {l:List Nat}{d:Nat} (hd:OpIs ins 0 d):doneL ins (l++[d])=true:=by
 obtain⟨i,hi,h0⟩:=hd;simp[doneL,hi,h0]
theorem Iu {l:List Nat} (h:∀ n∈l,OpIs ins 1 n):doneL ins l=false:=by
 unfold doneL;cases hl:l.getLast? with
 | none=>rfl
 | some n=>
   obtain⟨i,hi,h1⟩:=h n (List.mem_of_getLast? hl);simp[hi,h1]
theorem Ft (hl:LeadsD ins) (l:List Nat) (x:Int):∀ n∈afterL ins l x,n<ins.length:=by
 intro n hn;unfold afterL at hn;obtain⟨m,_,hm⟩:=mem_flatMap.1 hn;cases hi:ins[m]? with
 | none=>rw[hi]at hm;simp at hm
 | some i=>
   rw[hi]at hm;simp only at hm;split at hm
   ·rename_i h;rw[mem_singleton.1 hm];exact(hl.next m i hi).2.2 (.inl h.1)
   ·simp at hm
def endD (e:Int):Rs->Int
 | some z=>(z.1:Int)
 | none=>e
theorem runV (hl:LeadsD ins) (hP:ProgT P ins t):∀(xs:List Int) (p:Nat) (l:List Nat) (e:Int) (r:Rs) (N:Nat),t.drop p=xs->ShapeL ins l->Ex P (l.map (wy p)) r N ->
  runL ins xs p l e=endD e r
 | xs,p,l,e,r,N,hxs,hsh,h=>by
   by_cases hl0:l=[]
   ·subst hl0;cases h;unfold runL;rw[if_pos rfl];rfl
   ·unfold runL;rw[if_neg hl0];cases xs with
    | nil=>
      have hx:t[p]?=none:=by rw[List.getElem?_eq_none_iff];have:=congrArg List.length hxs;simp at this;omega
      simp only;rcases hsh with hs|⟨l1,d,rfl,hd,hs⟩
      ·rw[Iu hs,if_neg (by simp)];have:=O4 hP p hx l hs N r h;subst this;rfl
      ·rw[Kv hd,if_pos rfl];rw[map_append]at h;rcases Ex.split N _ _ r h with ⟨z,k,e1,_,g1⟩|⟨k1,k2,_,_,g2⟩
       ·have:=O4 hP p hx l1 hs k _ g1;cases this
       ·have:=Qb hP p d hd g2;subst this;rfl
    | cons x xs=>
      have hx:t[p]?=some x:=by
       have:=congrArg (fun l=>l[0]?) hxs
       simpa using this
      have hxs':t.drop (p+1)=xs:=by
       have:=congrArg (List.drop 1) hxs
       simpa [Nat.add_comm] using this
      simp only;rcases hsh with hs|⟨l1,d,rfl,hd,hs⟩
      ·rw[Iu hs,if_neg (by simp)];obtain⟨N1,g⟩:=MQ hP p hx l hs N r h;obtain⟨N2,g⟩:=JD hl hP (p+1) g (Ft hl l x);exact runV hl hP xs (p+1) _ e r N2 hxs' (Cn _ _) g
      ·rw[Kv hd,if_pos rfl];have ha:afterL ins (l1++[d]) x=afterL ins l1 x:=by
        obtain⟨i,hi,h0⟩:=hd;simp[afterL,hi,h0]
       show runL ins xs (p+1) (stateL ins (afterL ins (l1++[d]) x)) p=_;rw[ha];rw[map_append]at h;rcases Ex.split N _ _ r h with ⟨z,k,e1,_,g1⟩|⟨k1,k2,_,g1,g2⟩
       ·obtain⟨N1,g⟩:=MQ hP p hx l1 hs k _ g1;obtain⟨N2,g⟩:=JD hl hP (p+1) g (Ft hl l1 x);rw[runV hl hP xs (p+1) _ p (some z) N2 hxs' (Cn _ _) g,e1];rfl
       ·obtain⟨N1,g⟩:=MQ hP p hx l1 hs k1 _ g1;obtain⟨N2,g⟩:=JD hl hP (p+1) g (Ft hl l1 x);rw[runV hl hP xs (p+1) _ p none N2 hxs' (Cn _ _) g,Qb hP p d hd g2];rfl
theorem NT (hl:LeadsD ins) (hP:ProgT P ins t) {p:Nat}{r:Rs}{N:Nat} (h0:0<ins.length) (h:Ex P [wy p 0] r N):runL ins (t.drop p) p (stateL ins [0]) (-1)=endD (-1) r:=by
 obtain⟨N1,g⟩:=JD hl hP p (ns:=[0]) h (fun n hn=>by simp at hn;omega);exact runV hl hP _ p _ (-1) r N1 rfl (Cn _ _) g
end
theorem Ov (e:Int) (r:Rs) (f:List Int->List Int):endD e (r.map fun x=>(x.1,f x.2))=endD e r:=by cases r<;>rfl
theorem Kw {caps top:Int}{t:List Int}{r:Re} (hr:GoodC caps top r) (hcp:compG [] r=true) (hna:noAs r=true) (hl:LeadsD (codeG r 0++[⟨0,0,0,0,[]⟩])) (i:Nat) (hi:i<=t.length) (c:List Int) :
  runL (codeG r 0++[⟨0,0,0,0,[]⟩]) (t.drop i) i (stateL (codeG r 0++[⟨0,0,0,0,[]⟩]) [0]) (-1)=endD (-1) (fst t r (fun j d=>some (j,d)) i c):=by
 have hP:ProgT ⟨fun n=>(codeG r 0++[⟨0,0,0,0,[]⟩])[n]?,fun s n=>match t[n]? with
  | some x=>hasSpan s x
  | none=>false,fun _ _=>false⟩ (codeG r 0++[⟨0,0,0,0,[]⟩]) t:=⟨fun _=>rfl,fun _ _=>rfl⟩
 obtain⟨N,h⟩:=Ow (runes:=false) hr hcp hna i hi c 0 hP;rw[List.take_zero]at h;rw[NT hl hP (by simp) h,Ov (-1) _ (fun l=>l.take 0)]
end Go.Ev
namespace Go.Ev
attribute [local go_sem] evAppend evBin AV.cells AV.ok frzB Av BG bndO bnd evEq eqCells not_false_eq_true not_true_eq_false Af Array.size_empty List.length_append map_append tySzE List.head?_drop Nat.mul_one AR AY AP AS AT Ad
section
theorem NC:ofK (.pointer none)=.nilp:=rfl
theorem kf6 (l m:List Int) (cache:Int) (hl:∀ x∈l,In64 x) (hm:∀ x∈m,In64 x) (hc:In64 cache) (H:List MB):call Pg pol1 6 [.sl false (l.map I),.sl false (m.map I),I cache] H=some (.bool true,H):=by
 obtain⟨_,⟨cap,re,caps,t,hfit,hcomp,hna,rfl⟩,hc7⟩:=f31n l m hl hm false;have hna:=hna rfl;have htl:=hfit.tl;have hc24:=f14 ⟨re,caps,false⟩ hfit.wt;have hcp:compP ⟨re,caps,false⟩=(prgOf re caps false,0):=by
  unfold compP;rw[if_pos hfit.val,if_pos hcomp,if_pos (by have:=hfit.len;simp only;omega)]
 rw[hcp]at hc24;simp only at hc24;have hcod:=C8 re [] hcomp;have hlen8:lenG re+1<=8192:=by have:=hfit.len;omega
 obtain⟨hgv,hgb⟩:=IU hfit.val hcod hlen8;have hga:=MH (runes:=false) hfit.val hcod hlen8 hna;obtain⟨_,_,hc0,hc9,hwg⟩:=CK hfit.val;simp only at hc0 hc9 hwg;obtain⟨n,rfl⟩:∃ n:Nat,caps=n:=⟨caps.toNat,by omega⟩;have hn9:n<=9:=by omega
 have hins:(prgOf re n false).ins=codeG re 0++[⟨0,0,0,0,[]⟩]:=rfl;have hrun:∀ i,i<=t.length->runL (prgOf re n false).ins (t.drop i) i (stateL (prgOf re n false).ins [0]) (-1)=endD (-1) (firstM re t i):=fun i hi=>by
  obtain⟨_,ho,hw,_,_⟩:=Hp hga;have hld:LeadsD (prgOf re n false).ins:=⟨ho,fun n i h=>by have:=hw n i h;exact⟨fun a=>(this.2.1 a).2,fun a=>(this.2.2.1 a).2,fun a=>this.2.2.2 (by omega)⟩⟩;rw[hins]at hld |-;exact Kw ⟨hwg,hcod⟩ hcomp hna hld i hi cap0
 have h26:∀ i,i<=t.length->∃ s':Nat,∀ H,call Pg pol1 26 [patAV ⟨re,n,false⟩,.sl false (t.map I),NV i,I 1,I 5000] H=some (allA i n s' (firstP re t i),H):=fun i hi=>by
  obtain⟨⟨k,O',s',h1⟩,h2⟩:=M2 (F:=5000) (t:=t) hc9 hcomp hwg hna (Nat.le_trans hfit.wt2 (by decide)) i hi (Nat.le_trans (hfit.cost i hi) (by decide));exact⟨s',s33 re n hn9 hfit.val hfit.wt t hfit.txt (by omega) i hi 5000 (by omega) k _ (fun p hp=>(h2 p hp).1) O' s' h1⟩
 obtain⟨_,hgo,hgw,hg0,hgN⟩:=Hp hga;generalize hg:prgOf re n false=g at *;have hc16:=sj16;have hpl:=AG l;have hpm:=AG m;refine AX Tryz.func6 rfl rfl rfl rfl rfl rfl (fun _=>rfl) (by simp[AV.plain,AV.plainL,hpl,hpm]) (by simp[AV.plain]) ?_ H;have hl8:=AM re;have hpok:(patC ⟨re,n,false⟩).all AV.ok=true:=by have:=Au re;simp[patC,List.all_append,this,AV.ok]
 have htk:List.take 10 (patC ⟨re,n,false⟩)=patC ⟨re,n,false⟩:=List.take_of_length_le (by simp[patC,AM]);have hc10:=f12 cache 5 hc (by omega);have har:=I6 (n:=cache) (m:=5) (by omega);obtain⟨q,hq⟩:∃ q:Nat,aroundI cache 5=q:=⟨(aroundI cache 5).toNat,by omega⟩;rw[hq]at hc10 har;have hw:IntKind.i64.wrap (1+(q:Int))=((q+1:Nat):Int):=by rw[i64_in]<;>omega
 obtain⟨_,⟨D1,C1,H1,a1,rfl,d1,low1⟩,hn1⟩:=kf9n g hgb hgw hg0 hgN (q+1) ⟨by omega,by omega⟩ [.row 10 [patAV ⟨re,n,false⟩] 0,.row 3 [prgAV g] 0] hga;obtain⟨hso,hss⟩:=D9 g.ins [0];have hio:InsOk g.ins:=⟨hgN,hgw,hgb.2⟩;obtain⟨_,⟨K1,b1',rfl,e1,lw1⟩,hr1⟩:=ST d1 hio hso hss t (by omega) (by simp only;omega);have hel:=Ir g.ins (stateL g.ins [0]) t;have hl1:=low1.1;simp only[List.length_cons,List.length_nil]at hl1;have hb0:H1[0]?=some (.row 10 [patAV ⟨re,n,false⟩] 0):=low1.2 0 (by show 0<2;omega);have hk0:K1[0]?=some (.row 10 [patAV ⟨re,n,false⟩] 0):=by rw[lw1.2 0 (by show 0<2;omega)];exact hb0
 have hb1:H1[1]?=some (.row 3 [prgAV g] 0):=low1.2 1 (by show 1<2;omega);simp +contextual (disch:=omega) only[Tryz.f6,dd6,go_sem,↓reduceIte,List.reduceReplicate,Nat.reduceAdd,Nat.reduceSub,reduceCtorEq,Nat.reduceLeDiff,Nat.reduceMul,Nat.reduceLT,Nat.reduceEqDiff,Int.reduceBNe,Int.reduceBEq,Int.reduceEq,Int.reduceLT,Int.reduceLE,Int.reduceGT,Int.reduceGE,mu6,Nat.reduceBEq,↓AD,↓AC,↓AB,↓AA,Int.reduceToNat,hl8,hpok,htk,hc7,hc24,hc10,hw,hn1,hr1,hb1,hb0,hk0,hel,evEq,NC,bne_self_eq_false,beq_self_eq_true,true_implies];generalize hEL:endsL g.ins (stateL g.ins [0]) t=EL at *;have hat:∀ i,i<=t.length->EL[i]?=some (endD (-1) (firstM re t i)):=fun i hi=>by
  rw[<- hEL,Kt _ _ _ (by omega),hrun i hi]
 clear hrun hEL;refine⟨by unfold dOk;kernel_rfl,by kernel_rfl,?_⟩;refine Dk (σ:=Nat) (M:=(mskOf (pol1.mask 6) (pol1.gc 6) (pol1.acts 6) 0 10)) rfl (fun i=>(⟨97,[(15,NV i),(13,.sl false (EL.map I)),(8,.sl false (t.map I)),(7,.rf 0 1 0 0)],K1⟩:St)) (fun i=>i<=t.length+1) (fun i=>t.length+1-i) 0 ?_ (by omega) _ rfl;intro i hi;by_cases hi2:i<=t.length
 ·obtain⟨s',h26⟩:=h26 i hi2;have h1:=hat i hi2;have h2:(EL.map I)[i]?=some (I (endD (-1) (firstM re t i))):=by rw[List.getElem?_map,h1];rfl
  have hlt:((i:Int)<=((t.length:Nat):Int))=True:=eq_true (by omega);have hwi:IntKind.i64.wrap ((i:Int)+1)=((i+1:Nat):Int):=by rw[i64_in]<;>omega
  unfold firstP at h26;generalize firstM re t i=q at h26 h2;cases q with
  | none=>
    simp only[Option.map_none,allA,endD]at h26 h2;simp +contextual (disch:=omega) only[Tryz.f6,dd6,go_sem,↓reduceIte,List.reduceReplicate,Nat.reduceAdd,Nat.reduceSub,reduceCtorEq,Nat.reduceLeDiff,Nat.reduceMul,Nat.reduceLT,Nat.reduceEqDiff,Int.reduceBNe,Int.reduceBEq,Int.reduceEq,Int.reduceLT,Int.reduceLE,Int.reduceGT,Int.reduceGE,mu6,Nat.reduceBEq,↓AD,↓AC,↓AB,↓AA,Int.reduceToNat,hl8,hpok,htk,h26,h2,hk0,hlt,hwi,bne_self_eq_false,beq_self_eq_true,true_implies];exact⟨i+1,by omega,by omega,rfl⟩
  | some x=>
    simp only[Option.map_some,allA,matAV,endD]at h26 h2;simp +contextual (disch:=omega) only[Tryz.f6,dd6,go_sem,↓reduceIte,List.reduceReplicate,Nat.reduceAdd,Nat.reduceSub,reduceCtorEq,Nat.reduceLeDiff,Nat.reduceMul,Nat.reduceLT,Nat.reduceEqDiff,Int.reduceBNe,Int.reduceBEq,Int.reduceEq,Int.reduceLT,Int.reduceLE,Int.reduceGT,Int.reduceGE,mu6,Nat.reduceBEq,↓AD,↓AC,↓AB,↓AA,Int.reduceToNat,hl8,hpok,htk,h26,h2,hk0,hlt,hwi,bne_self_eq_false,beq_self_eq_true,true_implies];exact⟨i+1,by omega,by omega,rfl⟩
 ·obtain rfl:i=t.length+1:=by omega
  have hlt:(((t.length+1:Nat):Int)<=((t.length:Nat):Int))=False:=eq_false (by omega);simp +contextual (disch:=omega) only[Tryz.f6,dd6,go_sem,↓reduceIte,List.reduceReplicate,Nat.reduceAdd,Nat.reduceSub,reduceCtorEq,Nat.reduceLeDiff,Nat.reduceMul,Nat.reduceLT,Nat.reduceEqDiff,Int.reduceBNe,Int.reduceBEq,Int.reduceEq,Int.reduceLT,Int.reduceLE,Int.reduceGT,Int.reduceGE,mu6,Nat.reduceBEq,↓AD,↓AC,↓AB,↓AA,Int.reduceToNat,hlt,hc16];exact fzEq rfl rfl
theorem law6 (l:List Int) (hl:∀ x∈l,In64 x) (m:List Int) (hm:∀ x∈m,In64 x) (cache:Int) (hc:In64 cache) (H:List MB):call Pg pol1 6 [.sl false (l.map I),.sl false (m.map I),I cache] H=some (.bool true,H):=kf6 l m cache hl hm hc H
end
end Go.Ev
