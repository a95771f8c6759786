/- Functions of the program, each with what it computes; no further conditions. -/
import Derived.Test.YtpbobopcmhpbbaaE19
import Derived.Test.YtpbobopcmhpbbaaE14
import Derived.Test.YtpbobopcmhpbbaaE05
set_option linter.unusedVariables false
set_option linter.unusedSimpArgs false
namespace Go.Ev
set_option linter.unusedSimpArgs false
set_option linter.unusedVariables false
mutual
def noPoss:Re→Bool
 | .mk op set kids mn mx md n neg=>decide (md≠2) && noPossL kids
def noPossL:List Re→Bool
 | []=>true
 | k::ks=>noPoss k && noPossL ks
end
theorem noPossL_iff:∀ l:List Re,noPossL l=true↔∀ k∈l,noPoss k=true
 | []=>by simp[noPossL]
 | k::ks=>by simp[noPossL,noPossL_iff ks]
structure RGood (caps top:Int) (r:Re):Prop where
 good:GoodC caps top r
 np:noPoss r=true
 sz:r.size≤256
theorem Re.sizeL_mem:∀ {l:List Re} {k:Re},k∈l→k.size≤Re.sizeL l
 | x::l,k,h=>by
   rcases List.mem_cons.1 h with e|e
   ·rw[e];simp[Re.sizeL]
   ·have:=Re.sizeL_mem e
    simp[Re.sizeL];omega
theorem Re.sizeL_len:∀ l:List Re,l.length≤Re.sizeL l
 | []=>Nat.le_refl _
 | k::ks=>by
   have:=Re.size_pos k
   have:=Re.sizeL_len ks
   simp[Re.sizeL];omega
theorem RGood.kids {caps top:Int} {r:Re} (h:RGood caps top r):∀ k∈r.kids,RGood caps top k:=by
 obtain⟨op,set,kids,mn,mx,md,n,neg⟩:=r
 intro k hk
 have h1:=h.np
 have h2:=h.sz
 rw[noPoss,Bool.and_eq_true,noPossL_iff]at h1
 have:=Re.sizeL_mem hk
 simp only[Re.size,Re.kids]at h2 this
 exact⟨h.good.kids k hk,h1.2 k hk,by omega⟩
theorem RGood.len {caps top:Int} {r:Re} (h:RGood caps top r):r.kids.length≤255:=by
 obtain⟨op,set,kids,mn,mx,md,n,neg⟩:=r
 have h2:=h.sz
 have:=Re.sizeL_len kids
 simp only[Re.size,Re.kids]at h2 ⊢
 omega
theorem RGood.md {caps top:Int} {r:Re} (h:RGood caps top r):r.md≠2:=by
 obtain⟨op,set,kids,mn,mx,md,n,neg⟩:=r
 have h1:=h.np
 rw[noPoss,Bool.and_eq_true,decide_eq_true_eq]at h1
 exact h1.1
def GG (caps top:Int) (L:Int) (steps:Int):Goal→Prop
 | .nil=>True
 | .mk kind re k fr next=>RGood caps top re∧(kind=0∨(kind=1∧re.op=4∧0≤k∧k≤steps)∨(kind=2∧re.op=4∧0≤k∧k < steps)∨(kind=3∧re.op=5))∧(0≤fr∧fr≤L)∧GG caps top L steps next
theorem GG.mono {caps top L a b:Int} (hab:a≤b):∀ {g:Goal},GG caps top L a g→GG caps top L b g
 | .nil,_=>trivial
 | .mk kind re k fr next,h=>⟨h.1,by rcases h.2.1 with h|h|h|h<;>omega,h.2.2.1,h.2.2.2.mono hab⟩
theorem GG.cat {caps top L a:Int} (hL:0≤L) {next:Goal} (hn:GG caps top L a next):∀ {l:List Re},(∀ k∈l,RGood caps top k)→GG caps top L a (catG next l)
 | [],_=>hn
 | k::ks,h=>⟨h k (by simp),.inl rfl,⟨Int.le_refl _,hL⟩,GG.cat hL hn (fun q hq=>h q (by simp[hq]))⟩
structure SPre (fuel:Int) (s:SS):Prop where
 ne:s.empty=false
 st:0≤s.steps∧s.steps≤fuel
 cl:s.caps.length=s.ends.length
 el:(s.ends.length:Int)≤256 * s.steps
structure SPost (fuel:Int) (s:SS) (b:Bool) (s':SS):Prop where
 st:s.steps≤s'.steps
 eb:b=s'.empty
 fu:b=false→s'.steps≤fuel
 cl:s'.caps.length=s'.ends.length
 el:(s'.ends.length:Int)≤s.ends.length+1+256 * (s'.steps - s.steps)
def RunP (caps top:Int) (t:List Int) (fuel:Int) (R:RunT):Prop:=
 ∀(g:Goal) (i:Int) (c:Caps) (s:SS) (b:Bool) (s':SS),GG caps top t.length s.steps g→0≤i→i≤t.length→c.length≤1000→SPre fuel s→R g i c s=some (b,s')→SPost fuel s b s'
variable {caps top:Int} {t:List Int} {fuel:Int}
theorem SPost.none {s:SS} (h:SPre fuel s):SPost fuel s false s:=⟨Int.le_refl _,h.ne.symm,fun _=>h.st.2,h.cl,by omega⟩
theorem step_false {s:SS} (h:SPre fuel s) (he:(stepS fuel s).empty=false):SPre fuel (stepS fuel s)∧((stepS fuel s).ends.length:Int)≤256 * (stepS fuel s).steps - 256:=by
 have h1:=h.st
 have h2:=h.el
 simp only[stepS,h.ne,Bool.false_or,decide_eq_false_iff_not]at he
 exact⟨⟨by simp[stepS,h.ne];omega,⟨by simp only[stepS];omega,by simp only[stepS];omega⟩,h.cl,by simp only[stepS];omega⟩,by simp only[stepS];omega⟩
theorem step_true {s:SS} (h:SPre fuel s) (he:(stepS fuel s).empty=true):SPost fuel s true (stepS fuel s):=
 ⟨by simp only[stepS];omega,he.symm,fun e=>(by cases e),h.cl,by simp only[stepS];omega⟩
theorem SPost.after {s s1 s':SS} {b:Bool} (h1:s1=stepS fuel s) (h:SPost fuel s1 b s'):SPost fuel s b s':=by
 subst h1
 have a:=h.st
 have e:=h.el
 simp only[stepS]at a e
 exact⟨by omega,h.eb,h.fu,h.cl,by omega⟩
theorem SPost.pre {s s2:SS} (hp:SPre fuel s) (hx:(s.ends.length:Int)≤256 * s.steps - 256) (h:SPost fuel s false s2):SPre fuel s2:=by
 have a:=h.st
 have e:=h.el
 have f:=h.fu rfl
 have p:=hp.st
 exact⟨h.eb.symm,⟨by omega,f⟩,h.cl,by omega⟩
theorem SPost.trans {s s2 s':SS} {b:Bool} (h1:SPost fuel s false s2) (h2:SPost fuel s2 b s'):s.steps≤s'.steps∧b=s'.empty∧(b=false→s'.steps≤fuel)∧s'.caps.length=s'.ends.length∧(s'.ends.length:Int)≤s.ends.length+2+256 * (s'.steps - s.steps):=by
 have a:=h1.st
 have b':=h2.st
 have c:=h1.el
 have d:=h2.el
 exact⟨by omega,h2.eb,h2.fu,h2.cl,by omega⟩
theorem rep_kid {re:Re} (h:RGood caps top re) (ho:re.op=4):∃ kid,re.kids=[kid]∧RGood caps top kid:=by
 obtain⟨op,set,kids,mn,mx,md,n,neg⟩:=re
 simp only[Re.op]at ho
 subst ho
 have hk:=(whole_facts h.good.whole).2.1
 obtain⟨k,rfl⟩:∃ k,kids=[k]:=List.length_eq_one_iff.1 (by simpa [kidsG] using hk)
 exact⟨k,rfl,h.kids k (by simp[Re.kids])⟩
theorem cap_kid {re:Re} (h:RGood caps top re) (ho:re.op=5):∃ kid,re.kids=[kid]∧RGood caps top kid:=by
 obtain⟨op,set,kids,mn,mx,md,n,neg⟩:=re
 simp only[Re.op]at ho
 subst ho
 have hk:=(whole_facts h.good.whole).2.1
 obtain⟨k,rfl⟩:∃ k,kids=[k]:=List.length_eq_one_iff.1 (by simpa [kidsG] using hk)
 exact⟨k,rfl,h.kids k (by simp[Re.kids])⟩
theorem once_good {re kid:Re} {next:Goal} {k i L steps:Int} (h:RGood caps top re) (hk:RGood caps top kid) (ho:re.op=4) (h0:0≤k∧k < steps) (hi:0≤i∧i≤L) (hn:GG caps top L steps next) :
 GG caps top L steps (.mk 0 kid 0 0 (.mk 2 re k i next)):=⟨hk,.inl rfl,⟨Int.le_refl _,by omega⟩,h,.inr (.inr (.inl ⟨rfl,ho,h0.1,h0.2⟩)),hi,hn⟩
theorem rep_post {R:RunT} (hR:RunP caps top t fuel R) {re:Re} {k i:Int} {next:Goal} {c:Caps} {s s':SS} {b:Bool} (h:RGood caps top re) (ho:re.op=4) (hk:0≤k∧k≤s.steps) (hi:0≤i∧i≤t.length)
  (hn:GG caps top t.length s.steps next) (hc:c.length≤1000) (hs:SPre fuel s) (he:repR fuel R re k next i c s=some (b,s')):SPost fuel s b s':=by
 unfold repR at he
 simp only at he
 by_cases h1:(stepS fuel s).empty=true
 ·rw[if_pos h1]at he
  simp only[Option.some.injEq,Prod.mk.injEq]at he
  obtain⟨rfl,rfl⟩:=he
  exact step_true hs h1
 ·rw[if_neg h1]at he
  have h1':(stepS fuel s).empty=false:=by simpa using h1
  obtain⟨p1,p2⟩:=step_false hs h1'
  obtain⟨kid,hkid,hgk⟩:=rep_kid h ho
  rw[hkid]at he
  simp only at he
  have hst:(stepS fuel s).steps=s.steps+1:=rfl
  have hen:(stepS fuel s).ends.length=s.ends.length:=rfl
  have hn1:=hn.mono (show s.steps≤(stepS fuel s).steps by omega)
  have hon:=once_good (next:=next) (i:=i) (L:=t.length) (steps:=(stepS fuel s).steps) h hgk ho (k:=k) ⟨hk.1,by omega⟩ hi hn1
  have A:∀ b s',R (.mk 0 kid 0 0 (.mk 2 re k i next)) i c (stepS fuel s)=some (b,s')→SPost fuel (stepS fuel s) b s':=fun b s' e=>hR _ _ _ _ _ _ hon hi.1 hi.2 hc p1 e
  have B:∀ b s',R next i c (stepS fuel s)=some (b,s')→SPost fuel (stepS fuel s) b s':=fun b s' e=>hR _ _ _ _ _ _ hn1 hi.1 hi.2 hc p1 e
  have two:∀(g:Goal) (s2:SS) (b:Bool) (s':SS),GG caps top t.length (stepS fuel s).steps g→SPost fuel (stepS fuel s) false s2→R g i c s2=some (b,s')→SPost fuel s b s':=by
   intro g s2 b s' hg q e
   have p3:=q.pre p1 p2
   have q2:=hR _ _ _ _ _ _ (hg.mono q.st) hi.1 hi.2 hc p3 e
   obtain⟨a1,a2,a3,a4,a5⟩:=q.trans q2
   exact⟨by omega,a2,a3,a4,by omega⟩
  split at he
  ·exact(A _ _ he).after rfl
  ·split at he
   ·unfold orR at he
    split at he
    ·cases he
    ·rename_i s2 e2
     simp only[Option.some.injEq,Prod.mk.injEq]at he
     obtain⟨rfl,rfl⟩:=he
     exact(B _ _ e2).after rfl
    ·rename_i s2 e2
     split at he
     ·exact two _ _ _ _ hon (B _ _ e2) he
     ·simp only[Option.some.injEq,Prod.mk.injEq]at he
      obtain⟨rfl,rfl⟩:=he
      exact(B _ _ e2).after rfl
   ·unfold orR at he
    split at he
    ·cases he
    ·rename_i s2 e2
     simp only[Option.some.injEq,Prod.mk.injEq]at he
     obtain⟨rfl,rfl⟩:=he
     split at e2
     ·exact(A _ _ e2).after rfl
     ·cases e2
    ·rename_i s2 e2
     split at e2
     ·exact two _ _ _ _ hn1 (A _ _ e2) he
     ·simp only[Option.some.injEq,Prod.mk.injEq,true_and]at e2
      subst e2
      exact(B _ _ he).after rfl
theorem alt_post {R:RunT} (hR:RunP caps top t fuel R) {next:Goal} {i:Int} {c:Caps} (hi:0≤i∧i≤t.length) (hc:c.length≤1000) :
  ∀(l:List Re) (s s':SS) (b:Bool),(∀ k∈l,RGood caps top k)→GG caps top t.length s.steps next→SPre fuel s→(s.ends.length:Int)+l.length≤256 * s.steps→altR R next i c l s=some (b,s') →
   s.steps≤s'.steps∧b=s'.empty∧(b=false→s'.steps≤fuel)∧s'.caps.length=s'.ends.length∧(s'.ends.length:Int)≤s.ends.length+l.length+256 * (s'.steps - s.steps)
 | [],s,s',b,_,_,hs,_,he=>by
   simp only[altR,Option.some.injEq,Prod.mk.injEq]at he
   obtain⟨rfl,rfl⟩:=he
   exact⟨Int.le_refl _,hs.ne.symm,fun _=>hs.st.2,hs.cl,by simp⟩
 | k::ks,s,s',b,hg,hn,hs,hx,he=>by
   simp only[altR]at he
   unfold orR at he
   have A:∀ b s',R (.mk 0 k 0 0 next) i c s=some (b,s')→SPost fuel s b s':=fun b s' e=>
    hR (.mk 0 k 0 0 next) _ _ _ _ _ ⟨hg k (by simp),.inl rfl,⟨Int.le_refl _,by omega⟩,hn⟩ hi.1 hi.2 hc hs e
   simp only[List.length_cons]at hx ⊢
   split at he
   ·cases he
   ·rename_i s2 e2
    simp only[Option.some.injEq,Prod.mk.injEq]at he
    obtain⟨rfl,rfl⟩:=he
    have q:=A _ _ e2
    have a:=q.el
    exact⟨q.st,q.eb,q.fu,q.cl,by omega⟩
   ·rename_i s2 e2
    have q:=A _ _ e2
    have a:=q.el
    have b1:=q.st
    have f:=q.fu rfl
    have p0:=hs.st
    obtain⟨r1,r2,r3,r4,r5⟩:=alt_post hR hi hc ks s2 s' b (fun x hx=>hg x (by simp[hx])) (hn.mono b1) ⟨q.eb.symm,⟨by omega,f⟩,q.cl,by omega⟩ (by omega) he
    exact⟨by omega,r2,r3,r4,by omega⟩
theorem node_post {R:RunT} (hR:RunP caps top t fuel R) {re:Re} {i:Int} {next:Goal} {c:Caps} {s s':SS} {b:Bool} (h:RGood caps top re) (hi:0≤i∧i≤t.length)
  (hn:GG caps top t.length s.steps next) (hc:c.length≤1000) (hs:SPre fuel s) (he:nodeR t fuel R re next i c s=some (b,s')):SPost fuel s b s':=by
 unfold nodeR at he
 split at he
 ·rename_i ho
  exact rep_post hR h ho ⟨Int.le_refl _,hs.st.1⟩ hi hn hc hs he
 ·simp only at he
  by_cases h1:(stepS fuel s).empty=true
  ·rw[if_pos h1]at he
   simp only[Option.some.injEq,Prod.mk.injEq]at he
   obtain⟨rfl,rfl⟩:=he
   exact step_true hs h1
  ·rw[if_neg h1]at he
   have h1':(stepS fuel s).empty=false:=by simpa using h1
   obtain⟨p1,p2⟩:=step_false hs h1'
   have hst:(stepS fuel s).steps=s.steps+1:=rfl
   have hn1:=hn.mono (show s.steps≤(stepS fuel s).steps by omega)
   have B:∀ b s',R next i c (stepS fuel s)=some (b,s')→SPost fuel (stepS fuel s) b s':=fun b s' e=>hR _ _ _ _ _ _ hn1 hi.1 hi.2 hc p1 e
   have Z:∀ b s',some (false,stepS fuel s)=some (b,s')→SPost fuel (stepS fuel s) b s':=fun b s' e=>by
    simp only[Option.some.injEq,Prod.mk.injEq]at e
    obtain⟨rfl,rfl⟩:=e
    exact SPost.none p1
   split at he
   ·split at he
    ·rename_i x hx
     have hlt:=(List.getElem?_eq_some_iff.1 hx).1
     split at he
     ·exact(hR _ _ _ _ _ _ hn1 (by omega) (by omega) hc p1 he).after rfl
     ·exact(Z _ _ he).after rfl
    ·exact(Z _ _ he).after rfl
   ·split at he
    ·exact(hR _ _ _ _ _ _ (GG.cat (by omega) hn1 h.kids) hi.1 hi.2 hc p1 he).after rfl
    ·split at he
     ·have hl:=h.len
      obtain⟨r1,r2,r3,r4,r5⟩:=alt_post hR hi hc _ _ _ _ h.kids hn1 p1 (by omega) he
      have hen:(stepS fuel s).ends.length=s.ends.length:=rfl
      exact⟨by omega,r2,r3,r4,by omega⟩
     ·split at he
      ·rename_i ho
       obtain⟨kid,hkid,hgk⟩:=cap_kid h ho
       rw[hkid]at he
       simp only at he
       exact(hR (.mk 0 kid 0 0 (.mk 3 re 0 i next)) _ _ _ _ _ ⟨hgk,.inl rfl,⟨Int.le_refl _,by omega⟩,h,.inr (.inr (.inr ⟨rfl,ho⟩)),hi,hn1⟩ hi.1 hi.2 hc p1 he).after rfl
      ·split at he
       ·split at he
        ·exact(B _ _ he).after rfl
        ·exact(Z _ _ he).after rfl
       ·exact(B _ _ he).after rfl
theorem with_len (c:Caps) (n a b:Int):(withI c n a b).length=c.length:=by
 unfold withI;split<;>simp
theorem runG_post (caps top:Int) (t:List Int) (fuel:Int):∀ d,RunP caps top t fuel (runG t fuel d)
 | 0=>fun g i c s b s' _ _ _ _ _ e=>by cases g<;>simp[runG]at e
 | d+1=>fun g i c s b s' hg h0 hL hc hs e=>by
   have ih:=runG_post caps top t fuel d
   cases g with
   | nil=>
     simp only[runG,Option.some.injEq,Prod.mk.injEq]at e
     obtain⟨rfl,rfl⟩:=e
     exact⟨Int.le_refl _,hs.ne.symm,fun _=>hs.st.2,by simp[hs.cl],by simp⟩
   | mk kind re k fr next=>
     obtain⟨g1,g2,g3,g4⟩:=hg
     simp only[runG]at e
     rcases g2 with rfl|⟨rfl,g2⟩|⟨rfl,g2⟩|⟨rfl,g2⟩
     ·rw[if_neg (by omega),if_neg (by omega),if_neg (by omega)]at e
      exact node_post ih g1 ⟨h0,hL⟩ g4 hc hs e
     ·rw[if_pos rfl]at e
      exact rep_post ih g1 g2.1 g2.2 ⟨h0,hL⟩ g4 hc hs e
     ·rw[if_neg (by omega),if_pos rfl]at e
      split at e
      ·simp only[Option.some.injEq,Prod.mk.injEq]at e
       obtain⟨rfl,rfl⟩:=e
       exact SPost.none hs
      ·exact ih (.mk 1 re (k+1) 0 next) _ _ _ _ _ ⟨g1,.inr (.inl ⟨rfl,g2.1,by omega,by omega⟩),⟨Int.le_refl _,by omega⟩,g4⟩ h0 hL hc hs e
     ·rw[if_neg (by omega),if_neg (by omega),if_pos rfl]at e
      exact ih _ _ _ _ _ _ g4 h0 hL (by rw[with_len];exact hc) hs e
end Go.Ev
namespace Go.Ev
set_option linter.unusedSimpArgs false
set_option linter.unusedVariables false
def repO (f:Nat→List Nat) (mn mx md:Int):Nat→Int→Nat→List Nat
 | 0,_,_=>[]
 | n+1,k,i=>
   if k < mn then(f i).flatMap (repO f mn mx md n (k+1))
   else if md=1 then i::(if mx = -1∨k < mx then(f i).flatMap (repO f mn mx md n (k+1)) else [])
   else(if mx = -1∨k < mx then(f i).flatMap (repO f mn mx md n (k+1)) else [])++[i]
def repC (f:Nat→List Nat) (g:Nat→Nat) (mn mx:Int):Nat→Int→Nat→Nat
 | 0,_,_=>0
 | n+1,k,i=>1+(if k < mn∨mx = -1∨k < mx then g i+((f i).map (repC f g mn mx n (k+1))).sum else 0)
mutual
def outs (t:List Int):Re→Nat→List Nat
 | .mk op set kids mn mx md n neg,i=>
   if op=1 then(match t[i]? with
    | some x=>if hasSpan set x=true then [i+1] else []
    | none=>[])
   else if op=2 then outsC t kids i
   else if op=3 then outsA t kids i
   else if op=4 then repO (outsH t kids) mn mx md (t.length+1 - i) 0 i
   else if op=5 then outsH t kids i
   else if op=11 then(if assertI n (befS t i) t[i]?=true then [i] else [])
   else [i]
def outsC (t:List Int):List Re→Nat→List Nat
 | [],i=>[i]
 | k::ks,i=>(outs t k i).flatMap (outsC t ks)
def outsA (t:List Int):List Re→Nat→List Nat
 | [],_=>[]
 | k::ks,i=>outs t k i++outsA t ks i
def outsH (t:List Int):List Re→Nat→List Nat
 | [],_=>[]
 | k::_,i=>outs t k i
end
mutual
def costR (t:List Int):Re→Nat→Nat
 | .mk op set kids mn mx md n neg,i=>
   if op=2 then 1+costRC t kids i
   else if op=3 then 1+costRA t kids i
   else if op=4 then repC (outsH t kids) (costRH t kids) mn mx (t.length+1 - i) 0 i
   else if op=5 then 1+costRH t kids i
   else 1
def costRC (t:List Int):List Re→Nat→Nat
 | [],_=>0
 | k::ks,i=>costR t k i+((outs t k i).map (costRC t ks)).sum
def costRA (t:List Int):List Re→Nat→Nat
 | [],_=>0
 | k::ks,i=>costR t k i+costRA t ks i
def costRH (t:List Int):List Re→Nat→Nat
 | [],_=>0
 | k::_,i=>costR t k i
end
theorem repO_in {f:Nat→List Nat} {mn mx md:Int} {L:Nat} (hf:∀ i,i≤L→∀ j∈f i,i≤j∧j≤L):∀(n:Nat) (k:Int) (i:Nat),i≤L→∀ j∈repO f mn mx md n k i,i≤j∧j≤L
 | 0,_,_,_,j,h=>by simp[repO]at h
 | n+1,k,i,hi,j,h=>by
   have A:∀ j∈(f i).flatMap (repO f mn mx md n (k+1)),i≤j∧j≤L:=fun j h=>by
    obtain⟨m,hm,h⟩:=List.mem_flatMap.1 h
    have h1:=hf i hi m hm
    have h2:=repO_in hf n (k+1) m h1.2 j h
    omega
   rw[repO]at h
   split at h
   ·exact A j h
   ·split at h
    ·rcases List.mem_cons.1 h with rfl|h
     ·exact⟨Nat.le_refl _,hi⟩
     ·split at h
      ·exact A j h
      ·simp at h
    ·rcases List.mem_append.1 h with h|h
     ·split at h
      ·exact A j h
      ·simp at h
     ·rw[List.mem_singleton.1 h];exact⟨Nat.le_refl _,hi⟩
mutual
theorem outs_in (t:List Int):∀(r:Re) (i:Nat),i≤t.length→∀ j∈outs t r i,i≤j∧j≤t.length
 | .mk op set kids mn mx md n neg,i,hi,j,h=>by
   have hC:=outsC_in t kids
   have hA:=outsA_in t kids
   have hH:=outsH_in t kids
   rw[outs]at h
   split at h
   ·split at h
    ·rename_i x hx
     have:=(List.getElem?_eq_some_iff.1 hx).1
     split at h
     ·rw[List.mem_singleton.1 h];omega
     ·simp at h
    ·simp at h
   ·split at h
    ·exact hC i hi j h
    ·split at h
     ·exact hA i hi j h
     ·split at h
      ·exact repO_in hH _ _ i hi j h
      ·split at h
       ·exact hH i hi j h
       ·split at h
        ·split at h
         ·rw[List.mem_singleton.1 h];omega
         ·simp at h
        ·rw[List.mem_singleton.1 h];omega
theorem outsC_in (t:List Int):∀(l:List Re) (i:Nat),i≤t.length→∀ j∈outsC t l i,i≤j∧j≤t.length
 | [],i,hi,j,h=>by rw[outsC,List.mem_singleton]at h;omega
 | k::ks,i,hi,j,h=>by
   rw[outsC]at h
   obtain⟨m,hm,h⟩:=List.mem_flatMap.1 h
   have h1:=outs_in t k i hi m hm
   have h2:=outsC_in t ks m h1.2 j h
   omega
theorem outsA_in (t:List Int):∀(l:List Re) (i:Nat),i≤t.length→∀ j∈outsA t l i,i≤j∧j≤t.length
 | [],i,hi,j,h=>by simp[outsA]at h
 | k::ks,i,hi,j,h=>by
   rw[outsA]at h
   rcases List.mem_append.1 h with h|h
   ·exact outs_in t k i hi j h
   ·exact outsA_in t ks i hi j h
theorem outsH_in (t:List Int):∀(l:List Re) (i:Nat),i≤t.length→∀ j∈outsH t l i,i≤j∧j≤t.length
 | [],i,hi,j,h=>by simp[outsH]at h
 | k::ks,i,hi,j,h=>by
   rw[outsH]at h
   exact outs_in t k i hi j h
end
theorem repO_pos {f:Nat→List Nat} {mn mx md:Int} {L:Nat} (hf:∀ i,i≤L→∀ j∈f i,i < j∧j≤L) (hm:0 < mn):∀(n:Nat) (i:Nat),i≤L→∀ j∈repO f mn mx md n 0 i,i < j
 | 0,_,_,j,h=>by simp[repO]at h
 | n+1,i,hi,j,h=>by
   rw[repO,if_pos hm]at h
   obtain⟨m,hm',h⟩:=List.mem_flatMap.1 h
   have h1:=hf i hi m hm'
   have h2:=repO_in (fun i hi j hj=>⟨Nat.le_of_lt (hf i hi j hj).1,(hf i hi j hj).2⟩) n _ m h1.2 j h
   omega
mutual
theorem outs_pos (t:List Int):∀(r:Re) (i:Nat),nullG r=false→codable r=true→i≤t.length→∀ j∈outs t r i,i < j
 | .mk op set kids mn mx md n neg,i,hn,hc,hi,j,h=>by
   have hC:=outsC_pos t kids
   have hA:=outsA_pos t kids
   have hH:=outsH_pos t kids
   rw[codable,Bool.and_eq_true,Bool.or_eq_true,decide_eq_true_eq,beq_iff_eq]at hc
   rw[nullG]at hn
   rw[outs]at h
   split at h
   ·split at h
    ·split at h
     ·rw[List.mem_singleton.1 h];omega
     ·simp at h
    ·simp at h
   ·rename_i h1
    rw[if_neg h1]at hn
    split at h
    ·rename_i h2
     rw[if_pos h2]at hn
     exact hC i hn hc.2 hi j h
    ·rename_i h2
     rw[if_neg h2]at hn
     split at h
     ·rename_i h3
      rw[if_pos (.inl h3)]at hn
      exact hA i hn hc.2 hi j h
     ·rename_i h3
      rw[if_neg (by omega)]at hn
      split at h
      ·rename_i h4
       rw[if_pos h4,Bool.or_eq_false_iff,decide_eq_false_iff_not]at hn
       refine repO_pos (L:=t.length) ?_ (by omega) _ i hi j h
       intro i hi j hj
       exact⟨hH i hn.2 hc.2 hi j hj,(outsH_in t kids i hi j hj).2⟩
      ·rename_i h4
       rw[if_neg h4]at hn
       split at h
       ·rename_i h5
        rw[if_pos (.inl h5)]at hn
        exact hH i hn hc.2 hi j h
       ·rename_i h5
        rw[if_neg (by omega)]at hn
        cases hn
theorem outsC_pos (t:List Int):∀(l:List Re) (i:Nat),nullAll l=false→codableL l=true→i≤t.length→∀ j∈outsC t l i,i < j
 | [],i,hn,_,hi,j,h=>by simp[nullAll]at hn
 | k::ks,i,hn,hc,hi,j,h=>by
   rw[codableL,Bool.and_eq_true]at hc
   rw[nullAll,Bool.and_eq_false_iff]at hn
   rw[outsC]at h
   obtain⟨m,hm,h⟩:=List.mem_flatMap.1 h
   have h1:=outs_in t k i hi m hm
   have h2:=outsC_in t ks m h1.2 j h
   rcases hn with hn|hn
   ·have:=outs_pos t k i hn hc.1 hi m hm
    omega
   ·have:=outsC_pos t ks m hn hc.2 h1.2 j h
    omega
theorem outsA_pos (t:List Int):∀(l:List Re) (i:Nat),nullAny l=false→codableL l=true→i≤t.length→∀ j∈outsA t l i,i < j
 | [],i,hn,_,hi,j,h=>by simp[outsA]at h
 | k::ks,i,hn,hc,hi,j,h=>by
   rw[codableL,Bool.and_eq_true]at hc
   rw[nullAny,Bool.or_eq_false_iff]at hn
   rw[outsA]at h
   rcases List.mem_append.1 h with h|h
   ·exact outs_pos t k i hn.1 hc.1 hi j h
   ·exact outsA_pos t ks i hn.2 hc.2 hi j h
theorem outsH_pos (t:List Int):∀(l:List Re) (i:Nat),nullHd l=false→codableL l=true→i≤t.length→∀ j∈outsH t l i,i < j
 | [],i,hn,_,hi,j,h=>by simp[outsH]at h
 | k::ks,i,hn,hc,hi,j,h=>by
   rw[codableL,Bool.and_eq_true]at hc
   rw[nullHd]at hn
   rw[outsH]at h
   exact outs_pos t k i hn hc.1 hi j h
end
end Go.Ev
namespace Go.Ev
set_option linter.unusedSimpArgs false
set_option linter.unusedVariables false
def RLe (R R':RunT):Prop:=∀ g i c s x,R g i c s=some x→R' g i c s=some x
theorem orR_mono {a a':Option (Bool×SS)} {f f':SS→Option (Bool×SS)} {x} (h1:∀ y,a=some y→a' = some y) (h2:∀ s y,f s=some y→f' s=some y) (h:orR a f=some x):orR a' f' = some x:=by
 unfold orR at h ⊢
 cases ha:a with
 | none=>rw[ha]at h;cases h
 | some q=>
   rw[ha]at h
   rw[h1 _ ha]
   obtain⟨b,s⟩:=q
   cases b with
   | true=>exact h
   | false=>exact h2 _ _ h
theorem repR_mono {fuel:Int} {R R':RunT} (h:RLe R R') {re:Re} {k:Int} {next:Goal} {i:Int} {c:Caps} {s:SS} {x} (he:repR fuel R re k next i c s=some x):repR fuel R' re k next i c s=some x:=by
 unfold repR at he ⊢
 simp only at he ⊢
 by_cases h1:(stepS fuel s).empty=true
 ·rw[if_pos h1]at he ⊢;exact he
 ·rw[if_neg h1]at he ⊢
  cases hk:re.kids with
  | nil=>rw[hk]at he;cases he
  | cons kid ks=>
    rw[hk]at he
    simp only at he ⊢
    by_cases h2:k < re.mn
    ·rw[if_pos h2]at he ⊢;exact h _ _ _ _ _ he
    ·rw[if_neg h2]at he ⊢
     by_cases h3:re.md=1
     ·rw[if_pos h3]at he ⊢
      refine orR_mono (fun y e=>h _ _ _ _ _ e) (fun s2 y e=>?_) he
      split at e<;>split
      ·exact h _ _ _ _ _ e
      ·contradiction
      ·contradiction
      ·exact e
     ·rw[if_neg h3]at he ⊢
      refine orR_mono (fun y e=>?_) (fun s2 y e=>h _ _ _ _ _ e) he
      split at e<;>split
      ·exact h _ _ _ _ _ e
      ·contradiction
      ·contradiction
      ·exact e
theorem altR_mono {R R':RunT} (h:RLe R R') {next:Goal} {i:Int} {c:Caps}:∀ {l:List Re} {s:SS} {x},altR R next i c l s=some x→altR R' next i c l s=some x
 | [],s,x,he=>he
 | k::ks,s,x,he=>by
   simp only[altR]at he ⊢
   exact orR_mono (fun y e=>h _ _ _ _ _ e) (fun s2 y e=>altR_mono h e) he
theorem nodeR_mono {t:List Int} {fuel:Int} {R R':RunT} (h:RLe R R') {re:Re} {next:Goal} {i:Int} {c:Caps} {s:SS} {x} (he:nodeR t fuel R re next i c s=some x):nodeR t fuel R' re next i c s=some x:=by
 unfold nodeR at he ⊢
 by_cases h4:re.op=4
 ·rw[if_pos h4]at he ⊢;exact repR_mono h he
 ·rw[if_neg h4]at he ⊢
  simp only at he ⊢
  by_cases h1:(stepS fuel s).empty=true
  ·rw[if_pos h1]at he ⊢;exact he
  ·rw[if_neg h1]at he ⊢
   by_cases a1:re.op=1
   ·rw[if_pos a1]at he ⊢
    cases hx:t[i.toNat]? with
    | none=>rw[hx]at he;exact he
    | some y=>
      rw[hx]at he
      simp only at he ⊢
      by_cases hh:hasSpan re.set y=true
      ·rw[if_pos hh]at he ⊢;exact h _ _ _ _ _ he
      ·rw[if_neg hh]at he ⊢;exact he
   ·rw[if_neg a1]at he ⊢
    by_cases a2:re.op=2
    ·rw[if_pos a2]at he ⊢;exact h _ _ _ _ _ he
    ·rw[if_neg a2]at he ⊢
     by_cases a3:re.op=3
     ·rw[if_pos a3]at he ⊢;exact altR_mono h he
     ·rw[if_neg a3]at he ⊢
      by_cases a5:re.op=5
      ·rw[if_pos a5]at he ⊢
       cases hk:re.kids with
       | nil=>rw[hk]at he;cases he
       | cons kid ks=>rw[hk]at he;exact h _ _ _ _ _ he
      ·rw[if_neg a5]at he ⊢
       by_cases a11:re.op=11
       ·rw[if_pos a11]at he ⊢
        by_cases hh:assertI re.n (befS t i.toNat) t[i.toNat]?=true
        ·rw[if_pos hh]at he ⊢;exact h _ _ _ _ _ he
        ·rw[if_neg hh]at he ⊢;exact he
       ·rw[if_neg a11]at he ⊢;exact h _ _ _ _ _ he
theorem runG_step (t:List Int) (fuel:Int):∀ d,RLe (runG t fuel d) (runG t fuel (d+1))
 | 0=>fun g i c s x h=>by cases g<;>simp[runG]at h
 | d+1=>fun g i c s x h=>by
   have ih:=runG_step t fuel d
   cases g with
   | nil=>simpa [runG] using h
   | mk kind re k fr next=>
     rw[runG]at h ⊢
     by_cases k1:kind=1
     ·rw[if_pos k1]at h ⊢;exact repR_mono ih h
     ·rw[if_neg k1]at h ⊢
      by_cases k2:kind=2
      ·rw[if_pos k2]at h ⊢
       by_cases hc:re.mn≤k∧i=fr
       ·rw[if_pos hc]at h ⊢;exact h
       ·rw[if_neg hc]at h ⊢;exact ih _ _ _ _ _ h
      ·rw[if_neg k2]at h ⊢
       by_cases k3:kind=3
       ·rw[if_pos k3]at h ⊢;exact ih _ _ _ _ _ h
       ·rw[if_neg k3]at h ⊢;exact nodeR_mono ih h
theorem runG_le (t:List Int) (fuel:Int) {d d':Nat} (h:d≤d'):RLe (runG t fuel d) (runG t fuel d'):=by
 induction h with
 | refl=>exact fun _ _ _ _ _ h=>h
 | step h ih=>exact fun g i c s x e=>runG_step t fuel _ g i c s x (ih g i c s x e)
variable (caps top:Int) (t:List Int) (fuel:Int)
def RT (g:Goal) (i n:Nat):Prop:=∀(c:Caps) (s:SS),GG caps top t.length s.steps g→c.length≤1000→SPre fuel s →
 ∃ d b s',runG t fuel d g i c s=some (b,s')∧SPost fuel s b s'∧(b=false→s'.steps=s.steps+n)
variable {caps top:Int} {t:List Int} {fuel:Int}
theorem RT.of {g:Goal} {i n:Nat} (hi:i≤t.length) (h:∀(c:Caps) (s:SS),GG caps top t.length s.steps g→c.length≤1000→SPre fuel s→∃ d b s',runG t fuel d g i c s=some (b,s')∧(b=false→s'.steps=s.steps+n)):RT caps top t fuel g i n:=
 fun c s hg hc hs=>by
  obtain⟨d,b,s',h1,h2⟩:=h c s hg hc hs
  exact⟨d,b,s',h1,runG_post caps top t fuel d g i c s b s' hg (by omega) (by omega) hc hs h1,h2⟩
theorem RT.nil {i:Nat} (hi:i≤t.length):RT caps top t fuel .nil i 0:=RT.of hi fun c s _ _ hs=>⟨1,false,_,rfl,fun _=>by simp⟩
theorem sum_flatMap {α:Type} (l:List α) (f:α→List Nat) (κ:Nat→Nat):((l.flatMap f).map κ).sum=(l.map fun j=>((f j).map κ).sum).sum:=by
 induction l with
 | nil=>rfl
 | cons a l ih=>simp[ih]
theorem sum_add {α:Type} (l:List α) (f g:α→Nat):(l.map fun j=>f j+g j).sum=(l.map f).sum+(l.map g).sum:=by
 induction l with
 | nil=>rfl
 | cons a l ih=>simp[ih];omega
end Go.Ev
namespace Go.Ev
set_option linter.unusedSimpArgs false
set_option linter.unusedVariables false
variable {caps top:Int} {t:List Int} {fuel:Int}
theorem seq_run {g1 g2:Goal} {i n1 n2:Nat} (hi:i≤t.length) (h1:RT caps top t fuel g1 i n1) (h2:RT caps top t fuel g2 i n2) {c:Caps} {s:SS} (hg1:GG caps top t.length s.steps g1) (hg2:GG caps top t.length s.steps g2)
  (hc:c.length≤1000) (hs:SPre fuel s) (hx:(s.ends.length:Int)≤256 * s.steps - 256) :
  ∃ d b s',orR (runG t fuel d g1 i c s) (runG t fuel d g2 i c)=some (b,s')∧(b=false→s'.steps=s.steps+(n1+n2:Nat)):=by
 obtain⟨d1,b1,s1,e1,q1,m1⟩:=h1 c s hg1 hc hs
 cases b1 with
 | true=>exact⟨d1,true,s1,by rw[e1];rfl,fun h=>by cases h⟩
 | false=>
   obtain⟨d2,b2,s2,e2,q2,m2⟩:=h2 c s1 (hg2.mono q1.st) hc (q1.pre hs hx)
   refine⟨max d1 d2,b2,s2,?_,fun h=>?_⟩
   ·rw[runG_le t fuel (Nat.le_max_left d1 d2) _ _ _ _ _ e1]
    exact runG_le t fuel (Nat.le_max_right d1 d2) _ _ _ _ _ e2
   ·have a:=m1 rfl
    have b:=m2 h
    omega
def RTRep (caps top:Int) (t:List Int) (fuel:Int) (re:Re) (k:Int) (next:Goal) (i m:Nat):Prop:=
 ∀(c:Caps) (s:SS),0≤k∧k≤s.steps→GG caps top t.length s.steps next→c.length≤1000→SPre fuel s →
  ∃ d b s',repR fuel (runG t fuel d) re k next i c s=some (b,s')∧(b=false→s'.steps=s.steps+m)
theorem repR_run {re kid:Re} (h:RGood caps top re) (ho:re.op=4) (hkid:re.kids=[kid]) (hgk:RGood caps top kid) {next:Goal} {κ:Nat→Nat}
  (hpos:∀ i,i≤t.length→∀ j∈outs t kid i,i < j∧j≤t.length)
  (hK:∀(nx:Goal) (i:Nat) (κ':Nat→Nat),i≤t.length→(∀ j∈outs t kid i,RT caps top t fuel nx j (κ' j))→RT caps top t fuel (.mk 0 kid 0 0 nx) i (costR t kid i+((outs t kid i).map κ').sum)) :
  ∀(n:Nat) (k:Int) (i:Nat),i≤t.length→t.length+1 - i≤n→(∀ j∈repO (outs t kid) re.mn re.mx re.md n k i,RT caps top t fuel next j (κ j)) →
   RTRep caps top t fuel re k next i (repC (outs t kid) (costR t kid) re.mn re.mx n k i+((repO (outs t kid) re.mn re.mx re.md n k i).map κ).sum)
 | 0,k,i,hi,hn,_=>by omega
 | n+1,k,i,hi,hn,hx=>by
   intro c s hk hg hc hs
   by_cases he:(stepS fuel s).empty=true
   ·exact⟨0,true,stepS fuel s,by unfold repR;simp only;rw[if_pos he],fun h=>by cases h⟩
   obtain⟨p1,p2⟩:=step_false hs (by simpa using he)
   have hst:(stepS fuel s).steps=s.steps+1:=rfl
   have hg1:=hg.mono (show s.steps≤(stepS fuel s).steps by omega)
   have hon:=once_good (next:=next) (i:=i) (L:=t.length) (steps:=(stepS fuel s).steps) h hgk ho (k:=k) ⟨hk.1,by omega⟩ ⟨by omega,by omega⟩ hg1
   have once:(∀ j∈(outs t kid i).flatMap (repO (outs t kid) re.mn re.mx re.md n (k+1)),RT caps top t fuel next j (κ j)) →
     RT caps top t fuel (.mk 0 kid 0 0 (.mk 2 re k i next)) i (costR t kid i+((outs t kid i).map (repC (outs t kid) (costR t kid) re.mn re.mx n (k+1))).sum+(((outs t kid i).flatMap (repO (outs t kid) re.mn re.mx re.md n (k+1))).map κ).sum):=by
    intro hf
    rw[sum_flatMap,Nat.add_assoc,← sum_add]
    refine hK _ i _ hi fun j hj=>?_
    have hij:=hpos i hi j hj
    refine RT.of hij.2 fun c s hg hc hs=>?_
    obtain⟨g1,g2,g3,g4⟩:=hg
    obtain⟨d,b,s',e,m⟩:=repR_run h ho hkid hgk hpos hK n (k+1) j hij.2 (by omega) (fun q hq=>hf q (List.mem_flatMap.2 ⟨j,hj,hq⟩)) c s (by omega) g4 hc hs
    refine⟨d+2,b,s',?_,m⟩
    rw[runG,if_neg (by decide),if_pos rfl,if_neg (by omega),runG,if_pos rfl]
    exact e
   rw[repO]at hx ⊢
   rw[repC]
   by_cases hm:k < re.mn
   ·rw[if_pos hm]at hx ⊢
    rw[if_pos (.inl hm)]
    obtain⟨d,b,s',e,q,m⟩:=once hx c _ hon hc p1
    refine⟨d,b,s',?_,fun hb=>?_⟩
    ·unfold repR;simp only;rw[if_neg he,hkid];simp only;rw[if_pos hm];exact e
    ·have:=m hb;omega
   ·rw[if_neg hm]at hx ⊢
    by_cases hM:re.mx = -1∨k < re.mx
    ·have hmore:(decide (re.mx = -1) || decide (k < re.mx))=true:=by simpa using hM
     rw[if_pos (.inr hM)]
     simp only[if_pos hM]at hx ⊢
     by_cases hd:re.md=1
     ·rw[if_pos hd]at hx ⊢
      obtain⟨d,b,s',e,m⟩:=seq_run hi (hx i (by simp)) (once fun j hj=>hx j (List.mem_cons_of_mem _ hj)) hg1 hon hc p1 (by omega)
      refine⟨d,b,s',?_,fun hb=>?_⟩
      ·unfold repR;simp only;rw[if_neg he,hkid];simp only;rw[if_neg hm,if_pos hd];simp only[hmore,if_true];exact e
      ·have:=m hb
       simp only[List.map_cons,List.sum_cons]
       omega
     ·rw[if_neg hd]at hx ⊢
      obtain⟨d,b,s',e,m⟩:=seq_run hi (once fun j hj=>hx j (List.mem_append_left _ hj)) (hx i (by simp)) hon hg1 hc p1 (by omega)
      refine⟨d,b,s',?_,fun hb=>?_⟩
      ·unfold repR;simp only;rw[if_neg he,hkid];simp only;rw[if_neg hm,if_neg hd];simp only[hmore,if_true];exact e
      ·have:=m hb
       simp only[List.map_append,List.sum_append,List.map_cons,List.map_nil,List.sum_cons,List.sum_nil]
       omega
    ·have hmore:(decide (re.mx = -1) || decide (k < re.mx))=false:=by
      simp only[Bool.or_eq_false_iff,decide_eq_false_iff_not];omega
     rw[if_neg (by omega)]
     simp only[if_neg hM]at hx ⊢
     have hO:(if re.md=1 then [i] else []++[i])=[i]:=by split<;>rfl
     rw[hO]at hx ⊢
     obtain⟨d,b,s',e,q,m⟩:=hx i (by simp) c _ hg1 hc p1
     refine⟨d,b,s',?_,fun hb=>?_⟩
     ·unfold repR;simp only;rw[if_neg he,hkid];simp only;rw[if_neg hm];simp only[hmore]
      split
      ·rw[e];cases b with
       | true=>rfl
       | false=>rfl
      ·exact e
     ·have:=m hb
      simp only[List.map_cons,List.map_nil,List.sum_cons,List.sum_nil]
      omega
mutual
def lpG:Re→Bool
 | .mk op set kids mn mx md n neg=>!(decide (op=4) && nullHd kids) && lpL kids
def lpL:List Re→Bool
 | []=>true
 | k::ks=>lpG k && lpL ks
end
mutual
theorem lpG_of:∀(r:Re) (ins:List Int),compG ins r=true→lpG r=true
 | .mk op set kids mn mx md n neg,ins,h=>by
   rw[compG]at h
   rw[lpG]
   split at h
   ·cases h
   ·rename_i hn
    have h0:(decide (op=4) && nullHd kids)=false:=by
     cases hh:nullHd kids with
     | false=>simp
     | true=>simp;exact fun h=>hn ⟨h,.inr hh⟩
    rw[h0]
    split at h
    ·split at h
     ·cases h
     ·rw[lpL_of kids _ h];rfl
    ·split at h
     ·cases h
     ·rw[lpL_of kids _ h];rfl
theorem lpL_of:∀(l:List Re) (ins:List Int),compL ins l=true→lpL l=true
 | [],_,_=>rfl
 | k::ks,ins,h=>by
   rw[compL,Bool.and_eq_true]at h
   rw[lpL,lpG_of k ins h.1,lpL_of ks ins h.2];rfl
end
mutual
theorem re_run (caps top:Int) (t:List Int) (fuel:Int):∀ r:Re,RGood caps top r→lpG r=true→∀(k fr:Int) (next:Goal) (i:Nat) (κ:Nat→Nat),i≤t.length →
  (∀ j∈outs t r i,RT caps top t fuel next j (κ j))→RT caps top t fuel (.mk 0 r k fr next) i (costR t r i+((outs t r i).map κ).sum)
 | .mk op set kids mn mx md n neg,hr,hcp,k,fr,next,i,κ,hi,hx=>by
   have hkids:∀ k∈kids,RGood caps top k:=hr.kids
   have hC:=fun h next κ=>cat_run caps top t fuel kids hkids h next i κ hi
   have hA:=fun h next κ=>alt_run caps top t fuel kids hkids h next i κ hi
   have hH:=fun h next i κ hi=>hd_run caps top t fuel kids hkids h next i κ hi
   have hop:=hr.good.op
   have hlen:=hr.len
   rw[lpG,Bool.and_eq_true]at hcp
   obtain⟨hcp0,hcp⟩:=hcp
   refine RT.of hi fun c s hg hc hs=>?_
   obtain⟨g1,g2,g3,g4⟩:=hg
   by_cases h4:op=4
   ·subst h4
    have hnl:nullHd kids=false:=by simpa using hcp0
    obtain⟨kid,hkid,hgk⟩:=rep_kid hr rfl
    simp only[Re.kids]at hkid
    subst hkid
    have ho:∀ i,outs t (.mk 4 set [kid] mn mx md n neg) i=repO (outs t kid) mn mx md (t.length+1 - i) 0 i:=fun i=>by
     rw[outs,if_neg (by decide),if_neg (by decide),if_neg (by decide),if_pos rfl]
     congr 1
    have hcst:∀ i,costR t (.mk 4 set [kid] mn mx md n neg) i=repC (outs t kid) (costR t kid) mn mx (t.length+1 - i) 0 i:=fun i=>by
     rw[costR,if_neg (by decide),if_neg (by decide),if_pos rfl]
     congr 1
    rw[ho]at hx
    rw[ho,hcst]
    rw[lpL,Bool.and_eq_true]at hcp
    obtain⟨d,b,s',e,m⟩:=repR_run (κ:=κ) hr rfl rfl hgk (fun i hi j hj=>⟨outs_pos t kid i (by rw[nullHd]at hnl;exact hnl) hgk.good.cod hi j hj,(outs_in t kid i hi j hj).2⟩)
     (fun nx i κ' hi h=>hH (by rw[lpL,lpL,hcp.1];rfl) nx i κ' hi h) (t.length+1 - i) 0 i hi (Nat.le_refl _) hx c s ⟨Int.le_refl _,hs.st.1⟩ g4 hc hs
    refine⟨d+1,b,s',?_,m⟩
    rw[runG,if_neg (by decide),if_neg (by decide),if_neg (by decide),nodeR,if_pos (by rfl)]
    exact e
   ·by_cases he:(stepS fuel s).empty=true
    ·refine⟨1,true,stepS fuel s,?_,fun h=>by cases h⟩
     rw[runG,if_neg (by decide),if_neg (by decide),if_neg (by decide),nodeR,if_neg (by exact h4)]
     simp only
     rw[if_pos he]
    ·obtain⟨p1,p2⟩:=step_false hs (by simpa using he)
     have hst:(stepS fuel s).steps=s.steps+1:=rfl
     have hg1:=g4.mono (show s.steps≤(stepS fuel s).steps by omega)
     rcases hop with rfl|rfl|rfl|rfl|rfl|rfl|rfl
     ·have ho:outs t (.mk 0 set kids mn mx md n neg) i=[i]:=by rw[outs];simp
      have hcst:costR t (.mk 0 set kids mn mx md n neg) i=1:=by rw[costR];simp
      rw[ho]at hx;rw[ho,hcst]
      obtain⟨d,b,s',e,q,m⟩:=hx i (by simp) c _ hg1 hc p1
      refine⟨d+1,b,s',?_,fun hb=>by have:=m hb;simp only[List.map_cons,List.map_nil,List.sum_cons,List.sum_nil];omega⟩
      simp[runG,nodeR,Re.op,he,e]
     ·have hcst:costR t (.mk 1 set kids mn mx md n neg) i=1:=by rw[costR];simp
      rw[outs,if_pos rfl]at hx ⊢
      rw[hcst]
      cases hti:t[i]? with
      | none=>
        refine⟨1,false,stepS fuel s,?_,fun _=>by simp;omega⟩
        simp[runG,nodeR,Re.op,he,hti]
      | some x=>
        rw[hti]at hx
        by_cases hh:hasSpan set x=true
        ·simp only[if_pos hh]at hx ⊢
         obtain⟨d,b,s',e,q,m⟩:=hx (i+1) (by simp) c _ hg1 hc p1
         refine⟨d+1,b,s',?_,fun hb=>by have:=m hb;simp only[List.map_cons,List.map_nil,List.sum_cons,List.sum_nil];omega⟩
         simp only[Int.natCast_add,Int.natCast_one]at e
         simp[runG,nodeR,Re.op,Re.set,he,hti,hh,e]
        ·simp only[if_neg hh]at hx ⊢
         refine⟨1,false,stepS fuel s,?_,fun _=>by simp;omega⟩
         simp[runG,nodeR,Re.op,Re.set,he,hti,hh]
     ·have ho:outs t (.mk 2 set kids mn mx md n neg) i=outsC t kids i:=by rw[outs];simp
      have hcst:costR t (.mk 2 set kids mn mx md n neg) i=1+costRC t kids i:=by rw[costR];simp
      rw[ho]at hx;rw[ho,hcst]
      obtain⟨d,b,s',e,q,m⟩:=hC hcp next κ hx c _ (GG.cat (by omega) hg1 hkids) hc p1
      refine⟨d+1,b,s',?_,fun hb=>by have:=m hb;omega⟩
      simp[runG,nodeR,Re.op,Re.kids,he,e]
     ·have ho:outs t (.mk 3 set kids mn mx md n neg) i=outsA t kids i:=by rw[outs];simp
      have hcst:costR t (.mk 3 set kids mn mx md n neg) i=1+costRA t kids i:=by rw[costR];simp
      rw[ho]at hx;rw[ho,hcst]
      simp only[Re.kids]at hlen
      obtain⟨d,b,s',e,m⟩:=hA hcp next κ hx c _ hg1 hc p1 (by omega)
      refine⟨d+1,b,s',?_,fun hb=>by have:=m hb;omega⟩
      simp[runG,nodeR,Re.op,Re.kids,he,e]
     ·exact absurd rfl h4
     ·have ho:outs t (.mk 5 set kids mn mx md n neg) i=outsH t kids i:=by rw[outs];simp
      have hcst:costR t (.mk 5 set kids mn mx md n neg) i=1+costRH t kids i:=by rw[costR];simp
      rw[ho]at hx;rw[ho,hcst]
      obtain⟨kid,hkid,hgk⟩:=cap_kid hr rfl
      simp only[Re.kids]at hkid
      subst hkid
      have e1:outsH t [kid] i=outs t kid i:=by rw[outsH]
      have e2:costRH t [kid] i=costR t kid i:=by rw[costRH]
      rw[e1]at hx
      rw[e1,e2]
      obtain⟨d,b,s',e,q,m⟩:=hH hcp (.mk 3 (.mk 5 set [kid] mn mx md n neg) 0 i next) i κ hi (fun j hj=>by
       have hj2:=(outs_in t kid i hi j hj).2
       refine RT.of hj2 fun c s hg hc hs=>?_
       obtain⟨g1,g2,g3,g4⟩:=hg
       obtain⟨d,b,s',e,q,m⟩:=hx j hj (withI c n i j) s g4 (by rw[with_len];exact hc) hs
       refine⟨d+1,b,s',?_,m⟩
       rw[runG,if_neg (by decide),if_neg (by decide),if_pos rfl]
       exact e) c _ ⟨hgk,.inl rfl,⟨Int.le_refl _,by omega⟩,hr,.inr (.inr (.inr ⟨rfl,rfl⟩)),⟨by omega,by omega⟩,hg1⟩ hc p1
      refine⟨d+1,b,s',?_,fun hb=>by have:=m hb;omega⟩
      rw[runG,if_neg (by decide),if_neg (by decide),if_neg (by decide),nodeR,if_neg (by exact h4)]
      simp only
      rw[if_neg he]
      simp only[Re.op,Re.kids,show ¬(5:Int)=1 by decide,show ¬(5:Int)=2 by decide,show ¬(5:Int)=3 by decide,if_false,if_true]
      exact e
     ·have hcst:costR t (.mk 11 set kids mn mx md n neg) i=1:=by rw[costR];simp
      have ho:outs t (.mk 11 set kids mn mx md n neg) i=if assertI n (befS t i) t[i]?=true then [i] else []:=by rw[outs];simp
      rw[ho]at hx;rw[ho,hcst]
      by_cases hh:assertI n (befS t i) t[i]?=true
      ·simp only[if_pos hh]at hx ⊢
       obtain⟨d,b,s',e,q,m⟩:=hx i (by simp) c _ hg1 hc p1
       refine⟨d+1,b,s',?_,fun hb=>by have:=m hb;simp only[List.map_cons,List.map_nil,List.sum_cons,List.sum_nil];omega⟩
       simp[runG,nodeR,Re.op,Re.n,he,hh,e]
      ·simp only[if_neg hh]at hx ⊢
       refine⟨1,false,stepS fuel s,?_,fun _=>by simp;omega⟩
       simp[runG,nodeR,Re.op,Re.n,he,hh]
theorem cat_run (caps top:Int) (t:List Int) (fuel:Int):∀ l:List Re,(∀ k∈l,RGood caps top k)→lpL l=true→∀(next:Goal) (i:Nat) (κ:Nat→Nat),i≤t.length →
  (∀ j∈outsC t l i,RT caps top t fuel next j (κ j))→RT caps top t fuel (catG next l) i (costRC t l i+((outsC t l i).map κ).sum)
 | [],_,_,next,i,κ,hi,hx=>by
   have:=hx i (by simp[outsC])
   simpa [outsC,costRC,catG] using this
 | k::ks,hr,hcp,next,i,κ,hi,hx=>by
   rw[lpL,Bool.and_eq_true]at hcp
   rw[outsC]at hx ⊢
   rw[costRC,sum_flatMap,Nat.add_assoc,← sum_add,catG]
   refine re_run caps top t fuel k (hr k (by simp)) hcp.1 0 0 _ i _ hi fun j hj=>?_
   exact cat_run caps top t fuel ks (fun q hq=>hr q (by simp[hq])) hcp.2 next j κ (outs_in t k i hi j hj).2 fun q hq=>hx q (List.mem_flatMap.2 ⟨j,hj,hq⟩)
theorem alt_run (caps top:Int) (t:List Int) (fuel:Int):∀ l:List Re,(∀ k∈l,RGood caps top k)→lpL l=true→∀(next:Goal) (i:Nat) (κ:Nat→Nat),i≤t.length →
  (∀ j∈outsA t l i,RT caps top t fuel next j (κ j))→∀(c:Caps) (s:SS),GG caps top t.length s.steps next→c.length≤1000→SPre fuel s→(s.ends.length:Int)+l.length≤256 * s.steps →
  ∃ d b s',altR (runG t fuel d) next i c l s=some (b,s')∧(b=false→s'.steps=s.steps+(costRA t l i+((outsA t l i).map κ).sum:Nat))
 | [],_,_,next,i,κ,hi,hx=>fun c s hg hc hs hsl=>⟨0,false,s,rfl,fun _=>by simp[costRA,outsA]⟩
 | k::ks,hr,hcp,next,i,κ,hi,hx=>fun c s hg hc hs hsl=>by
   rw[lpL,Bool.and_eq_true]at hcp
   rw[outsA]at hx ⊢
   rw[costRA]
   obtain⟨d1,b1,s1,e1,q1,m1⟩:=re_run caps top t fuel k (hr k (by simp)) hcp.1 0 0 next i κ hi (fun j hj=>hx j (List.mem_append_left _ hj)) c s ⟨hr k (by simp),.inl rfl,⟨Int.le_refl _,by omega⟩,hg⟩ hc hs
   cases b1 with
   | true=>exact⟨d1,true,s1,by rw[altR,e1];rfl,fun h=>by cases h⟩
   | false=>
     have a1:=q1.st
     have a2:=q1.fu rfl
     have a3:=q1.el
     have a4:=hs.st
     simp only[List.length_cons]at hsl
     obtain⟨d2,b2,s2,e2,m2⟩:=alt_run caps top t fuel ks (fun q hq=>hr q (by simp[hq])) hcp.2 next i κ hi (fun j hj=>hx j (List.mem_append_right _ hj)) c s1 (hg.mono a1) hc ⟨q1.eb.symm,⟨by omega,a2⟩,q1.cl,by omega⟩ (by omega)
     refine⟨max d1 d2,b2,s2,?_,fun h=>?_⟩
     ·rw[altR,runG_le t fuel (Nat.le_max_left d1 d2) _ _ _ _ _ e1]
      exact altR_mono (runG_le t fuel (Nat.le_max_right d1 d2)) e2
     ·have a:=m1 rfl
      have b:=m2 h
      simp only[List.map_append,List.sum_append]
      omega
theorem hd_run (caps top:Int) (t:List Int) (fuel:Int):∀ l:List Re,(∀ k∈l,RGood caps top k)→lpL l=true→∀(next:Goal) (i:Nat) (κ:Nat→Nat),i≤t.length →
  match l with
  | []=>True
  | k::_=>(∀ j∈outs t k i,RT caps top t fuel next j (κ j))→RT caps top t fuel (.mk 0 k 0 0 next) i (costR t k i+((outs t k i).map κ).sum)
 | [],_,_,_,_,_,_=>trivial
 | k::ks,hr,hcp,next,i,κ,hi=>fun hx=>by
   rw[lpL,Bool.and_eq_true]at hcp
   exact re_run caps top t fuel k (hr k (by simp)) hcp.1 0 0 next i κ hi hx
end
end Go.Ev
namespace Go.Ev
attribute [local go_sem] eq_self bindW_some bindW_map bindW_ite bindW_iteN W_seq W_region W_draw W_cond W_condK W_ret W_skip W_exit W_scope W_label W_block blockK_norm blockK_ret blockK_exit WO_nil WO_cons WO_guard WD_nil WD_cons WD_guard guardV guardW_boolT guardW_boolF guardW_tup fpL_some fpL_none footprint thenK_norm thenK_ret thenK_exit put_some put_none ev_tmp ev_con ev_func ofK_int ofK_bool ofK_str ofK_nil evOp evBuiltin evCall evLen evAppend getElem_16 getElem_4 List.length_cons List.length_nil List.cons_append List.nil_append List.append_nil if_false if_true Bool.false_eq_true Bool.true_eq_false Option.map_some Option.map_none List.map_cons List.map_nil evBinOp evBin evUn asB_bool splitB_decide splitB_true splitB_false splitB_beq splitB_bne splitB_not endK_ret endK_norm List.getElem?_cons_zero List.getElem?_cons_succ evResults evResult packRes retK_norm retK_ret cellsAt mkVal evFieldAddr evField evIndexAddr evPart evStore evBuild evBuildSlice fillC fillE evSlice evMakeSlice evConvert getRow AV.cells List.head?_cons List.drop_zero List.drop_succ_cons List.take_zero List.take_succ_cons List.drop_nil List.take_nil List.all_cons List.all_nil AV.ok Bool.and_self Bool.and_true Bool.true_and and_self and_true true_and Nat.zero_add Nat.add_zero setCells splice pairsOk pairsX altW_none altW_some cfg_al WI_nil WI_cons FP.apart heapEq_refl sameAt_refl Bool.or_true Bool.true_or Bool.or_false srcElems elemsOf mutDst indDst roundK_norm roundK_exit roundK_ret List.length_map List.getElem?_map Int.toNat_natCast decide_true decide_false Bool.not_true Bool.not_false List.set set_0 set_1 set_2 set_3 set_4 look_hit look lookD_hit lookD_cons lookD_nil ins_hit ins upd_hit upd rem1_hit rem1 dropT dropSt_eq initT cfg_dd cfg_bd cfg_ra actL_nil actL_cons act1 updT_hit updT frzB retE_norm retE_ret bndO bnd evEq eqCells not_false_eq_true not_true_eq_false toList_some Array.size_empty List.length_append List.map_append tySzE List.head?_drop Nat.mul_one sameAt_zero sameAt_two sameAt_three sameAt_four sameAt_five endE_norm endE_ret head_take1 List.contains_nil List.contains_cons Bool.or_self dlt_t dlt_f dle_t dle_f dgt_t dgt_f dge_t dge_f beq_t beq_f bne_t bne_f lt_T le_T nle_T nle_F Go.IntWalk.i64_in Go.IntWalk.i64_quo Go.IntWalk.rem_in room_ok ty0 ty3 ty4 ty24 ty26 ty100
section
open Go.Proofs Go.RowKit Go.IntWalk
set_option maxRecDepth 100000
set_option linter.unusedSimpArgs false
set_option linter.unusedVariables false
set_option maxHeartbeats 8000000
theorem f75 (op:Int) (set:List (Int×Int)) (kids:List Re) (mn mx md n:Int) (neg:Bool) (H:List MB) :
  call Try.prog pol1 75 [.pt (nodeL op set kids mn mx md n neg)] H=some (.bool (keptX mn mx),H):=by
 refine call_run Try.func75 rfl rfl rfl rfl rfl rfl (fun _=>rfl) (by simp[AV.plain,AV.plainL,plain_span,plain_kids]) rfl ?_ H
 unfold keptX
 by_cases h1:mn=0
 ·by_cases h2:mx = -1
  ·simp +contextual (disch:=omega) only[Try.f75,dd75,go_sem,↓reduceIte,List.reduceReplicate,Nat.reduceAdd,Nat.reduceSub,reduceCtorEq,Nat.reduceLeDiff,Nat.reduceMul,Nat.reduceLT,Nat.reduceEqDiff,Int.reduceBNe,Int.reduceBEq,Int.reduceEq,Int.reduceLT,Int.reduceLE,Int.reduceGT,Int.reduceGE,mu75,Nat.reduceBEq,↓wrap_up,↓wrap_down,↓wrap_pred,↓wrap_sub_nat,Int.reduceToNat,h1,h2]
   exact⟨_,rfl⟩
  ·by_cases h3:mx=1
   ·simp +contextual (disch:=omega) only[Try.f75,dd75,go_sem,↓reduceIte,List.reduceReplicate,Nat.reduceAdd,Nat.reduceSub,reduceCtorEq,Nat.reduceLeDiff,Nat.reduceMul,Nat.reduceLT,Nat.reduceEqDiff,Int.reduceBNe,Int.reduceBEq,Int.reduceEq,Int.reduceLT,Int.reduceLE,Int.reduceGT,Int.reduceGE,mu75,Nat.reduceBEq,↓wrap_up,↓wrap_down,↓wrap_pred,↓wrap_sub_nat,Int.reduceToNat,h1,h3]
    exact⟨_,rfl⟩
   ·simp +contextual (disch:=omega) only[Try.f75,dd75,go_sem,↓reduceIte,List.reduceReplicate,Nat.reduceAdd,Nat.reduceSub,reduceCtorEq,Nat.reduceLeDiff,Nat.reduceMul,Nat.reduceLT,Nat.reduceEqDiff,Int.reduceBNe,Int.reduceBEq,Int.reduceEq,Int.reduceLT,Int.reduceLE,Int.reduceGT,Int.reduceGE,mu75,Nat.reduceBEq,↓wrap_up,↓wrap_down,↓wrap_pred,↓wrap_sub_nat,Int.reduceToNat,h1]
    simp only[h2,h3,decide_false,Bool.or_self]
    exact⟨_,rfl⟩
 ·simp +contextual (disch:=omega) only[Try.f75,dd75,go_sem,↓reduceIte,List.reduceReplicate,Nat.reduceAdd,Nat.reduceSub,reduceCtorEq,Nat.reduceLeDiff,Nat.reduceMul,Nat.reduceLT,Nat.reduceEqDiff,Int.reduceBNe,Int.reduceBEq,Int.reduceEq,Int.reduceLT,Int.reduceLE,Int.reduceGT,Int.reduceGE,mu75,Nat.reduceBEq,↓wrap_up,↓wrap_down,↓wrap_pred,↓wrap_sub_nat,Int.reduceToNat]
  simp only[h1,decide_false,Bool.false_and]
  exact⟨_,rfl⟩
theorem lpL_mem:∀ {l:List Re},lpL l=true→∀ k∈l,lpG k=true
 | k::ks,h,q,hq=>by
   rw[lpL,Bool.and_eq_true]at h
   rcases List.mem_cons.1 hq with rfl|hq
   ·exact h.1
   ·exact lpL_mem h.2 q hq
theorem f71 (caps top:Int):∀(N:Nat) (r:Re),r.wt≤N→r.wt≤1000000→RGood caps top r→lpG r=true→∀ H,call Try.prog pol1 71 [.pt (reC r)] H=some (.bool true,H)
 | 0,r,h,_,_,_,_=>by have:=r.wt_pos;omega
 | N+1,.mk op set kids mn mx md n neg,h,hN,hr,hl,H=>by
   have hkl:=Re.wtL_len kids
   have hwt:1+set.length+Re.wtL kids=(Re.mk op set kids mn mx md n neg).wt:=by simp[Re.wt]
   rw[lpG,Bool.and_eq_true]at hl
   obtain⟨hl0,hl1⟩:=hl
   have ih:=fun k (hk:k∈kids)=>f71 caps top N k (by have:=Re.wtL_mem hk;omega) (by have:=Re.wtL_mem hk;omega) (hr.kids k hk) (lpL_mem hl1 k hk)
   rw[show (.pt (reC (.mk op set kids mn mx md n neg)):AV)=.pt (nodeL op set kids mn mx md n neg) from congrArg AV.pt reC_mk]
   refine call_run Try.func71 rfl rfl rfl rfl rfl rfl (fun _=>rfl) (by simp[AV.plain,AV.plainL,plain_span,plain_kids]) rfl ?_ H
   have h75:=f75 op set kids mn mx md n neg
   by_cases h4:op=4
   ·subst h4
    obtain⟨kid,hkid,hgk⟩:=rep_kid hr rfl
    simp only[Re.kids]at hkid
    have hk0:kids[0]?=some kid:=by rw[hkid];rfl
    have hkl1:kids.length=1:=by rw[hkid];rfl
    have hmd:=hr.md
    simp only[Re.md]at hmd
    have hnl:nullG kid=false:=by simpa [hkid,nullHd] using hl0
    have h105:=f105 kid (by have:=Re.wtL_mem (l:=kids) (k:=kid) (by simp[hkid]);omega) caps top hgk.good.whole
    clear hkid
    rw[hnl]at h105
    cases hkp:keptX mn mx with
    | true=>
      rw[hkp]at h75
      simp +contextual (disch:=omega) only[Try.f71,dd71,go_sem,↓reduceIte,List.reduceReplicate,Nat.reduceAdd,Nat.reduceSub,reduceCtorEq,Nat.reduceLeDiff,Nat.reduceMul,Nat.reduceLT,Nat.reduceEqDiff,Int.reduceBNe,Int.reduceBEq,Int.reduceEq,Int.reduceLT,Int.reduceLE,Int.reduceGT,Int.reduceGE,mu71,Nat.reduceBEq,↓wrap_up,↓wrap_down,↓wrap_pred,↓wrap_sub_nat,Int.reduceToNat,h75,h105,hk0,hkl1,reC_len,reC_ok,reC_take]
      refine W_count (M:=(mskOf (pol1.mask 71) (pol1.gc 71) (pol1.acts 71) 0 5)) rfl kids.length (fun i=>(⟨53,[(41,I i),(40,I kids.length),(0,.pt (nodeL 4 set kids mn mx md n neg))],[]⟩:St)) (fun _=>True) ?_ ?_ trivial _ (by rw[hkl1];rfl)
      ·intro i hi _
       obtain⟨k,hk⟩:∃ k,kids[i]?=some k:=⟨_,List.getElem?_eq_getElem hi⟩
       have ihk:=ih k (List.mem_of_getElem? hk)
       have hl8:=reC_len k
       have ht8:=reC_take k
       simp +contextual (disch:=omega) only[Try.f71,dd71,go_sem,↓reduceIte,List.reduceReplicate,Nat.reduceAdd,Nat.reduceSub,reduceCtorEq,Nat.reduceLeDiff,Nat.reduceMul,Nat.reduceLT,Nat.reduceEqDiff,Int.reduceBNe,Int.reduceBEq,Int.reduceEq,Int.reduceLT,Int.reduceLE,Int.reduceGT,Int.reduceGE,mu71,Nat.reduceBEq,↓wrap_up,↓wrap_down,↓wrap_pred,↓wrap_sub_nat,Int.reduceToNat,hk,ihk,hl8,ht8]
       exact(by first|rfl|(simp[keepT,AV.underL,AV.under,MB.under,underL_plain,under_plain,underL_append,plain_ints,plain_span,plain_ins,plain_prg,-List.map_take,-List.map_replicate,-List.map_set,plain_kids];done))
      ·intro _
       simp +contextual (disch:=omega) only[Try.f71,dd71,go_sem,↓reduceIte,List.reduceReplicate,Nat.reduceAdd,Nat.reduceSub,reduceCtorEq,Nat.reduceLeDiff,Nat.reduceMul,Nat.reduceLT,Nat.reduceEqDiff,Int.reduceBNe,Int.reduceBEq,Int.reduceEq,Int.reduceLT,Int.reduceLE,Int.reduceGT,Int.reduceGE,mu71,Nat.reduceBEq,↓wrap_up,↓wrap_down,↓wrap_pred,↓wrap_sub_nat,Int.reduceToNat]
       exact⟨_,rfl⟩
    | false=>
      rw[hkp]at h75
      simp +contextual (disch:=omega) only[Try.f71,dd71,go_sem,↓reduceIte,List.reduceReplicate,Nat.reduceAdd,Nat.reduceSub,reduceCtorEq,Nat.reduceLeDiff,Nat.reduceMul,Nat.reduceLT,Nat.reduceEqDiff,Int.reduceBNe,Int.reduceBEq,Int.reduceEq,Int.reduceLT,Int.reduceLE,Int.reduceGT,Int.reduceGE,mu71,Nat.reduceBEq,↓wrap_up,↓wrap_down,↓wrap_pred,↓wrap_sub_nat,Int.reduceToNat,h75,h105,hk0,hkl1,reC_len,reC_ok,reC_take]
      refine W_count (M:=(mskOf (pol1.mask 71) (pol1.gc 71) (pol1.acts 71) 0 5)) rfl kids.length (fun i=>(⟨53,[(41,I i),(40,I kids.length),(0,.pt (nodeL 4 set kids mn mx md n neg))],[]⟩:St)) (fun _=>True) ?_ ?_ trivial _ (by rw[hkl1];rfl)
      ·intro i hi _
       obtain⟨k,hk⟩:∃ k,kids[i]?=some k:=⟨_,List.getElem?_eq_getElem hi⟩
       have ihk:=ih k (List.mem_of_getElem? hk)
       have hl8:=reC_len k
       have ht8:=reC_take k
       simp +contextual (disch:=omega) only[Try.f71,dd71,go_sem,↓reduceIte,List.reduceReplicate,Nat.reduceAdd,Nat.reduceSub,reduceCtorEq,Nat.reduceLeDiff,Nat.reduceMul,Nat.reduceLT,Nat.reduceEqDiff,Int.reduceBNe,Int.reduceBEq,Int.reduceEq,Int.reduceLT,Int.reduceLE,Int.reduceGT,Int.reduceGE,mu71,Nat.reduceBEq,↓wrap_up,↓wrap_down,↓wrap_pred,↓wrap_sub_nat,Int.reduceToNat,hk,ihk,hl8,ht8]
       exact(by first|rfl|(simp[keepT,AV.underL,AV.under,MB.under,underL_plain,under_plain,underL_append,plain_ints,plain_span,plain_ins,plain_prg,-List.map_take,-List.map_replicate,-List.map_set,plain_kids];done))
      ·intro _
       simp +contextual (disch:=omega) only[Try.f71,dd71,go_sem,↓reduceIte,List.reduceReplicate,Nat.reduceAdd,Nat.reduceSub,reduceCtorEq,Nat.reduceLeDiff,Nat.reduceMul,Nat.reduceLT,Nat.reduceEqDiff,Int.reduceBNe,Int.reduceBEq,Int.reduceEq,Int.reduceLT,Int.reduceLE,Int.reduceGT,Int.reduceGE,mu71,Nat.reduceBEq,↓wrap_up,↓wrap_down,↓wrap_pred,↓wrap_sub_nat,Int.reduceToNat]
       exact⟨_,rfl⟩
   ·simp +contextual (disch:=omega) only[Try.f71,dd71,go_sem,↓reduceIte,List.reduceReplicate,Nat.reduceAdd,Nat.reduceSub,reduceCtorEq,Nat.reduceLeDiff,Nat.reduceMul,Nat.reduceLT,Nat.reduceEqDiff,Int.reduceBNe,Int.reduceBEq,Int.reduceEq,Int.reduceLT,Int.reduceLE,Int.reduceGT,Int.reduceGE,mu71,Nat.reduceBEq,↓wrap_up,↓wrap_down,↓wrap_pred,↓wrap_sub_nat,Int.reduceToNat,h4]
    refine W_count (M:=(mskOf (pol1.mask 71) (pol1.gc 71) (pol1.acts 71) 0 5)) rfl kids.length (fun i=>(⟨53,[(41,I i),(40,I kids.length),(0,.pt (nodeL op set kids mn mx md n neg))],[]⟩:St)) (fun _=>True) ?_ ?_ trivial _ (by first|rfl|(simp[keepT,AV.underL,AV.under,MB.under,underL_plain,under_plain,underL_append,plain_ints,plain_span,plain_ins,plain_prg,-List.map_take,-List.map_replicate,-List.map_set,plain_kids];done))
    ·intro i hi _
     obtain⟨k,hk⟩:∃ k,kids[i]?=some k:=⟨_,List.getElem?_eq_getElem hi⟩
     have ihk:=ih k (List.mem_of_getElem? hk)
     have hl8:=reC_len k
     have ht8:=reC_take k
     simp +contextual (disch:=omega) only[Try.f71,dd71,go_sem,↓reduceIte,List.reduceReplicate,Nat.reduceAdd,Nat.reduceSub,reduceCtorEq,Nat.reduceLeDiff,Nat.reduceMul,Nat.reduceLT,Nat.reduceEqDiff,Int.reduceBNe,Int.reduceBEq,Int.reduceEq,Int.reduceLT,Int.reduceLE,Int.reduceGT,Int.reduceGE,mu71,Nat.reduceBEq,↓wrap_up,↓wrap_down,↓wrap_pred,↓wrap_sub_nat,Int.reduceToNat,hk,ihk,hl8,ht8]
     exact(by first|rfl|(simp[keepT,AV.underL,AV.under,MB.under,underL_plain,under_plain,underL_append,plain_ints,plain_span,plain_ins,plain_prg,-List.map_take,-List.map_replicate,-List.map_set,plain_kids];done))
    ·intro _
     simp +contextual (disch:=omega) only[Try.f71,dd71,go_sem,↓reduceIte,List.reduceReplicate,Nat.reduceAdd,Nat.reduceSub,reduceCtorEq,Nat.reduceLeDiff,Nat.reduceMul,Nat.reduceLT,Nat.reduceEqDiff,Int.reduceBNe,Int.reduceBEq,Int.reduceEq,Int.reduceLT,Int.reduceLE,Int.reduceGT,Int.reduceGE,mu71,Nat.reduceBEq,↓wrap_up,↓wrap_down,↓wrap_pred,↓wrap_sub_nat,Int.reduceToNat]
     exact⟨_,rfl⟩
theorem f72 (caps top:Int):∀(N:Nat) (r:Re),r.wt≤N→r.wt≤1000000→wholeG caps top r=true→∃ v:Int,(0≤v∧v≤4097)∧∀ H,call Try.prog pol1 72 [.pt (reC r)] H=some (I v,H)
 | 0,r,h,_,_=>by have:=r.wt_pos;omega
 | N+1,.mk op set kids mn mx md n neg,h,hN,hr=>by
   have hkl:=Re.wtL_len kids
   have hwt:1+set.length+Re.wtL kids=(Re.mk op set kids mn mx md n neg).wt:=by simp[Re.wt]
   obtain⟨hwk,hkd,hrp,_,ho1,ho2⟩:=whole_facts hr
   have ih:=fun k (hk:k∈kids)=>f72 caps top N k (by have:=Re.wtL_mem hk;omega) (by have:=Re.wtL_mem hk;omega) (hwk k hk)
   rw[show (.pt (reC (.mk op set kids mn mx md n neg)):AV)=.pt (nodeL op set kids mn mx md n neg) from congrArg AV.pt reC_mk]
   have key:∃ r,(∃ v:Int,(0≤v∧v≤4097)∧r=I v)∧∀ H,call Try.prog pol1 72 [.pt (nodeL op set kids mn mx md n neg)] H=some (r,H):=by
    refine call_runA Try.func72 rfl rfl rfl rfl rfl rfl (fun _=>rfl) (by simp[AV.plain,AV.plainL,plain_span,plain_kids]) ?_ ?_
    ·rintro _ ⟨v,_,rfl⟩;rfl
    have h75:=f75 op set kids mn mx md n neg
    simp +contextual (disch:=omega) only[Try.f72,dd72,go_sem,↓reduceIte,List.reduceReplicate,Nat.reduceAdd,Nat.reduceSub,reduceCtorEq,Nat.reduceLeDiff,Nat.reduceMul,Nat.reduceLT,Nat.reduceEqDiff,Int.reduceBNe,Int.reduceBEq,Int.reduceEq,Int.reduceLT,Int.reduceLE,Int.reduceGT,Int.reduceGE,mu72,Nat.reduceBEq,↓wrap_up,↓wrap_down,↓wrap_pred,↓wrap_sub_nat,Int.reduceToNat]
    refine W_for (M:=(mskOf (pol1.mask 72) (pol1.gc 72) (pol1.acts 72) 0 3)) rfl (fun s:Nat×Int=>(⟨91,[(14,I s.1),(13,I kids.length),(3,I s.2),(0,.pt (nodeL op set kids mn mx md n neg))],[]⟩:St)) (fun s=>s.1≤kids.length∧0≤s.2∧s.2≤4097) (fun s=>kids.length - s.1) (0,0) ?_ ⟨Nat.zero_le _,by omega,by omega⟩ _ (by first|rfl|(simp[keepT,AV.underL,AV.under,MB.under,underL_plain,under_plain,underL_append,plain_ints,plain_span,plain_ins,plain_prg,-List.map_take,-List.map_replicate,-List.map_set,plain_kids];done))
    rintro⟨i,v⟩ ⟨hi,hv1,hv2⟩
    simp only at hi hv1 hv2 ⊢
    by_cases hlt:i < kids.length
    ·obtain⟨k,hk⟩:∃ k,kids[i]?=some k:=⟨_,List.getElem?_eq_getElem hlt⟩
     obtain⟨u,hu,ihk⟩:=ih k (List.mem_of_getElem? hk)
     have hl8:=reC_len k
     have ht8:=reC_take k
     simp +contextual (disch:=omega) only[Try.f72,dd72,go_sem,↓reduceIte,List.reduceReplicate,Nat.reduceAdd,Nat.reduceSub,reduceCtorEq,Nat.reduceLeDiff,Nat.reduceMul,Nat.reduceLT,Nat.reduceEqDiff,Int.reduceBNe,Int.reduceBEq,Int.reduceEq,Int.reduceLT,Int.reduceLE,Int.reduceGT,Int.reduceGE,mu72,Nat.reduceBEq,↓wrap_up,↓wrap_down,↓wrap_pred,↓wrap_sub_nat,Int.reduceToNat,hk,ihk,hl8,ht8,evMin]
     refine⟨(i+1,if 4097 < v+u then 4097 else v+u),⟨by simp only[];omega,?_⟩,by simp only[];omega,rfl⟩
     simp only[]
     split<;>omega
    ·by_cases h4:op=4
     ·subst h4
      have hr:=hrp rfl
      simp only[repG,Bool.and_eq_true,Bool.or_eq_true,decide_eq_true_eq,beq_iff_eq]at hr
      cases hkp:keptX mn mx with
      | true=>
        rw[hkp]at h75
        simp +contextual (disch:=omega) only[Try.f72,dd72,go_sem,↓reduceIte,List.reduceReplicate,Nat.reduceAdd,Nat.reduceSub,reduceCtorEq,Nat.reduceLeDiff,Nat.reduceMul,Nat.reduceLT,Nat.reduceEqDiff,Int.reduceBNe,Int.reduceBEq,Int.reduceEq,Int.reduceLT,Int.reduceLE,Int.reduceGT,Int.reduceGE,mu72,Nat.reduceBEq,↓wrap_up,↓wrap_down,↓wrap_pred,↓wrap_sub_nat,Int.reduceToNat,h75,evMin]
        exact⟨_,⟨_,by split<;>omega,rfl⟩,_,rfl⟩
      | false=>
        rw[hkp]at h75
        have e1:(if 0 > mn then 0 else mn)=mn:=if_neg (by omega)
        have e2:(if 4097 < mn then 4097 else mn)=mn:=if_neg (by omega)
        have e3:(if 4097 < mx - mn then 4097 else mx - mn)=mx - mn:=if_neg (by omega)
        have p1:0≤mn * v∧mn * v≤1000 * 4097:=⟨Int.mul_nonneg (by omega) hv1,Int.mul_le_mul (by omega) hv2 hv1 (by omega)⟩
        have p2:mn < mx→0≤(mx - mn - 1) * (2+v)∧(mx - mn - 1) * (2+v)≤1000 * 4099:=fun _=>⟨Int.mul_nonneg (by omega) (by omega),Int.mul_le_mul (by omega) (by omega) (by omega) (by omega)⟩
        generalize hq:(mx - mn - 1) * (2+v)=q at *
        generalize hq1:mn * v=q1 at *
        simp +contextual (disch:=omega) only[Try.f72,dd72,go_sem,↓reduceIte,List.reduceReplicate,Nat.reduceAdd,Nat.reduceSub,reduceCtorEq,Nat.reduceLeDiff,Nat.reduceMul,Nat.reduceLT,Nat.reduceEqDiff,Int.reduceBNe,Int.reduceBEq,Int.reduceEq,Int.reduceLT,Int.reduceLE,Int.reduceGT,Int.reduceGE,mu72,Nat.reduceBEq,↓wrap_up,↓wrap_down,↓wrap_pred,↓wrap_sub_nat,Int.reduceToNat,h75,evMin,evMax,e1,e2,e3,hq,hq1]
        repeat' (first|intro _|apply And.intro|(unfold dOk;kernel_rfl)|exact St.beq_refl _|(show altO _ _ _ _=true;kernel_rfl)|(show (_ || _)=true;kernel_rfl)|(show (_ && _)=true;kernel_rfl))
        all_goals refine⟨_,⟨_,?_,rfl⟩,_,rfl⟩
        all_goals first
         | (split<;>omega)
         | (have:=p2 (by omega);split<;>omega)
     ·simp +contextual (disch:=omega) only[Try.f72,dd72,go_sem,↓reduceIte,List.reduceReplicate,Nat.reduceAdd,Nat.reduceSub,reduceCtorEq,Nat.reduceLeDiff,Nat.reduceMul,Nat.reduceLT,Nat.reduceEqDiff,Int.reduceBNe,Int.reduceBEq,Int.reduceEq,Int.reduceLT,Int.reduceLE,Int.reduceGT,Int.reduceGE,mu72,Nat.reduceBEq,↓wrap_up,↓wrap_down,↓wrap_pred,↓wrap_sub_nat,Int.reduceToNat,h4,evMin]
      exact⟨_,⟨_,by split<;>omega,rfl⟩,_,rfl⟩
   obtain⟨_,⟨v,hv,rfl⟩,h⟩:=key
   exact⟨v,hv,h⟩
theorem f124 (x:Re) (most mode:Int) (H:List MB):call Try.prog pol1 124 [reAV x,I most,I mode] H=some (reAV (repX x most mode),H):=by
 refine call_run Try.func124 rfl rfl rfl rfl rfl rfl (fun _=>rfl) (by simp[AV.plainL,AV.plain,plain_reC]) (plain_re _) ?_ H
 simp +contextual (disch:=omega) only[Try.f124,dd124,go_sem,↓reduceIte,List.reduceReplicate,Nat.reduceAdd,Nat.reduceSub,reduceCtorEq,Nat.reduceLeDiff,Nat.reduceMul,Nat.reduceLT,Nat.reduceEqDiff,Int.reduceBNe,Int.reduceBEq,Int.reduceEq,Int.reduceLT,Int.reduceLE,Int.reduceGT,Int.reduceGE,mu124,Nat.reduceBEq,↓wrap_up,↓wrap_down,↓wrap_pred,↓wrap_sub_nat,Int.reduceToNat,reC_len,reC_ok,reC_take]
 exact⟨_,fz_node true true 4 [] [x] 0 most mode 0 false _⟩
theorem f125 (l:List Re) (H:List MB):call Try.prog pol1 125 [.sl false (l.map reAV)] H=some (reAV (joinX l),H):=by
 refine call_run Try.func125 rfl rfl rfl rfl rfl rfl (fun _=>rfl) (by simp[AV.plainL,AV.plain,plain_kids]) (plain_re _) ?_ H
 unfold joinX
 split
 ·rename_i a
  simp +contextual (disch:=omega) only[Try.f125,dd125,go_sem,↓reduceIte,List.reduceReplicate,Nat.reduceAdd,Nat.reduceSub,reduceCtorEq,Nat.reduceLeDiff,Nat.reduceMul,Nat.reduceLT,Nat.reduceEqDiff,Int.reduceBNe,Int.reduceBEq,Int.reduceEq,Int.reduceLT,Int.reduceLE,Int.reduceGT,Int.reduceGE,mu125,Nat.reduceBEq,↓wrap_up,↓wrap_down,↓wrap_pred,↓wrap_sub_nat,Int.reduceToNat,reC_len,reC_ok,reC_take]
  exact⟨_,fz_plain _ (plain_re a)⟩
 ·rename_i hne
  have hl:l.length≠1:=fun e=>by
   obtain⟨a,rfl⟩:=List.length_eq_one_iff.1 e
   exact hne a rfl
  simp +contextual (disch:=omega) only[Try.f125,dd125,go_sem,↓reduceIte,List.reduceReplicate,Nat.reduceAdd,Nat.reduceSub,reduceCtorEq,Nat.reduceLeDiff,Nat.reduceMul,Nat.reduceLT,Nat.reduceEqDiff,Int.reduceBNe,Int.reduceBEq,Int.reduceEq,Int.reduceLT,Int.reduceLE,Int.reduceGT,Int.reduceGE,mu125,Nat.reduceBEq,↓wrap_up,↓wrap_down,↓wrap_pred,↓wrap_sub_nat,Int.reduceToNat,reC_len,reC_ok,reC_take]
  rw[show reAV (.mk 2 [] l 0 0 0 0 false)=.agg (nodeL 2 [] l 0 0 0 0 false) from congrArg AV.agg reC_mk]
  exact⟨_,fz_node true false 2 [] l 0 0 0 0 false _⟩
end
section
open Go.Proofs Go.RowKit Go.IntWalk
set_option maxRecDepth 100000
set_option linter.unusedSimpArgs false
set_option linter.unusedVariables false
set_option maxHeartbeats 8000000
theorem f125b (b0 b1:MB) (l:List Re) (n:Nat) (hn:l.length=n) (K:List MB):call Try.prog pol1 125 [.ms 2 8 n 0 n] (b0::b1::.row 8 (l.map reAV) 0::K)=some (reAV (joinX l),b0::b1::.row 8 (l.map reAV) n::K):=by
 have hz:fz (.ms 2 8 n 0 n) (b0::b1::.row 8 (l.map reAV) 0::K)=some (.sl false (l.map reAV),b0::b1::.row 8 (l.map reAV) n::K):=by
  rw[fz_row (k:=8) (z:=0) (els:=l.map reAV) rfl (by rw[List.length_map];exact hn) (plain_kids l)]
  simp[mark,getRow]
 rw[call_frz' (l:=[.sl false (l.map reAV)]) (H1:=b0::b1::.row 8 (l.map reAV) n::K) rfl ?_ (by simp[AV.plainL,AV.plain,plain_kids])]
 ·exact f125 l _
 ·have hby:∀ i,pol1.byref 125 i=false:=fun i=>rfl
  simp only[frzArgs,hby,Bool.false_eq_true,if_false,hz]
theorem f125c (b0 b1:MB) (l:List Re) (y:Re) (n:Nat) (hn:l.length+1=n) (K:List MB):call Try.prog pol1 125 [.ms 2 8 n 0 n] (b0::b1::.row 8 (l.map reAV++[reAV y]) 0::K)=some (reAV (joinX (l++[y])),b0::b1::.row 8 (l.map reAV++[reAV y]) n::K):=by
 have h:=f125b b0 b1 (l++[y]) n (by simp;exact hn) K
 rwa [List.map_append]at h
theorem f125t (x y:Re) (H:List MB):call Try.prog pol1 125 [.sl true [reAV x,reAV y]] H=some (reAV (joinX [x,y]),H):=by
 have hp:AV.plainL [reAV x,reAV y]=true:=plain_kids [x,y]
 rw[call_frz' (l:=[.sl false [reAV x,reAV y]]) (H1:=H) rfl ?_ (by simp[AV.plainL,AV.plain,plain_reC])]
 ·exact f125 [x,y] H
 ·have hby:∀ i,pol1.byref 125 i=false:=fun i=>rfl
  have hz:fz (.sl true [reAV x,reAV y]) H=some (.sl false [reAV x,reAV y],H):=fzA_slp _ _ _ hp
  simp only[frzArgs,hby,Bool.false_eq_true,if_false,hz]
theorem f76 (op:Int) (set:List (Int×Int)) (kids:List Re) (mn mx md n:Int) (neg:Bool) (x:Re) (hx:x.wt≤1000000) (hr:repG mn mx md=true) (H:List MB) :
  call Try.prog pol1 76 [.pt (nodeL op set kids mn mx md n neg),reAV x] H=some (reAV (joinX (partsX x mn mx md)),H):=by
 simp only[repG,Bool.and_eq_true,Bool.or_eq_true,decide_eq_true_eq,beq_iff_eq]at hr
 have h74:=f74 x hx
 have hl8:=reC_len x
 have hk8:=reC_ok x
 have ht8:=reC_take x
 refine call_run Try.func76 rfl rfl rfl rfl rfl rfl (fun _=>rfl) (by simp[AV.plain,AV.plainL,plain_span,plain_kids,plain_reC]) (plain_re _) ?_ H
 obtain⟨m,hm⟩:∃ m:Nat,mn=m:=⟨mn.toNat,by omega⟩
 subst hm
 simp +contextual (disch:=omega) only[Try.f76,dd76,go_sem,↓reduceIte,List.reduceReplicate,Nat.reduceAdd,Nat.reduceSub,reduceCtorEq,Nat.reduceLeDiff,Nat.reduceMul,Nat.reduceLT,Nat.reduceEqDiff,Int.reduceBNe,Int.reduceBEq,Int.reduceEq,Int.reduceLT,Int.reduceLE,Int.reduceGT,Int.reduceGE,mu76,Nat.reduceBEq,↓wrap_up,↓wrap_down,↓wrap_pred,↓wrap_sub_nat,Int.reduceToNat,hl8,hk8,ht8]
 refine W_count (M:=(mskOf (pol1.mask 76) (pol1.gc 76) (pol1.acts 76) 0 3)) rfl m (fun i=>(⟨79,[(11,I i),(10,I m),(5,.ms 2 8 i 0 i),(4,.rf 1 1 0 0),(3,.rf 0 1 0 0),(0,.pt (nodeL op set kids m mx md n neg))],[.row 8 [reAV x] 0,.row 8 [.agg [I 0,.sl true [],.sl true [],I 0,I 0,I 0,I 0,.bool false]] 0,.row 8 ((List.replicate i x).map reAV) 0]⟩:St)) (fun _=>True) ?_ ?_ trivial _ ?_
 ·intro i hi _
  have hli:(List.replicate i x).length=i:=by simp
  have hnx:List.replicate (i+1) x=List.replicate i x++[x]:=List.replicate_succ'
  rw[hnx]
  generalize List.replicate i x=ks at *
  have htk:=take_map_len (f:=reAV) hli
  simp +contextual (disch:=omega) only[Try.f76,dd76,go_sem,↓reduceIte,List.reduceReplicate,Nat.reduceAdd,Nat.reduceSub,reduceCtorEq,Nat.reduceLeDiff,Nat.reduceMul,Nat.reduceLT,Nat.reduceEqDiff,Int.reduceBNe,Int.reduceBEq,Int.reduceEq,Int.reduceLT,Int.reduceLE,Int.reduceGT,Int.reduceGE,mu76,Nat.reduceBEq,↓wrap_up,↓wrap_down,↓wrap_pred,↓wrap_sub_nat,Int.reduceToNat,h74,hl8,hk8,ht8,hli,htk]
  refine prep_to (n:=3) (m:=⟨some [11,10,5,4,3,0],some 3,[]⟩) rfl rfl ?_ ?_ ?_<;>simp[keepT,AV.underL,AV.under,MB.under,underL_plain,under_plain,underL_append,plain_span,plain_kids,plain_reC]
 ·intro _
  have hli:(List.replicate m x).length=m:=by simp
  unfold partsX
  simp only[Int.toNat_natCast]
  generalize List.replicate m x=ks at *
  have htk:=take_map_len (f:=reAV) hli
  by_cases h1:mx = -1
  ·have h124:=f124 x (-1) md
   rw[if_pos h1]
   simp +contextual (disch:=omega) only[Try.f76,dd76,go_sem,↓reduceIte,List.reduceReplicate,Nat.reduceAdd,Nat.reduceSub,reduceCtorEq,Nat.reduceLeDiff,Nat.reduceMul,Nat.reduceLT,Nat.reduceEqDiff,Int.reduceBNe,Int.reduceBEq,Int.reduceEq,Int.reduceLT,Int.reduceLE,Int.reduceGT,Int.reduceGE,mu76,Nat.reduceBEq,↓wrap_up,↓wrap_down,↓wrap_pred,↓wrap_sub_nat,Int.reduceToNat,h1,h74,h124,reC_len,reC_ok,reC_take,hli,htk,fun b0 b1=>f125c b0 b1 ks (repX x (-1) md) (m+1) (by omega)]
   repeat' (first|intro _|apply And.intro|(unfold dOk;kernel_rfl)|exact St.beq_refl _|(show altO _ _ _ _=true;kernel_rfl)|(show (_ || _)=true;kernel_rfl)|(show (_ && _)=true;kernel_rfl))
   exact⟨_,fz_plain _ (plain_re _)⟩
  ·rw[if_neg h1]
   by_cases h2:(m:Int) < mx
   ·rw[if_pos h2]
    have h124:=fun x=>f124 x 1 md
    have a74:=fun H=>evAlone_of h74 (by simp[AV.underL,AV.under,underL_plain,plain_reC]) (under_plain _ _ (plain_re x)) H
    have a124:=fun x H=>evAlone_of (h124 x) (by simp[AV.underL,AV.under,underL_plain,plain_reC]) (under_plain _ _ (plain_re _)) H
    obtain⟨c,hc⟩:∃ c:Nat,(mx - m - 1).toNat=c∧mx - m - 1=c:=⟨_,rfl,by omega⟩
    rw[hc.1]
    simp +contextual (disch:=omega) only[Try.f76,dd76,go_sem,↓reduceIte,List.reduceReplicate,Nat.reduceAdd,Nat.reduceSub,reduceCtorEq,Nat.reduceLeDiff,Nat.reduceMul,Nat.reduceLT,Nat.reduceEqDiff,Int.reduceBNe,Int.reduceBEq,Int.reduceEq,Int.reduceLT,Int.reduceLE,Int.reduceGT,Int.reduceGE,mu76,Nat.reduceBEq,↓wrap_up,↓wrap_down,↓wrap_pred,↓wrap_sub_nat,Int.reduceToNat,h1,h74,h124,a74,a124,reC_len,reC_ok,reC_take,hli,htk,hc.2]
    repeat' (first|intro _|apply And.intro|(unfold dOk;kernel_rfl)|exact St.beq_refl _|(show altO _ _ _ _=true;kernel_rfl)|(show (_ || _)=true;kernel_rfl)|(show (_ && _)=true;kernel_rfl))
    refine W_count (M:=(mskOf (pol1.mask 76) (pol1.gc 76) (pol1.acts 76) 0 11)) rfl c (fun j=>(⟨79,[(60,I j),(59,I c),(6,.rf 3 1 0 0),(5,.ms 2 8 m 0 m),(4,.rf 1 1 0 0),(3,.rf 0 1 0 0),(0,.pt (nodeL op set kids m mx md n neg))],[.row 8 [reAV x] 0,.row 8 [.agg [I 0,.sl true [],.sl true [],I 0,I 0,I 0,I 0,.bool false]] 0,.row 8 (ks.map reAV) 0,.row 8 [reAV (restX x md j)] 0]⟩:St)) (fun _=>True) ?_ ?_ trivial _ ?_
    ·intro j hj _
     have h125:=f125t x (restX x md j)
     simp +contextual (disch:=omega) only[Try.f76,dd76,go_sem,↓reduceIte,List.reduceReplicate,Nat.reduceAdd,Nat.reduceSub,reduceCtorEq,Nat.reduceLeDiff,Nat.reduceMul,Nat.reduceLT,Nat.reduceEqDiff,Int.reduceBNe,Int.reduceBEq,Int.reduceEq,Int.reduceLT,Int.reduceLE,Int.reduceGT,Int.reduceGE,mu76,Nat.reduceBEq,↓wrap_up,↓wrap_down,↓wrap_pred,↓wrap_sub_nat,Int.reduceToNat,h74,h124,h125,reC_len,reC_ok,reC_take,reC_drop]
     repeat' (first|intro _|apply And.intro|(unfold dOk;kernel_rfl)|exact St.beq_refl _|(show altO _ _ _ _=true;kernel_rfl)|(show (_ || _)=true;kernel_rfl)|(show (_ && _)=true;kernel_rfl))
     rfl
    ·intro _
     simp +contextual (disch:=omega) only[Try.f76,dd76,go_sem,↓reduceIte,List.reduceReplicate,Nat.reduceAdd,Nat.reduceSub,reduceCtorEq,Nat.reduceLeDiff,Nat.reduceMul,Nat.reduceLT,Nat.reduceEqDiff,Int.reduceBNe,Int.reduceBEq,Int.reduceEq,Int.reduceLT,Int.reduceLE,Int.reduceGT,Int.reduceGE,mu76,Nat.reduceBEq,↓wrap_up,↓wrap_down,↓wrap_pred,↓wrap_sub_nat,Int.reduceToNat,reC_len,reC_ok,reC_take,hli,htk,fun b0 b1=>f125c b0 b1 ks (restX x md c) (m+1) (by omega)]
     repeat' (first|intro _|apply And.intro|(unfold dOk;kernel_rfl)|exact St.beq_refl _|(show altO _ _ _ _=true;kernel_rfl)|(show (_ || _)=true;kernel_rfl)|(show (_ && _)=true;kernel_rfl))
     exact⟨_,fz_plain _ (plain_re _)⟩
    ·rfl
   ·rw[if_neg h2,List.append_nil]
    simp +contextual (disch:=omega) only[Try.f76,dd76,go_sem,↓reduceIte,List.reduceReplicate,Nat.reduceAdd,Nat.reduceSub,reduceCtorEq,Nat.reduceLeDiff,Nat.reduceMul,Nat.reduceLT,Nat.reduceEqDiff,Int.reduceBNe,Int.reduceBEq,Int.reduceEq,Int.reduceLT,Int.reduceLE,Int.reduceGT,Int.reduceGE,mu76,Nat.reduceBEq,↓wrap_up,↓wrap_down,↓wrap_pred,↓wrap_sub_nat,Int.reduceToNat,h1,h74,reC_len,reC_ok,reC_take,hli,htk,fun b0 b1=>f125b b0 b1 ks m hli]
    repeat' (first|intro _|apply And.intro|(unfold dOk;kernel_rfl)|exact St.beq_refl _|(show altO _ _ _ _=true;kernel_rfl)|(show (_ || _)=true;kernel_rfl)|(show (_ && _)=true;kernel_rfl))
    exact⟨_,fz_plain _ (plain_re _)⟩
 ·refine prep_to (n:=3) (m:=⟨some [11,10,5,4,3,0],some 3,[]⟩) rfl rfl ?_ ?_ ?_<;>simp[keepT,AV.underL,AV.under,MB.under,underL_plain,under_plain,underL_append,plain_span,plain_kids,plain_reC]
end
end Go.Ev
