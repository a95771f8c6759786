/- Functions of the program, each with what it computes; no further conditions. -/
import Derived.Test.YtmfpcondongbjaaGreatA16
import Derived.Test.YtmfpcondongbjaaGreatA18
import Derived.Test.YtmfpcondongbjaaGreatA07
set_option linter.unusedVariables false
set_option linter.unusedSimpArgs false
namespace Go.Ev
mutual
def noPoss:Re→Bool
 | .mk op set kids mn mx md n neg=>decide (md≠2) && noPossL kids
def noPossL:List Re→Bool
 | []=>true
 | k::ks=>noPoss k && noPossL ks
end
theorem zF9:∀ l:List Re,noPossL l=true↔∀ k∈l,noPoss k=true
 | []=>by simp[noPossL]
 | k::ks=>by simp[noPossL,zF9 ks]
structure RGood (caps top:Int) (r:Re):Prop where
 good:GoodC caps top r
 np:noPoss r=true
 sz:r.size≤256
theorem Re.sizeL_mem:∀ {l:List Re} {k:Re},k∈l→k.size≤Re.sizeL l
 | x::l,k,h=>by
   rcases List.mem_cons.1 h with e|e
   ·rw[e];simp[Re.sizeL]
   ·have:=Re.sizeL_mem e
    simp[Re.sizeL];omega
theorem Re.sizeL_len:∀ l:List Re,l.length≤Re.sizeL l
 | []=>Nat.le_refl _
 | k::ks=>by
   have:=Re.size_pos k
   have:=Re.sizeL_len ks
   simp[Re.sizeL];omega
theorem RGood.kids {caps top:Int} {r:Re} (h:RGood caps top r):∀ k∈r.kids,RGood caps top k:=by
 obtain⟨op,set,kids,mn,mx,md,n,neg⟩:=r
 intro k hk
 have h1:=h.np
 have h2:=h.sz
 rw[noPoss,Bool.and_eq_true,zF9]at h1
 have:=Re.sizeL_mem hk
 simp only[Re.size,Re.kids]at h2 this
 exact⟨h.good.kids k hk,h1.2 k hk,by omega⟩
theorem RGood.len {caps top:Int} {r:Re} (h:RGood caps top r):r.kids.length≤255:=by
 obtain⟨op,set,kids,mn,mx,md,n,neg⟩:=r
 have h2:=h.sz
 have:=Re.sizeL_len kids
 simp only[Re.size,Re.kids]at h2 ⊢
 omega
theorem RGood.md {caps top:Int} {r:Re} (h:RGood caps top r):r.md≠2:=by
 obtain⟨op,set,kids,mn,mx,md,n,neg⟩:=r
 have h1:=h.np
 rw[noPoss,Bool.and_eq_true,decide_eq_true_eq]at h1
 exact h1.1
def GG (caps top:Int) (L:Int) (steps:Int):Goal→Prop
 | .nil=>True
 | .mk kind re k fr next=>RGood caps top re∧(kind=0∨(kind=1∧re.op=4∧0≤k∧k≤steps)∨(kind=2∧re.op=4∧0≤k∧k < steps)∨(kind=3∧re.op=5))∧(0≤fr∧fr≤L)∧GG caps top L steps next
theorem GG.mono {caps top L a b:Int} (hab:a≤b):∀ {g:Goal},GG caps top L a g→GG caps top L b g
 | .nil,_=>trivial
 | .mk kind re k fr next,h=>⟨h.1,by rcases h.2.1 with h|h|h|h<;>omega,h.2.2.1,h.2.2.2.mono hab⟩
theorem GG.cat {caps top L a:Int} (hL:0≤L) {next:Goal} (hn:GG caps top L a next):∀ {l:List Re},(∀ k∈l,RGood caps top k)→GG caps top L a (catG next l)
 | [],_=>hn
 | k::ks,h=>⟨h k (by simp),.inl rfl,⟨Int.le_refl _,hL⟩,GG.cat hL hn (fun q hq=>h q (by simp[hq]))⟩
structure SPre (fuel:Int) (s:SS):Prop where
 ne:s.empty=false
 st:0≤s.steps∧s.steps≤fuel
 cl:s.caps.length=s.ends.length
 el:(s.ends.length:Int)≤256 * s.steps
structure SPost (fuel:Int) (s:SS) (b:Bool) (s':SS):Prop where
 st:s.steps≤s'.steps
 eb:b=s'.empty
 fu:b=false→s'.steps≤fuel
 cl:s'.caps.length=s'.ends.length
 el:(s'.ends.length:Int)≤s.ends.length+1+256 * (s'.steps - s.steps)
def RunP (caps top:Int) (t:List Int) (fuel:Int) (R:RunT):Prop:=
 ∀(g:Goal) (i:Int) (c:Caps) (s:SS) (b:Bool) (s':SS),GG caps top t.length s.steps g→0≤i→i≤t.length→c.length≤1000→SPre fuel s→R g i c s=some (b,s')→SPost fuel s b s'
variable {caps top:Int} {t:List Int} {fuel:Int}
theorem SPost.none {s:SS} (h:SPre fuel s):SPost fuel s false s:=⟨Int.le_refl _,h.ne.symm,fun _=>h.st.2,h.cl,by omega⟩
theorem zCy {s:SS} (h:SPre fuel s) (he:(stepSz fuel s).empty=false):SPre fuel (stepSz fuel s)∧((stepSz fuel s).ends.length:Int)≤256 * (stepSz fuel s).steps - 256:=by
 have h1:=h.st
 have h2:=h.el
 simp only[stepSz,h.ne,Bool.false_or,decide_eq_false_iff_not]at he
 exact⟨⟨by simp[stepSz,h.ne];omega,⟨by simp only[stepSz];omega,by simp only[stepSz];omega⟩,h.cl,by simp only[stepSz];omega⟩,by simp only[stepSz];omega⟩
theorem step_true {s:SS} (h:SPre fuel s) (he:(stepSz fuel s).empty=true):SPost fuel s true (stepSz fuel s):=
 ⟨by simp only[stepSz];omega,he.symm,fun e=>(by cases e),h.cl,by simp only[stepSz];omega⟩
theorem SPost.after {s s1 s':SS} {b:Bool} (h1:s1=stepSz fuel s) (h:SPost fuel s1 b s'):SPost fuel s b s':=by
 subst h1
 have a:=h.st
 have e:=h.el
 simp only[stepSz]at a e
 exact⟨by omega,h.eb,h.fu,h.cl,by omega⟩
theorem SPost.pre {s s2:SS} (hp:SPre fuel s) (hx:(s.ends.length:Int)≤256 * s.steps - 256) (h:SPost fuel s false s2):SPre fuel s2:=by
 have a:=h.st
 have e:=h.el
 have f:=h.fu rfl
 have p:=hp.st
 exact⟨h.eb.symm,⟨by omega,f⟩,h.cl,by omega⟩
theorem SPost.trans {s s2 s':SS} {b:Bool} (h1:SPost fuel s false s2) (h2:SPost fuel s2 b s'):s.steps≤s'.steps∧b=s'.empty∧(b=false→s'.steps≤fuel)∧s'.caps.length=s'.ends.length∧(s'.ends.length:Int)≤s.ends.length+2+256 * (s'.steps - s.steps):=by
 have a:=h1.st
 have b':=h2.st
 have c:=h1.el
 have d:=h2.el
 exact⟨by omega,h2.eb,h2.fu,h2.cl,by omega⟩
theorem rep_kid {re:Re} (h:RGood caps top re) (ho:re.op=4):∃ kid,re.kids=[kid]∧RGood caps top kid:=by
 obtain⟨op,set,kids,mn,mx,md,n,neg⟩:=re
 simp only[Re.op]at ho
 subst ho
 have hk:=(zAy h.good.whole).2.1
 obtain⟨k,rfl⟩:∃ k,kids=[k]:=List.length_eq_one_iff.1 (by simpa [kidsG] using hk)
 exact⟨k,rfl,h.kids k (by simp[Re.kids])⟩
theorem cap_kid {re:Re} (h:RGood caps top re) (ho:re.op=5):∃ kid,re.kids=[kid]∧RGood caps top kid:=by
 obtain⟨op,set,kids,mn,mx,md,n,neg⟩:=re
 simp only[Re.op]at ho
 subst ho
 have hk:=(zAy h.good.whole).2.1
 obtain⟨k,rfl⟩:∃ k,kids=[k]:=List.length_eq_one_iff.1 (by simpa [kidsG] using hk)
 exact⟨k,rfl,h.kids k (by simp[Re.kids])⟩
theorem zF8 {re kid:Re} {next:Goal} {k i L steps:Int} (h:RGood caps top re) (hk:RGood caps top kid) (ho:re.op=4) (h0:0≤k∧k < steps) (hi:0≤i∧i≤L) (hn:GG caps top L steps next) :
 GG caps top L steps (.mk 0 kid 0 0 (.mk 2 re k i next)):=⟨hk,.inl rfl,⟨Int.le_refl _,by omega⟩,h,.inr (.inr (.inl ⟨rfl,ho,h0.1,h0.2⟩)),hi,hn⟩
theorem rep_post {R:RunT} (hR:RunP caps top t fuel R) {re:Re} {k i:Int} {next:Goal} {c:Caps} {s s':SS} {b:Bool} (h:RGood caps top re) (ho:re.op=4) (hk:0≤k∧k≤s.steps) (hi:0≤i∧i≤t.length)
  (hn:GG caps top t.length s.steps next) (hc:c.length≤1000) (hs:SPre fuel s) (he:repR fuel R re k next i c s=some (b,s')):SPost fuel s b s':=by
 unfold repR at he
 simp only at he
 by_cases h1:(stepSz fuel s).empty=true
 ·rw[if_pos h1]at he
  simp only[Option.some.injEq,Prod.mk.injEq]at he
  obtain⟨rfl,rfl⟩:=he
  exact step_true hs h1
 ·rw[if_neg h1]at he
  have h1':(stepSz fuel s).empty=false:=by simpa using h1
  obtain⟨p1,p2⟩:=zCy hs h1'
  obtain⟨kid,hkid,hgk⟩:=rep_kid h ho
  rw[hkid]at he
  simp only at he
  have hst:(stepSz fuel s).steps=s.steps+1:=rfl
  have hen:(stepSz fuel s).ends.length=s.ends.length:=rfl
  have hn1:=hn.mono (show s.steps≤(stepSz fuel s).steps by omega)
  have hon:=zF8 (next:=next) (i:=i) (L:=t.length) (steps:=(stepSz fuel s).steps) h hgk ho (k:=k) ⟨hk.1,by omega⟩ hi hn1
  have A:∀ b s',R (.mk 0 kid 0 0 (.mk 2 re k i next)) i c (stepSz fuel s)=some (b,s')→SPost fuel (stepSz fuel s) b s':=fun b s' e=>hR _ _ _ _ _ _ hon hi.1 hi.2 hc p1 e
  have B:∀ b s',R next i c (stepSz fuel s)=some (b,s')→SPost fuel (stepSz fuel s) b s':=fun b s' e=>hR _ _ _ _ _ _ hn1 hi.1 hi.2 hc p1 e
  have two:∀(g:Goal) (s2:SS) (b:Bool) (s':SS),GG caps top t.length (stepSz fuel s).steps g→SPost fuel (stepSz fuel s) false s2→R g i c s2=some (b,s')→SPost fuel s b s':=by
   intro g s2 b s' hg q e
   have p3:=q.pre p1 p2
   have q2:=hR _ _ _ _ _ _ (hg.mono q.st) hi.1 hi.2 hc p3 e
   obtain⟨a1,a2,a3,a4,a5⟩:=q.trans q2
   exact⟨by omega,a2,a3,a4,by omega⟩
  split at he
  ·exact(A _ _ he).after rfl
  ·split at he
   ·unfold orR at he
    split at he
    ·cases he
    ·rename_i s2 e2
     simp only[Option.some.injEq,Prod.mk.injEq]at he
     obtain⟨rfl,rfl⟩:=he
     exact(B _ _ e2).after rfl
    ·rename_i s2 e2
     split at he
     ·exact two _ _ _ _ hon (B _ _ e2) he
     ·simp only[Option.some.injEq,Prod.mk.injEq]at he
      obtain⟨rfl,rfl⟩:=he
      exact(B _ _ e2).after rfl
   ·unfold orR at he
    split at he
    ·cases he
    ·rename_i s2 e2
     simp only[Option.some.injEq,Prod.mk.injEq]at he
     obtain⟨rfl,rfl⟩:=he
     split at e2
     ·exact(A _ _ e2).after rfl
     ·cases e2
    ·rename_i s2 e2
     split at e2
     ·exact two _ _ _ _ hn1 (A _ _ e2) he
     ·simp only[Option.some.injEq,Prod.mk.injEq,true_and]at e2
      subst e2
      exact(B _ _ he).after rfl
theorem alt_post {R:RunT} (hR:RunP caps top t fuel R) {next:Goal} {i:Int} {c:Caps} (hi:0≤i∧i≤t.length) (hc:c.length≤1000) :
  ∀(l:List Re) (s s':SS) (b:Bool),(∀ k∈l,RGood caps top k)→GG caps top t.length s.steps next→SPre fuel s→(s.ends.length:Int)+l.length≤256 * s.steps→altR R next i c l s=some (b,s') →
   s.steps≤s'.steps∧b=s'.empty∧(b=false→s'.steps≤fuel)∧s'.caps.length=s'.ends.length∧(s'.ends.length:Int)≤s.ends.length+l.length+256 * (s'.steps - s.steps)
 | [],s,s',b,_,_,hs,_,he=>by
   simp only[altR,Option.some.injEq,Prod.mk.injEq]at he
   obtain⟨rfl,rfl⟩:=he
   exact⟨Int.le_refl _,hs.ne.symm,fun _=>hs.st.2,hs.cl,by simp⟩
 | k::ks,s,s',b,hg,hn,hs,hx,he=>by
   simp only[altR]at he
   unfold orR at he
   have A:∀ b s',R (.mk 0 k 0 0 next) i c s=some (b,s')→SPost fuel s b s':=fun b s' e=>
    hR (.mk 0 k 0 0 next) _ _ _ _ _ ⟨hg k (by simp),.inl rfl,⟨Int.le_refl _,by omega⟩,hn⟩ hi.1 hi.2 hc hs e
   simp only[List.length_cons]at hx ⊢
   split at he
   ·cases he
   ·rename_i s2 e2
    simp only[Option.some.injEq,Prod.mk.injEq]at he
    obtain⟨rfl,rfl⟩:=he
    have q:=A _ _ e2
    have a:=q.el
    exact⟨q.st,q.eb,q.fu,q.cl,by omega⟩
   ·rename_i s2 e2
    have q:=A _ _ e2
    have a:=q.el
    have b1:=q.st
    have f:=q.fu rfl
    have p0:=hs.st
    obtain⟨r1,r2,r3,r4,r5⟩:=alt_post hR hi hc ks s2 s' b (fun x hx=>hg x (by simp[hx])) (hn.mono b1) ⟨q.eb.symm,⟨by omega,f⟩,q.cl,by omega⟩ (by omega) he
    exact⟨by omega,r2,r3,r4,by omega⟩
theorem node_post {R:RunT} (hR:RunP caps top t fuel R) {re:Re} {i:Int} {next:Goal} {c:Caps} {s s':SS} {b:Bool} (h:RGood caps top re) (hi:0≤i∧i≤t.length)
  (hn:GG caps top t.length s.steps next) (hc:c.length≤1000) (hs:SPre fuel s) (he:nodeR t fuel R re next i c s=some (b,s')):SPost fuel s b s':=by
 unfold nodeR at he
 split at he
 ·rename_i ho
  exact rep_post hR h ho ⟨Int.le_refl _,hs.st.1⟩ hi hn hc hs he
 ·simp only at he
  by_cases h1:(stepSz fuel s).empty=true
  ·rw[if_pos h1]at he
   simp only[Option.some.injEq,Prod.mk.injEq]at he
   obtain⟨rfl,rfl⟩:=he
   exact step_true hs h1
  ·rw[if_neg h1]at he
   have h1':(stepSz fuel s).empty=false:=by simpa using h1
   obtain⟨p1,p2⟩:=zCy hs h1'
   have hst:(stepSz fuel s).steps=s.steps+1:=rfl
   have hn1:=hn.mono (show s.steps≤(stepSz fuel s).steps by omega)
   have B:∀ b s',R next i c (stepSz fuel s)=some (b,s')→SPost fuel (stepSz fuel s) b s':=fun b s' e=>hR _ _ _ _ _ _ hn1 hi.1 hi.2 hc p1 e
   have Z:∀ b s',some (false,stepSz fuel s)=some (b,s')→SPost fuel (stepSz fuel s) b s':=fun b s' e=>by
    simp only[Option.some.injEq,Prod.mk.injEq]at e
    obtain⟨rfl,rfl⟩:=e
    exact SPost.none p1
   split at he
   ·split at he
    ·rename_i x hx
     have hlt:=(List.getElem?_eq_some_iff.1 hx).1
     split at he
     ·exact(hR _ _ _ _ _ _ hn1 (by omega) (by omega) hc p1 he).after rfl
     ·exact(Z _ _ he).after rfl
    ·exact(Z _ _ he).after rfl
   ·split at he
    ·exact(hR _ _ _ _ _ _ (GG.cat (by omega) hn1 h.kids) hi.1 hi.2 hc p1 he).after rfl
    ·split at he
     ·have hl:=h.len
      obtain⟨r1,r2,r3,r4,r5⟩:=alt_post hR hi hc _ _ _ _ h.kids hn1 p1 (by omega) he
      have hen:(stepSz fuel s).ends.length=s.ends.length:=rfl
      exact⟨by omega,r2,r3,r4,by omega⟩
     ·split at he
      ·rename_i ho
       obtain⟨kid,hkid,hgk⟩:=cap_kid h ho
       rw[hkid]at he
       simp only at he
       exact(hR (.mk 0 kid 0 0 (.mk 3 re 0 i next)) _ _ _ _ _ ⟨hgk,.inl rfl,⟨Int.le_refl _,by omega⟩,h,.inr (.inr (.inr ⟨rfl,ho⟩)),hi,hn1⟩ hi.1 hi.2 hc p1 he).after rfl
      ·split at he
       ·split at he
        ·exact(B _ _ he).after rfl
        ·exact(Z _ _ he).after rfl
       ·exact(B _ _ he).after rfl
theorem zHQ (c:Caps) (n a b:Int):(withI c n a b).length=c.length:=by
 unfold withI;split<;>simp
theorem zF2 (caps top:Int) (t:List Int) (fuel:Int):∀ d,RunP caps top t fuel (runG t fuel d)
 | 0=>fun g i c s b s' _ _ _ _ _ e=>by cases g<;>simp[runG]at e
 | d+1=>fun g i c s b s' hg h0 hL hc hs e=>by
   have ih:=zF2 caps top t fuel d
   cases g with
   | nil=>
     simp only[runG,Option.some.injEq,Prod.mk.injEq]at e
     obtain⟨rfl,rfl⟩:=e
     exact⟨Int.le_refl _,hs.ne.symm,fun _=>hs.st.2,by simp[hs.cl],by simp⟩
   | mk kind re k fr next=>
     obtain⟨g1,g2,g3,g4⟩:=hg
     simp only[runG]at e
     rcases g2 with rfl|⟨rfl,g2⟩|⟨rfl,g2⟩|⟨rfl,g2⟩
     ·rw[if_neg (by omega),if_neg (by omega),if_neg (by omega)]at e
      exact node_post ih g1 ⟨h0,hL⟩ g4 hc hs e
     ·rw[if_pos rfl]at e
      exact rep_post ih g1 g2.1 g2.2 ⟨h0,hL⟩ g4 hc hs e
     ·rw[if_neg (by omega),if_pos rfl]at e
      split at e
      ·simp only[Option.some.injEq,Prod.mk.injEq]at e
       obtain⟨rfl,rfl⟩:=e
       exact SPost.none hs
      ·exact ih (.mk 1 re (k+1) 0 next) _ _ _ _ _ ⟨g1,.inr (.inl ⟨rfl,g2.1,by omega,by omega⟩),⟨Int.le_refl _,by omega⟩,g4⟩ h0 hL hc hs e
     ·rw[if_neg (by omega),if_neg (by omega),if_pos rfl]at e
      exact ih _ _ _ _ _ _ g4 h0 hL (by rw[zHQ];exact hc) hs e
end Go.Ev
namespace Go.Ev
attribute [local go_sem] zAm evBin evBuild splice List.length_append
section
attribute [local go_sem] evAppend AV.cells List.map_append tySzE List.head?_drop Nat.mul_one zAO zAT zAN zAP zAQ zAZ
open Go.Proofs Go.RowKit Go.IntWalk
set_option maxRecDepth 100000
set_option maxHeartbeats 8000000
theorem zHx {j:List AV→List MB→Option (List AV×List MB)} (l:List Ins):KeepL j (l.map insAV) (l.map insAV):=KeepL.plain (zAH l)
theorem own_ins {f id n:Nat} {els:List AV} {c:List Ins} {H:List MB} (hk:pol1.keep f=false) (ho:pol1.own f=true) (hr:getRow H id=some (5,els,0)) (hn:c.length=n) (hK:∀ j,KeepL j els (c.map insAV)) :
  retPol pol1 f [] (.ms id 5 n 0 n) H=some (.ms 0 5 n 0 n,[.row 5 (c.map insAV) 0]):=by
 have hl:=(hK (fun _ _=>none)).len
 rw[List.length_map]at hl
 exact retPol_own (els:=els) hk ho hr (by omega) ((hK _).fz H) hr (zAH c) (by simp[hn])
theorem own_end {f id n:Nat} {els xs:List AV} {c:List Ins} {H:List MB} (hk:pol1.keep f=false) (ho:pol1.own f=true) (hr:getRow H id=some (5,els,0)) (hn:c.length=n) (hx:xs=c.map insAV) (hK:∀ j,KeepL j els (c.map insAV)) :
 retPol pol1 f [] (.ms id 5 n 0 n) H=some (.ms 0 5 n 0 n,[.row 5 xs 0]):=hx ▸ own_ins hk ho hr hn hK
def copiesG (k:Re) (f i:Nat):List Ins:=(List.range i).flatMap fun i=>codeG k (f+i * lenG k)
theorem copies_succ (k:Re) (f i:Nat):copiesG k f (i+1)=copiesG k f i++codeG k (f+i * lenG k):=by
 simp[copiesG,List.range_succ,List.flatMap_append]
theorem copies_len {caps top:Int} {k:Re} (h:GoodC caps top k) (f i:Nat):(copiesG k f i).length=i * lenG k:=zD7 _ _ _ (fun i _=>zBG caps top k _ h)
def optsG (md:Int) (k:Re) (p e i:Nat):List Ins:=(List.range i).flatMap fun j=>insSplit md ((p+j * (lenG k+1)+1:Nat):Int) (e:Nat)::codeG k (p+j * (lenG k+1)+1)
def restG (md:Int) (k:Re) (f m e i:Nat):List Ins:=copiesG k f m++optsG md k (f+m * lenG k) e i
end
section
attribute [local go_sem] evAppend AV.cells List.map_append tySzE List.head?_drop Nat.mul_one zAO zAT zAN zAP zAQ zAZ
open Go.Proofs Go.RowKit Go.IntWalk
set_option maxRecDepth 100000
set_option maxHeartbeats 8000000
theorem call_frz' {P:Program} {pol:Pol} {f:Nat} {args l:List AV} {H H1:List MB} (hp:pol.pure f=true) (h:frzArgs pol f 0 args H=some (l,H1)) (ha:AV.plainL l=true) :
  call P pol f args H=call P pol f l H1:=by
 have hf:∀(l:List AV) (i:Nat),AV.plainL l=true→frzArgs pol f i l H1=some (l,H1):=by
  intro l
  induction l with
  | nil=>intro i _;rfl
  | cons x l ih=>
    intro i h
    simp only[AV.plainL,Bool.and_eq_true]at h
    simp only[frzArgs,zAh H1 h.1,ih (i+1) h.2]
    split<;>simp_all
 rw[zBD,zBD]
 unfold evStep
 simp only[hp,if_true,h,hf l 0 ha]
theorem zEY:∀(a b:List Re) (f:Nat),codeCat (a++b) f=codeCat a f++codeCat b (f+lenL a)
 | [],b,f=>by simp[codeCat,lenL]
 | k::ks,b,f=>by simp[codeCat,lenL,zEY ks b,Nat.add_assoc]
theorem codeCat_take {l:List Re} {i:Nat} {k:Re} (h:l[i]?=some k) (f:Nat):codeCat (l.take (i+1)) f=codeCat (l.take i) f++codeG k (f+lenL (l.take i)):=by
 rw[List.take_add_one,h,zEY];simp[codeCat]
theorem zFW:∀(l:List Re) (i:Nat),lenL (l.take i)≤lenL l:=fun l i=>by
 have:=zEh (l.take i) (l.drop i)
 rw[List.take_append_drop]at this
 omega
end
section
attribute [local go_sem] evAppend AV.cells List.map_append
open Go.Proofs Go.RowKit Go.IntWalk
set_option maxRecDepth 100000
set_option maxHeartbeats 4000000
theorem zG9 {j:List AV→List MB→Option (List AV×List MB)} (ys:List AV):∀(xs:List AV) (H:List MB),fzL j (xs++ys) H=(match fzL j xs H with
  | some (a,H1)=>(match fzL j ys H1 with
    | some (b,H2)=>some (a++b,H2)
    | none=>none)
  | none=>none)
 | [],H=>by
   simp only[List.nil_append,fzL]
   cases fzL j ys H with
   | none=>rfl
   | some q=>rfl
 | x::xs,H=>by
   simp only[List.cons_append,fzL]
   cases fzA j x H with
   | none=>rfl
   | some q=>
     simp only[zG9 ys xs q.2]
     cases fzL j xs q.2 with
     | none=>rfl
     | some q2=>
       simp only[]
       cases fzL j ys q2.2 with
       | none=>rfl
       | some q3=>rfl
end
section
attribute [local go_sem] evAppend List.map_append tySzE List.head?_drop Nat.mul_one zAO zAT zAN zAP zAQ zAZ
open Go.Proofs Go.RowKit Go.IntWalk
set_option maxRecDepth 100000
set_option maxHeartbeats 8000000
def Run138 (caps top:Int) (t:List Int) (fuel:Int) (R:RunT):Prop:=
 ∀(A K:List MB) (g:Goal) (i:Int) (c:Caps) (s:SS) (b:Bool) (s':SS),GG caps top t.length s.steps g→0≤i→i≤t.length→c.length≤1000→SPre fuel s→R g i c s=some (b,s') →
  call Tryz.prog pol1 118 [.rf A.length 1 0 0,goalA g,I i,capA c] (srH A t fuel s s.ends.length K)=some (.bool b,srH A t fuel s' s'.ends.length K)
theorem zGd {P:Program} {pol:Pol} {f:Nat} {args l:List AV} {H H1:List MB} (hp:pol.pure f=false) (he:pol.ext f=none) (h:frzArgs pol f 0 args H=some (l,H1)) (h2:frzArgs pol f 0 l H1=some (l,H1)) (hy:f≠yldF:=by decide) :
  call P pol f args H=call P pol f l H1:=by
 rw[zBD,zBD]
 unfold evStep
 simp only[hp,Bool.false_eq_true,if_false,if_neg hy]
 unfold evBody
 simp only[he,h,h2]
theorem box138 (A K:List MB) (t:List Int) (fuel:Int) (s:SS) (e:Nat) (cells:List AV) (i:Int) (c:Caps) (hp:AV.plainL cells=true) :
  call Tryz.prog pol1 118 [.rf A.length 1 0 0,.rf (A.length+(K.length+1+1+1)) 1 0 0,I i,capA c] (srH A t fuel s e (K++[.row 12 [.agg cells] 0])) =
   call Tryz.prog pol1 118 [.rf A.length 1 0 0,.pt cells,I i,capA c] (srH A t fuel s e (K++[.row 12 [.agg cells] 1])):=by
 refine zGd rfl rfl ?_ (zAR _ _ _ (by simp[mixOk,show pol1.byref 118 0=true from rfl,AV.plain,hp,zAG]))
 have h0:pol1.byref 118 0=true:=rfl
 have h1:pol1.byref 118 1=false:=rfl
 have h2:pol1.byref 118 2=false:=rfl
 have h3:pol1.byref 118 3=false:=rfl
 have hget:∀ v,(srH A t fuel s e (K++[v]))[A.length+(K.length+1+1+1)]?=some v:=fun v=>by
  rw[List.getElem?_append_right (by omega)];simp
 have hset:∀ u v,(srH A t fuel s e (K++[u])).set (A.length+(K.length+1+1+1)) v=srH A t fuel s e (K++[v]):=fun u v=>by
  rw[List.set_append_right _ _ (by omega)];simp
 have hz:=zGM (id:=A.length+(K.length+1+1+1)) (tot:=1) (i:=0) (j:=0) (k:=12) (z:=0) (H:=srH A t fuel s e (K++[.row 12 [.agg cells] 0])) (els:=[.agg cells]) (x:=.agg cells) (by unfold getRow;rw[hget]) rfl rfl hp
 have hm:mark (srH A t fuel s e (K++[.row 12 [.agg cells] 0])) (A.length+(K.length+1+1+1)) (0+1)=srH A t fuel s e (K++[.row 12 [.agg cells] 1]):=by
  unfold mark getRow
  simp only[hget,hset]
  rfl
 rw[hm]at hz
 have hc:∀ H,fz (capA c) H=some (capA c,H):=fun H=>zAh H (by simp[AV.plain,zAG])
 have hi:∀ H,fz (I i) H=some (I i,H):=fun H=>rfl
 simp only[frzArgs,h0,h1,h2,h3,Bool.false_eq_true,if_false,if_true,hz,hc,hi]
 rfl
theorem zBE {A K L:List MB} {t:List Int} {fuel:Int} {s:SS} {e:Nat}:srH A t fuel s e K++L=srH A t fuel s e (K++L):=by simp
theorem zA9 {A K L:List MB} {t:List Int} {fuel:Int} {s:SS} {e:Nat} {v:MB}:(srH A t fuel s e (K++v::L))[A.length+(K.length+1+1+1)]?=some v:=by
 rw[List.getElem?_append_right (by omega)];simp
theorem zBJ {A K L:List MB} {t:List Int} {fuel:Int} {s:SS} {e:Nat} {u v:MB}:(srH A t fuel s e (K++u::L)).set (A.length+(K.length+1+1+1)) v=srH A t fuel s e (K++v::L):=by
 rw[List.set_append_right _ _ (by omega)];simp
theorem zAk {A K L:List MB} {t:List Int} {fuel:Int} {s:SS} {e:Nat} {u v:MB}:(srH A t fuel s e (K++u::v::L))[A.length+(K.length+1+1+1+1)]?=some v:=by
 rw[List.getElem?_append_right (by omega)]
 rw[show A.length+(K.length+1+1+1+1) - A.length=(K.length+1)+1+1+1 by omega]
 simp only[List.getElem?_cons_succ]
 rw[List.getElem?_append_right (by omega)];simp
theorem zAn {A K L:List MB} {t:List Int} {fuel:Int} {s:SS} {e:Nat} {u v w:MB}:(srH A t fuel s e (K++u::v::L)).set (A.length+(K.length+1+1+1+1)) w=srH A t fuel s e (K++u::w::L):=by
 rw[List.set_append_right _ _ (by omega)]
 rw[show A.length+(K.length+1+1+1+1) - A.length=(K.length+1)+1+1+1 by omega]
 simp only[List.set_cons_succ]
 rw[List.set_append_right _ _ (by omega)];simp
theorem zAx {A K L L':List MB} {t:List Int} {fuel:Int} {s:SS} {e:Nat} {u:MB}:sameAt (A.length+(K.length+1+1+1)) (srH A t fuel s e (K++u::L)) (srH A t fuel s e (K++u::L'))=true:=by
 unfold sameAt
 rw[zA9,zA9]
 exact MB.beq_refl u
theorem fz_two {H H1 H2:List MB} {a b:Nat} {pre ca:List AV} (hb:getRow H b=some (12,[.agg (pre++[.rf a 1 0 0])],0)) (hm:mark H b 1=H1) (ha:getRow H1 a=some (12,[.agg ca],0)) (hm2:mark H1 a 1=H2)
  (hp:AV.plainL pre=true) (hc:AV.plainL ca=true):fz (.rf b 1 0 0) H=some (.pt (pre++[.pt ca]),H2):=by
 have hin:fzA (fzJ 5) (.rf a 1 0 0) H1=some (.pt ca,H2):=by
  simp only[fzA,ha,List.length_cons,List.length_nil,Nat.zero_add,if_true,List.getElem?_cons_zero,AV.cells,List.drop_zero,hm2,fzJ,zBU _ _ _ hc]
 have hl:fzL (fzJ 5) (pre++[.rf a 1 0 0]) H1=some (pre++[.pt ca],H2):=by
  rw[zG9,zBU _ _ _ hp]
  simp only[fzL,hin]
 simp only[fz,fzA,hb,List.length_cons,List.length_nil,Nat.zero_add,if_true,List.getElem?_cons_zero,AV.cells,List.drop_zero,hm]
 show (match fzL (fzJ 5) (pre++[AV.rf a 1 0 0]) H1 with|some (ys,H')=>some (AV.pt ys,H')|none=>none)=_
 rw[hl]
theorem zHX {A K L:List MB} {t:List Int} {fuel:Int} {s:SS} {e:Nat} {u v w:MB}:(srH A t fuel s e (K++u::v::w::L))[A.length+(K.length+2+1+1+1)]?=some w:=by
 rw[List.getElem?_append_right (by omega)]
 rw[show A.length+(K.length+2+1+1+1) - A.length=(K.length+2)+1+1+1 by omega]
 simp only[List.getElem?_cons_succ]
 rw[List.getElem?_append_right (by omega)];simp
theorem sr_set2 {A K L:List MB} {t:List Int} {fuel:Int} {s:SS} {e:Nat} {u v w x:MB}:(srH A t fuel s e (K++u::v::w::L)).set (A.length+(K.length+2+1+1+1)) x=srH A t fuel s e (K++u::v::x::L):=by
 rw[List.set_append_right _ _ (by omega)]
 rw[show A.length+(K.length+2+1+1+1) - A.length=(K.length+2)+1+1+1 by omega]
 simp only[List.set_cons_succ]
 rw[List.set_append_right _ _ (by omega)];simp
theorem repR_mk {fuel:Int} {R:RunT} {op:Int} {set:List (Int×Int)} {kid:Re} {mn mx md n:Int} {neg:Bool} {k:Int} {next:Goal} {i:Int} {c:Caps} {s:SS} :
 repR fuel R (.mk op set [kid] mn mx md n neg) k next i c s =
  if(stepSz fuel s).empty=true then some (true,stepSz fuel s)
  else if k < mn then R (.mk 0 kid 0 0 (.mk 2 (.mk op set [kid] mn mx md n neg) k i next)) i c (stepSz fuel s)
  else if md=1 then orR (R next i c (stepSz fuel s)) fun s2=>if(decide (mx = -1) || decide (k < mx))=true then R (.mk 0 kid 0 0 (.mk 2 (.mk op set [kid] mn mx md n neg) k i next)) i c s2 else some (false,s2)
  else orR (if(decide (mx = -1) || decide (k < mx))=true then R (.mk 0 kid 0 0 (.mk 2 (.mk op set [kid] mn mx md n neg) k i next)) i c (stepSz fuel s) else some (false,stepSz fuel s)) fun s2=>R next i c s2:=rfl
theorem f152 {caps top:Int} {t:List Int} {fuel:Int} (ht:t.length≤65536) (hf:0≤fuel∧fuel≤1000000) {R:RunT} (hP:RunP caps top t fuel R) (hR:Run138 caps top t fuel R)
  (A K:List MB) (re:Re) (k fr i:Int) (next:Goal) (c:Caps) (s:SS) (b:Bool) (s':SS) (h:RGood caps top re) (ho:re.op=4) (hk:0≤k∧k≤s.steps) (hi:0≤i∧i≤t.length)
  (hn:GG caps top t.length s.steps next) (hc:c.length≤1000) (hs:SPre fuel s) (he:repR fuel R re k next i c s=some (b,s')) :
  call Tryz.prog pol1 143 [.rf A.length 1 0 0,.pt (goalC 1 re k fr next),I i,capA c] (srH A t fuel s s.ends.length K)=some (.bool b,srH A t fuel s' s'.ends.length K):=by
 have h161:=fun K=>f161 A K t fuel s s.ends.length ⟨hs.st.1,by have:=hs.st;omega⟩
 have ret:=fun b s' e' L=>ret_sr (f:=143) rfl rfl b A K L t fuel s s' s.ends.length e'
 obtain⟨kid,hkid,hgk⟩:=rep_kid h ho
 have hmd:=h.md
 obtain⟨op,set,kids,mn,mx,md,n,neg⟩:=re
 simp only[Re.kids,Re.op,Re.md]at hkid ho hmd
 subst hkid
 subst ho
 have hrep:=(zAy h.good.whole).2.2.1 rfl
 rw[repR_mk]at he
 have hp8:=zCp next
 have hl8:=zAM kid
 have ht8:=zAU kid
 have hok8:=zAt kid
 have hG:goalC 1 (.mk 4 set [kid] mn mx md n neg) k fr next=[I 1,I 4,.sl false (set.map spanAV),.sl false [reAV kid],I mn,I mx,I md,I n,.bool neg,I k,I fr,goalA next]:=by
  rw[goalC,zCm];rfl
 have hgp:=zBu 1 (.mk 4 set [kid] mn mx md n neg) k fr next
 rw[hG]at hgp ⊢
 have fr':frzArgs pol1 143 0 [.rf A.length 1 0 0,.pt [I 1,I 4,.sl false (set.map spanAV),.sl false [reAV kid],I mn,I mx,I md,I n,.bool neg,I k,I fr,goalA next],I i,capA c] (srH A t fuel s s.ends.length K)=some ([.rf A.length 1 0 0,.pt [I 1,I 4,.sl false (set.map spanAV),.sl false [reAV kid],I mn,I mx,I md,I n,.bool neg,I k,I fr,goalA next],I i,capA c],srH A t fuel s s.ends.length K):=zAR _ _ _ (by
  simp only[mixOk,show pol1.byref 143 0=true from rfl,AV.plain,hgp,zAG,Bool.true_or,Bool.or_true,Bool.and_self,Bool.and_true];rfl)
 refine zAV (pol:=pol1) Tryz.func143 rfl rfl rfl rfl fr' ?_
 by_cases h1:(stepSz fuel s).empty=true
 ·rw[if_pos h1]at he
  simp only[Option.some.injEq,Prod.mk.injEq]at he
  obtain⟨rfl,rfl⟩:=he
  have h161:=fun K=>(h161 K).trans (by rw[h1])
  simp +contextual (disch:=omega) only[Tryz.f143,zEl,go_sem,simprocAttr,AV.cells,zEf,↓zAD,↓zAC,↓zAB,↓zAA,h161,hmd,zBE,zA9,zBJ]
  exact ret true (stepSz fuel s) _ _
 ·rw[if_neg h1]at he
  have h1':(stepSz fuel s).empty=false:=by simpa using h1
  obtain⟨p1,p2⟩:=zCy hs h1'
  have h161:=fun K=>(h161 K).trans (by rw[h1'])
  have hst:(stepSz fuel s).steps=s.steps+1:=rfl
  have hn1:=hn.mono (show s.steps≤(stepSz fuel s).steps by omega)
  have hon:=zF8 (next:=next) (i:=i) (L:=t.length) (steps:=(stepSz fuel s).steps) h hgk rfl (k:=k) ⟨hk.1,by omega⟩ hi hn1
  have hka:∀ L L':List MB,(K++L)++L' = K++(L++L'):=fun L L'=>List.append_assoc K L L'
  have hfz:∀(R0:MB) (ca:List AV),AV.plainL ca=true→fz (.rf (A.length+(K.length+2+1+1+1)) 1 0 0) (srH A t fuel (stepSz fuel s) s.ends.length (K++[R0,.row 12 [.agg ca] 0,.row 12 [.agg (I 0::(reC kid++[I 0,I 0]++[.rf (A.length+(K.length+1+1+1+1)) 1 0 0]))] 0])) =
    some (.pt (I 0::(reC kid++[I 0,I 0]++[.pt ca])),srH A t fuel (stepSz fuel s) s.ends.length (K++[R0,.row 12 [.agg ca] 1,.row 12 [.agg (I 0::(reC kid++[I 0,I 0]++[.rf (A.length+(K.length+1+1+1+1)) 1 0 0]))] 1])):=fun R0 ca hca=>by
   have hpre:AV.plainL (I 0::(reC kid++[I 0,I 0]))=true:=by simp[AV.plainL,AV.plain,zBI,zAc]
   refine fz_two (H1:=srH A t fuel (stepSz fuel s) s.ends.length (K++[R0,.row 12 [.agg ca] 0,.row 12 [.agg (I 0::(reC kid++[I 0,I 0]++[.rf (A.length+(K.length+1+1+1+1)) 1 0 0]))] 1])) (pre:=I 0::(reC kid++[I 0,I 0])) (a:=A.length+(K.length+1+1+1+1)) ?_ ?_ ?_ ?_ hpre hca
   ·unfold getRow;rw[zHX];rfl
   ·unfold mark getRow;rw[zHX];simp only[sr_set2];rfl
   ·unfold getRow;rw[zAk]
   ·unfold mark getRow;rw[zAk];simp only[zAn];rfl
  have plain_c2:AV.plainL [I 2,I 4,.sl false (set.map spanAV),.sl false [reAV kid],I mn,I mx,I md,I n,.bool neg,I k,I i,goalA next]=true:=by
   have hq:=zBu 2 (.mk 4 set [kid] mn mx md n neg) k i next
   rw[goalC,zCm]at hq
   exact hq
  have hGo:goalA (.mk 0 kid 0 0 (.mk 2 (.mk 4 set [kid] mn mx md n neg) k i next))=.pt (I 0::(reC kid++[I 0,I 0]++[.pt [I 2,I 4,.sl false (set.map spanAV),.sl false [reAV kid],I mn,I mx,I md,I n,.bool neg,I k,I i,goalA next]])):=by
   simp only[goalA,zCm,List.append_assoc,List.cons_append,List.nil_append,List.map_cons,List.map_nil]
  have hO:∀(K':List MB) (s2:SS) (b:Bool) (s':SS),(stepSz fuel s).steps≤s2.steps→SPre fuel s2→R (.mk 0 kid 0 0 (.mk 2 (.mk 4 set [kid] mn mx md n neg) k i next)) i c s2=some (b,s') →
    call Tryz.prog pol1 118 [.rf A.length 1 0 0,.pt (I 0::(reC kid++[I 0,I 0]++[.pt [I 2,I 4,.sl false (set.map spanAV),.sl false [reAV kid],I mn,I mx,I md,I n,.bool neg,I k,I i,goalA next]])),I i,capA c] (srH A t fuel s2 s2.ends.length K') =
     some (.bool b,srH A t fuel s' s'.ends.length K'):=fun K' s2 b s' h1 h2 e=>by
   have:=hR A K' _ i c s2 b s' (hon.mono h1) hi.1 hi.2 hc h2 e
   rwa [hGo]at this
  have hN:∀(K':List MB) (s2:SS) (b:Bool) (s':SS),(stepSz fuel s).steps≤s2.steps→SPre fuel s2→R next i c s2=some (b,s') →
    call Tryz.prog pol1 118 [.rf A.length 1 0 0,goalA next,I i,capA c] (srH A t fuel s2 s2.ends.length K')=some (.bool b,srH A t fuel s' s'.ends.length K'):=fun K' s2 b s' h1 h2 e=>
   hR A K' _ i c s2 b s' (hn1.mono h1) hi.1 hi.2 hc h2 e
  have pO:=fun(b:Bool) (s':SS) e=>hP _ i c _ b s' hon hi.1 hi.2 hc p1 e
  have pN:=fun(b:Bool) (s':SS) e=>hP _ i c _ b s' hn1 hi.1 hi.2 hc p1 e
  have hmx:mx = -1∨(mx≠-1∧k < mx)∨(mx≠-1∧¬ k < mx):=by omega
  by_cases hkm:k < mn
  ·rw[if_pos hkm]at he
   have c1:=fun K'=>hO K' _ b s' (Int.le_refl _) p1 he
   rw[show (stepSz fuel s).ends.length=s.ends.length from rfl]at c1
   rcases hmx with hmx|hmx|hmx
   ·simp +contextual (disch:=omega) only[Tryz.f143,zEl,go_sem,simprocAttr,zEf,↓zAD,↓zAC,↓zAB,↓zAA,h161,hmd,zBE,zA9,zBJ,Bool.not_false,hl8,ht8,hok8,zBL,zBK,zAs,zCF,zCG,zCH,zAq,zAr,zAW,zBo,zBp,List.all_append,zAk,zAn,zAx,hka,hfz,plain_c2,c1]
    repeat' (first|apply And.intro|(unfold dOk;kernel_rfl)|exact zAW next|(show (_ && _)=true;kernel_rfl)|(show (_ || _)=true;kernel_rfl)|intro _)
    all_goals exact ret _ _ _ _
   ·simp +contextual (disch:=omega) only[Tryz.f143,zEl,go_sem,simprocAttr,zEf,↓zAD,↓zAC,↓zAB,↓zAA,h161,hmd,zBE,zA9,zBJ,Bool.not_false,hl8,ht8,hok8,zBL,zBK,zAs,zCF,zCG,zCH,zAq,zAr,zAW,zBo,zBp,List.all_append,zAk,zAn,zAx,hka,hfz,plain_c2,c1]
    repeat' (first|apply And.intro|(unfold dOk;kernel_rfl)|exact zAW next|(show (_ && _)=true;kernel_rfl)|(show (_ || _)=true;kernel_rfl)|intro _)
    all_goals exact ret _ _ _ _
   ·simp +contextual (disch:=omega) only[Tryz.f143,zEl,go_sem,simprocAttr,zEf,↓zAD,↓zAC,↓zAB,↓zAA,h161,hmd,zBE,zA9,zBJ,Bool.not_false,hl8,ht8,hok8,zBL,zBK,zAs,zCF,zCG,zCH,zAq,zAr,zAW,zBo,zBp,List.all_append,zAk,zAn,zAx,hka,hfz,plain_c2,c1]
    repeat' (first|apply And.intro|(unfold dOk;kernel_rfl)|exact zAW next|(show (_ && _)=true;kernel_rfl)|(show (_ || _)=true;kernel_rfl)|intro _)
    all_goals exact ret _ _ _ _
  ·rw[if_neg hkm]at he
   by_cases hlz:md=1
   ·subst hlz
    rw[if_pos rfl]at he
    unfold orR at he
    split at he
    ·cases he
    ·rename_i s2 e2
     simp only[Option.some.injEq,Prod.mk.injEq]at he
     obtain⟨rfl,rfl⟩:=he
     have c1:=fun K'=>hN K' _ true _ (Int.le_refl _) p1 e2
     rw[show (stepSz fuel s).ends.length=s.ends.length from rfl]at c1
     rcases hmx with hmx|hmx|hmx
     ·simp +contextual (disch:=omega) only[Tryz.f143,zEl,go_sem,simprocAttr,zEf,↓zAD,↓zAC,↓zAB,↓zAA,h161,hmd,zBE,zA9,zBJ,Bool.not_false,hl8,ht8,hok8,zBL,zBK,zAs,zCF,zCG,zCH,zAq,zAr,zAW,zBo,zBp,List.all_append,zAk,zAn,zAx,hka,hfz,plain_c2,c1]
      repeat' (first|apply And.intro|(unfold dOk;kernel_rfl)|exact zAW next|(show (_ && _)=true;kernel_rfl)|(show (_ || _)=true;kernel_rfl)|intro _)
      all_goals exact ret _ _ _ _
     ·simp +contextual (disch:=omega) only[Tryz.f143,zEl,go_sem,simprocAttr,zEf,↓zAD,↓zAC,↓zAB,↓zAA,h161,hmd,zBE,zA9,zBJ,Bool.not_false,hl8,ht8,hok8,zBL,zBK,zAs,zCF,zCG,zCH,zAq,zAr,zAW,zBo,zBp,List.all_append,zAk,zAn,zAx,hka,hfz,plain_c2,c1]
      repeat' (first|apply And.intro|(unfold dOk;kernel_rfl)|exact zAW next|(show (_ && _)=true;kernel_rfl)|(show (_ || _)=true;kernel_rfl)|intro _)
      all_goals exact ret _ _ _ _
     ·simp +contextual (disch:=omega) only[Tryz.f143,zEl,go_sem,simprocAttr,zEf,↓zAD,↓zAC,↓zAB,↓zAA,h161,hmd,zBE,zA9,zBJ,Bool.not_false,hl8,ht8,hok8,zBL,zBK,zAs,zCF,zCG,zCH,zAq,zAr,zAW,zBo,zBp,List.all_append,zAk,zAn,zAx,hka,hfz,plain_c2,c1]
      repeat' (first|apply And.intro|(unfold dOk;kernel_rfl)|exact zAW next|(show (_ && _)=true;kernel_rfl)|(show (_ || _)=true;kernel_rfl)|intro _)
      all_goals exact ret _ _ _ _
    ·rename_i s2 e2
     simp only at he
     have c1:=fun K'=>hN K' _ false s2 (Int.le_refl _) p1 e2
     rw[show (stepSz fuel s).ends.length=s.ends.length from rfl]at c1
     have q2:=pN _ _ e2
     have p3:=q2.pre p1 p2
     rcases hmx with hmx|hmx|hmx
     ·rw[if_pos (by simp[hmx])]at he
      have c2:=fun K'=>hO K' _ b s' q2.st p3 he
      simp +contextual (disch:=omega) only[Tryz.f143,zEl,go_sem,simprocAttr,zEf,↓zAD,↓zAC,↓zAB,↓zAA,h161,hmd,zBE,zA9,zBJ,Bool.not_false,hl8,ht8,hok8,zBL,zBK,zAs,zCF,zCG,zCH,zAq,zAr,zAW,zBo,zBp,List.all_append,zAk,zAn,zAx,hka,hfz,plain_c2,c1,c2]
      repeat' (first|apply And.intro|(unfold dOk;kernel_rfl)|exact zAW next|(show (_ && _)=true;kernel_rfl)|(show (_ || _)=true;kernel_rfl)|intro _)
      all_goals exact ret _ _ _ _
     ·rw[if_pos (by simp[hmx])]at he
      have c2:=fun K'=>hO K' _ b s' q2.st p3 he
      simp +contextual (disch:=omega) only[Tryz.f143,zEl,go_sem,simprocAttr,zEf,↓zAD,↓zAC,↓zAB,↓zAA,h161,hmd,zBE,zA9,zBJ,Bool.not_false,hl8,ht8,hok8,zBL,zBK,zAs,zCF,zCG,zCH,zAq,zAr,zAW,zBo,zBp,List.all_append,zAk,zAn,zAx,hka,hfz,plain_c2,c1,c2]
      repeat' (first|apply And.intro|(unfold dOk;kernel_rfl)|exact zAW next|(show (_ && _)=true;kernel_rfl)|(show (_ || _)=true;kernel_rfl)|intro _)
      all_goals exact ret _ _ _ _
     ·rw[if_neg (by simp[hmx])]at he
      simp only[Option.some.injEq,Prod.mk.injEq]at he
      obtain⟨rfl,rfl⟩:=he
      simp +contextual (disch:=omega) only[Tryz.f143,zEl,go_sem,simprocAttr,zEf,↓zAD,↓zAC,↓zAB,↓zAA,h161,hmd,zBE,zA9,zBJ,Bool.not_false,hl8,ht8,hok8,zBL,zBK,zAs,zCF,zCG,zCH,zAq,zAr,zAW,zBo,zBp,List.all_append,zAk,zAn,zAx,hka,hfz,plain_c2,c1]
      repeat' (first|apply And.intro|(unfold dOk;kernel_rfl)|exact zAW next|(show (_ && _)=true;kernel_rfl)|(show (_ || _)=true;kernel_rfl)|intro _)
      all_goals exact ret _ _ _ _
   ·rw[if_neg hlz]at he
    unfold orR at he
    rcases hmx with hmx|hmx|hmx
    ·rw[if_pos (by simp[hmx])]at he
     split at he
     ·cases he
     ·rename_i s2 e2
      simp only[Option.some.injEq,Prod.mk.injEq]at he
      obtain⟨rfl,rfl⟩:=he
      have c1:=fun K'=>hO K' _ true _ (Int.le_refl _) p1 e2
      rw[show (stepSz fuel s).ends.length=s.ends.length from rfl]at c1
      simp +contextual (disch:=omega) only[Tryz.f143,zEl,go_sem,simprocAttr,zEf,↓zAD,↓zAC,↓zAB,↓zAA,h161,hmd,zBE,zA9,zBJ,Bool.not_false,hl8,ht8,hok8,zBL,zBK,zAs,zCF,zCG,zCH,zAq,zAr,zAW,zBo,zBp,List.all_append,zAk,zAn,zAx,hka,hfz,plain_c2,c1]
      repeat' (first|apply And.intro|(unfold dOk;kernel_rfl)|exact zAW next|(show (_ && _)=true;kernel_rfl)|(show (_ || _)=true;kernel_rfl)|intro _)
      all_goals exact ret _ _ _ _
     ·rename_i s2 e2
      have c1:=fun K'=>hO K' _ false s2 (Int.le_refl _) p1 e2
      rw[show (stepSz fuel s).ends.length=s.ends.length from rfl]at c1
      have q2:=pO _ _ e2
      have p3:=q2.pre p1 p2
      have c2:=fun K'=>hN K' _ b s' q2.st p3 he
      simp +contextual (disch:=omega) only[Tryz.f143,zEl,go_sem,simprocAttr,zEf,↓zAD,↓zAC,↓zAB,↓zAA,h161,hmd,zBE,zA9,zBJ,Bool.not_false,hl8,ht8,hok8,zBL,zBK,zAs,zCF,zCG,zCH,zAq,zAr,zAW,zBo,zBp,List.all_append,zAk,zAn,zAx,hka,hfz,plain_c2,c1,c2]
      repeat' (first|apply And.intro|(unfold dOk;kernel_rfl)|exact zAW next|(show (_ && _)=true;kernel_rfl)|(show (_ || _)=true;kernel_rfl)|intro _)
      all_goals exact ret _ _ _ _
    ·rw[if_pos (by simp[hmx])]at he
     split at he
     ·cases he
     ·rename_i s2 e2
      simp only[Option.some.injEq,Prod.mk.injEq]at he
      obtain⟨rfl,rfl⟩:=he
      have c1:=fun K'=>hO K' _ true _ (Int.le_refl _) p1 e2
      rw[show (stepSz fuel s).ends.length=s.ends.length from rfl]at c1
      simp +contextual (disch:=omega) only[Tryz.f143,zEl,go_sem,simprocAttr,zEf,↓zAD,↓zAC,↓zAB,↓zAA,h161,hmd,zBE,zA9,zBJ,Bool.not_false,hl8,ht8,hok8,zBL,zBK,zAs,zCF,zCG,zCH,zAq,zAr,zAW,zBo,zBp,List.all_append,zAk,zAn,zAx,hka,hfz,plain_c2,c1]
      repeat' (first|apply And.intro|(unfold dOk;kernel_rfl)|exact zAW next|(show (_ && _)=true;kernel_rfl)|(show (_ || _)=true;kernel_rfl)|intro _)
      all_goals exact ret _ _ _ _
     ·rename_i s2 e2
      have c1:=fun K'=>hO K' _ false s2 (Int.le_refl _) p1 e2
      rw[show (stepSz fuel s).ends.length=s.ends.length from rfl]at c1
      have q2:=pO _ _ e2
      have p3:=q2.pre p1 p2
      have c2:=fun K'=>hN K' _ b s' q2.st p3 he
      simp +contextual (disch:=omega) only[Tryz.f143,zEl,go_sem,simprocAttr,zEf,↓zAD,↓zAC,↓zAB,↓zAA,h161,hmd,zBE,zA9,zBJ,Bool.not_false,hl8,ht8,hok8,zBL,zBK,zAs,zCF,zCG,zCH,zAq,zAr,zAW,zBo,zBp,List.all_append,zAk,zAn,zAx,hka,hfz,plain_c2,c1,c2]
      repeat' (first|apply And.intro|(unfold dOk;kernel_rfl)|exact zAW next|(show (_ && _)=true;kernel_rfl)|(show (_ || _)=true;kernel_rfl)|intro _)
      all_goals exact ret _ _ _ _
    ·rw[if_neg (by simp[hmx])]at he
     simp only at he
     have c1:=fun K'=>hN K' _ b s' (Int.le_refl _) p1 he
     rw[show (stepSz fuel s).ends.length=s.ends.length from rfl]at c1
     simp +contextual (disch:=omega) only[Tryz.f143,zEl,go_sem,simprocAttr,zEf,↓zAD,↓zAC,↓zAB,↓zAA,h161,hmd,zBE,zA9,zBJ,Bool.not_false,hl8,ht8,hok8,zBL,zBK,zAs,zCF,zCG,zCH,zAq,zAr,zAW,zBo,zBp,List.all_append,zAk,zAn,zAx,hka,hfz,plain_c2,c1]
     repeat' (first|apply And.intro|(unfold dOk;kernel_rfl)|exact zAW next|(show (_ && _)=true;kernel_rfl)|(show (_ || _)=true;kernel_rfl)|intro _)
     all_goals exact ret _ _ _ _
end
section
attribute [local go_sem] evAppend List.map_append tySzE List.head?_drop Nat.mul_one zAO zAT zAN zAP zAQ zAZ
open Go.Proofs Go.RowKit Go.IntWalk
set_option maxRecDepth 100000
set_option maxHeartbeats 8000000
theorem box_call {f:Nat} (hpu:pol1.pure f=false) (hex:pol1.ext f=none) (h0:pol1.byref f 0=true) (h1:pol1.byref f 1=false) (h2:pol1.byref f 2=false) (h3:pol1.byref f 3=false) (hy:f≠yldF)
  (A K:List MB) (X:MB) (t:List Int) (fuel:Int) (s:SS) (e:Nat) (cells:List AV) (i:Int) (c:Caps) (hp:AV.plainL cells=true) :
  call Tryz.prog pol1 f [.rf A.length 1 0 0,.rf (A.length+(K.length+1+1+1+1)) 1 0 0,I i,capA c] (srH A t fuel s e (K++[X,.row 12 [.agg cells] 0])) =
   call Tryz.prog pol1 f [.rf A.length 1 0 0,.pt cells,I i,capA c] (srH A t fuel s e (K++[X,.row 12 [.agg cells] 1])):=by
 refine zGd hpu hex ?_ (zAR _ _ _ (by simp[mixOk,h0,AV.plain,hp,zAG])) hy
 have hz:=zGM (id:=A.length+(K.length+1+1+1+1)) (tot:=1) (i:=0) (j:=0) (k:=12) (z:=0) (H:=srH A t fuel s e (K++[X,.row 12 [.agg cells] 0])) (els:=[.agg cells]) (x:=.agg cells) (by unfold getRow;rw[zAk]) rfl rfl hp
 have hm:mark (srH A t fuel s e (K++[X,.row 12 [.agg cells] 0])) (A.length+(K.length+1+1+1+1)) (0+1)=srH A t fuel s e (K++[X,.row 12 [.agg cells] 1]):=by
  unfold mark getRow
  rw[zAk]
  simp only[zAn]
  rfl
 rw[hm]at hz
 have hc:∀ H,fz (capA c) H=some (capA c,H):=fun H=>zAh H (by simp[AV.plain,zAG])
 have hi:∀ H,fz (I i) H=some (I i,H):=fun H=>rfl
 simp only[frzArgs,h0,h1,h2,h3,Bool.false_eq_true,if_false,if_true,hz,hc,hi]
 rfl
theorem set_len {caps top:Int} {set:List (Int×Int)} {kids:List Re} {mn mx md n:Int} {neg:Bool} (h:wholeG caps top (.mk 1 set kids mn mx md n neg)=true):set.length≤64:=by
 rw[wholeG,Bool.and_eq_true]at h
 have h1:=h.1
 simp only[formedG,Bool.and_eq_true]at h1
 have h2:=h1.1.1.1.2
 rw[if_pos trivial]at h2
 simp only[spansG,Bool.and_eq_true,decide_eq_true_eq]at h2
 exact h2.1
theorem assert_n {caps top:Int} {set:List (Int×Int)} {kids:List Re} {mn mx md n:Int} {neg:Bool} (h:wholeG caps top (.mk 11 set kids mn mx md n neg)=true):0≤n∧n≤5:=by
 rw[wholeG,Bool.and_eq_true]at h
 have h1:=h.1
 simp only[formedG,Bool.and_eq_true]at h1
 have h2:=h1.1.2
 rw[if_neg (by omega),if_pos trivial,Bool.and_eq_true,decide_eq_true_eq,decide_eq_true_eq]at h2
 exact h2
theorem fz_last (A K:List MB) (X:MB) (L:List MB) (t:List Int) (fuel:Int) (s:SS) (e:Nat) (cells:List AV) (hp:AV.plainL cells=true) :
  fz (.rf (A.length+(K.length+(L.length+1)+1+1+1)) 1 0 0) (srH A t fuel s e (K++X::(L++[.row 12 [.agg cells] 0])))=some (.pt cells,srH A t fuel s e (K++X::(L++[.row 12 [.agg cells] 1]))):=by
 have hM:∀ v:MB,K++X::(L++[v])=(K++X::L)++v::[]:=fun v=>by simp
 have hl:K.length+(L.length+1)=(K++X::L).length:=by simp
 rw[hM,hM,hl]
 have hz:=zGM (id:=A.length+((K++X::L).length+1+1+1)) (tot:=1) (i:=0) (j:=0) (k:=12) (z:=0) (H:=srH A t fuel s e ((K++X::L)++.row 12 [.agg cells] 0::[])) (els:=[.agg cells]) (x:=.agg cells) (by unfold getRow;rw[zA9]) rfl rfl hp
 have hm:mark (srH A t fuel s e ((K++X::L)++.row 12 [.agg cells] 0::[])) (A.length+((K++X::L).length+1+1+1)) (0+1)=srH A t fuel s e ((K++X::L)++.row 12 [.agg cells] 1::[]):=by
  unfold mark getRow
  rw[zA9]
  simp only[zBJ]
  rfl
 rw[hm]at hz
 exact hz
theorem box2_138 (A K:List MB) (X:MB) (t:List Int) (fuel:Int) (s:SS) (e:Nat) (kid:Re) (ca:List AV) (i:Int) (c:Caps) (hca:AV.plainL ca=true) :
  call Tryz.prog pol1 118 [.rf A.length 1 0 0,.rf (A.length+(K.length+2+1+1+1)) 1 0 0,I i,capA c] (srH A t fuel s e (K++[X,.row 12 [.agg ca] 0,.row 12 [.agg (I 0::(reC kid++[I 0,I 0]++[.rf (A.length+(K.length+1+1+1+1)) 1 0 0]))] 0])) =
   call Tryz.prog pol1 118 [.rf A.length 1 0 0,.pt (I 0::(reC kid++[I 0,I 0]++[.pt ca])),I i,capA c] (srH A t fuel s e (K++[X,.row 12 [.agg ca] 1,.row 12 [.agg (I 0::(reC kid++[I 0,I 0]++[.rf (A.length+(K.length+1+1+1+1)) 1 0 0]))] 1])):=by
 have hpre:AV.plainL (I 0::(reC kid++[I 0,I 0]))=true:=by simp[AV.plainL,AV.plain,zBI,zAc]
 have hall:AV.plainL (I 0::(reC kid++[I 0,I 0]++[.pt ca]))=true:=by simp[AV.plainL,AV.plain,zBI,zAc,hca]
 have hz:=fz_two (H:=srH A t fuel s e (K++[X,.row 12 [.agg ca] 0,.row 12 [.agg (I 0::(reC kid++[I 0,I 0]++[.rf (A.length+(K.length+1+1+1+1)) 1 0 0]))] 0])) (H1:=srH A t fuel s e (K++[X,.row 12 [.agg ca] 0,.row 12 [.agg (I 0::(reC kid++[I 0,I 0]++[.rf (A.length+(K.length+1+1+1+1)) 1 0 0]))] 1]))
  (H2:=srH A t fuel s e (K++[X,.row 12 [.agg ca] 1,.row 12 [.agg (I 0::(reC kid++[I 0,I 0]++[.rf (A.length+(K.length+1+1+1+1)) 1 0 0]))] 1])) (pre:=I 0::(reC kid++[I 0,I 0])) (a:=A.length+(K.length+1+1+1+1)) (b:=A.length+(K.length+2+1+1+1)) (ca:=ca)
  (by unfold getRow;rw[zHX];rfl) (by unfold mark getRow;rw[zHX];simp only[sr_set2];rfl) (by unfold getRow;rw[zAk]) (by unfold mark getRow;rw[zAk];simp only[zAn];rfl) hpre hca
 have h0:pol1.byref 118 0=true:=rfl
 have h1:pol1.byref 118 1=false:=rfl
 have h2:pol1.byref 118 2=false:=rfl
 have h3:pol1.byref 118 3=false:=rfl
 refine zGd rfl rfl ?_ (zAR _ _ _ (by simp[mixOk,h0,AV.plain,AV.plainL,zBI,zAc,hca,zAG]))
 have hc:∀ H,fz (capA c) H=some (capA c,H):=fun H=>zAh H (by simp[AV.plain,zAG])
 have hi:∀ H,fz (I i) H=some (I i,H):=fun H=>rfl
 simp only[frzArgs,h0,h1,h2,h3,Bool.false_eq_true,if_false,if_true,hz,hc,hi]
 rfl
theorem nodeR_mk {t:List Int} {fuel:Int} {R:RunT} {op:Int} {set:List (Int×Int)} {kids:List Re} {mn mx md n:Int} {neg:Bool} {next:Goal} {i:Int} {c:Caps} {s:SS} :
 nodeR t fuel R (.mk op set kids mn mx md n neg) next i c s =
  if op=4 then repR fuel R (.mk op set kids mn mx md n neg) 0 next i c s
  else if(stepSz fuel s).empty=true then some (true,stepSz fuel s)
  else if op=1 then
   (match t[i.toNat]? with
   | some x=>if hasSpan set x=true then R next (i+1) c (stepSz fuel s) else some (false,stepSz fuel s)
   | none=>some (false,stepSz fuel s))
  else if op=2 then R (catG next kids) i c (stepSz fuel s)
  else if op=3 then altR R next i c kids (stepSz fuel s)
  else if op=5 then
   (match kids with
   | []=>none
   | kid::_=>R (.mk 0 kid 0 0 (.mk 3 (.mk op set kids mn mx md n neg) 0 i next)) i c (stepSz fuel s))
  else if op=11 then(if assertI n (befS t i.toNat) t[i.toNat]?=true then R next i c (stepSz fuel s) else some (false,stepSz fuel s))
  else R next i c (stepSz fuel s):=rfl
theorem f154 {caps top:Int} {t:List Int} {fuel:Int} (ht:t.length≤65536) (hf:0≤fuel∧fuel≤1000000) {R:RunT} (hP:RunP caps top t fuel R) (hR:Run138 caps top t fuel R)
  (A K:List MB) (kind:Int) (re:Re) (k fr:Int) (i:Nat) (next:Goal) (c:Caps) (s:SS) (b:Bool) (s':SS) (h:RGood caps top re) (hi:i≤t.length)
  (hn:GG caps top t.length s.steps next) (hc:c.length≤1000) (hs:SPre fuel s) (he:nodeR t fuel R re next i c s=some (b,s')) :
  call Tryz.prog pol1 145 [.rf A.length 1 0 0,.pt (goalC kind re k fr next),I i,capA c] (srH A t fuel s s.ends.length K)=some (.bool b,srH A t fuel s' s'.ends.length K):=by
 have h161:=fun K=>f161 A K t fuel s s.ends.length ⟨hs.st.1,by have:=hs.st;omega⟩
 have ret:=fun b s' e' L=>ret_sr (f:=145) rfl rfl b A K L t fuel s s' s.ends.length e'
 have hp8:=zCp next
 have hka:∀ L L':List MB,(K++L)++L' = K++(L++L'):=fun L L'=>List.append_assoc K L L'
 obtain⟨op,set,kids,mn,mx,md,n,neg⟩:=re
 have hgp:=zBu kind (.mk op set kids mn mx md n neg) k fr next
 have hgp1:=zBu 1 (.mk op set kids mn mx md n neg) 0 0 next
 have hG:∀ kind k fr next,goalC kind (.mk op set kids mn mx md n neg) k fr next=[I kind,I op,.sl false (set.map spanAV),.sl false (kids.map reAV),I mn,I mx,I md,I n,.bool neg,I k,I fr,goalA next]:=fun kind k fr next=>by
  rw[goalC,zCm];rfl
 rw[hG]at hgp hgp1 ⊢
 have fr':frzArgs pol1 145 0 [.rf A.length 1 0 0,.pt [I kind,I op,.sl false (set.map spanAV),.sl false (kids.map reAV),I mn,I mx,I md,I n,.bool neg,I k,I fr,goalA next],I i,capA c] (srH A t fuel s s.ends.length K)=some ([.rf A.length 1 0 0,.pt [I kind,I op,.sl false (set.map spanAV),.sl false (kids.map reAV),I mn,I mx,I md,I n,.bool neg,I k,I fr,goalA next],I i,capA c],srH A t fuel s s.ends.length K):=zAR _ _ _ (by
  simp only[mixOk,show pol1.byref 145 0=true from rfl,AV.plain,hgp,zAG,Bool.true_or,Bool.or_true,Bool.and_self,Bool.and_true];rfl)
 refine zAV (pol:=pol1) Tryz.func145 rfl rfl rfl rfl fr' ?_
 have hop:=h.good.op
 have hkl:=h.len
 simp only[Re.kids]at hkl
 have hst:(stepSz fuel s).steps=s.steps+1:=rfl
 have hn1:=hn.mono (show s.steps≤(stepSz fuel s).steps by omega)
 by_cases h4:op=4
 ·subst h4
  have he:repR fuel R (.mk 4 set kids mn mx md n neg) 0 next i c s=some (b,s'):=he
  have c1:=fun K'=>f152 ht hf hP hR A K' (.mk 4 set kids mn mx md n neg) 0 0 i next c s b s' h rfl ⟨Int.le_refl _,hs.st.1⟩ ⟨by omega,by omega⟩ hn hc hs he
  rw[hG]at c1
  have c2:=fun X=>(box_call (f:=143) rfl rfl rfl rfl rfl rfl (by decide) A K X t fuel s s.ends.length _ i c hgp1).trans (c1 _)
  simp +contextual (disch:=omega) only[Tryz.f145,zEV,go_sem,simprocAttr,zEU,↓zAD,↓zAC,↓zAB,↓zAA,c2,zBE,zA9,zBJ,Bool.not_false,zBL,zBK,zAs,zCF,zCG,zCH,zAq,zAr,zAW,List.all_append,zAk,zAn,zAx,hka]
  repeat' (first|apply And.intro|(unfold dOk;kernel_rfl)|exact zAW next|(show (_ && _)=true;kernel_rfl)|(show (_ || _)=true;kernel_rfl)|intro _)
  all_goals exact ret _ _ _ _
 ·rw[nodeR_mk,if_neg h4]at he
  by_cases h1:(stepSz fuel s).empty=true
  ·rw[if_pos h1]at he
   simp only[Option.some.injEq,Prod.mk.injEq]at he
   obtain⟨rfl,rfl⟩:=he
   have h161:=fun K=>(h161 K).trans (by rw[h1])
   simp +contextual (disch:=omega) only[Tryz.f145,zEV,go_sem,simprocAttr,zEU,↓zAD,↓zAC,↓zAB,↓zAA,h161,h4,zBE,zA9,zBJ,Bool.not_false,zBL,zBK,zAs,zCF,zCG,zCH,zAq,zAr,zAW,List.all_append,zAk,zAn,zAx,hka,zBq]
   repeat' (first|apply And.intro|(unfold dOk;kernel_rfl)|exact zAW next|(show (_ && _)=true;kernel_rfl)|(show (_ || _)=true;kernel_rfl)|intro _)
   all_goals exact ret _ _ _ _
  rw[if_neg h1,Int.toNat_natCast]at he
  have h1':(stepSz fuel s).empty=false:=by simpa using h1
  obtain⟨p1,p2⟩:=zCy hs h1'
  have h161:=fun K=>(h161 K).trans (by rw[h1'])
  have hN:∀(K':List MB) (j:Nat) (b:Bool) (s':SS),j≤t.length→R next j c (stepSz fuel s)=some (b,s') →
    call Tryz.prog pol1 118 [.rf A.length 1 0 0,goalA next,I j,capA c] (srH A t fuel (stepSz fuel s) s.ends.length K')=some (.bool b,srH A t fuel s' s'.ends.length K'):=fun K' j b s' h1 e=>
   hR A K' _ j c _ b s' hn1 (by omega) (by omega) hc p1 e
  rcases hop with rfl|rfl|rfl|rfl|rfl|rfl|rfl
  ·-- nothing
   rw[if_neg (by omega),if_neg (by omega),if_neg (by omega),if_neg (by omega),if_neg (by omega)]at he
   have c1:=fun K'=>hN K' i b s' hi he
   simp +contextual (disch:=omega) only[Tryz.f145,zEV,go_sem,simprocAttr,zEU,↓zAD,↓zAC,↓zAB,↓zAA,h161,c1,zBE,zA9,zBJ,Bool.not_false,zBL,zBK,zAs,zCF,zCG,zCH,zAq,zAr,zAW,List.all_append,zAk,zAn,zAx,hka,zBq]
   repeat' (first|apply And.intro|(unfold dOk;kernel_rfl)|exact zAW next|(show (_ && _)=true;kernel_rfl)|(show (_ || _)=true;kernel_rfl)|intro _)
   all_goals exact ret _ _ _ _
  ·-- a set
   rw[if_pos rfl]at he
   have hsl:set.length≤1000000:=by
    have h64:set.length≤64:=set_len h.good.whole
    omega
   by_cases hlt:i < t.length
   ·obtain⟨x,hx⟩:∃ x,t[i]?=some x:=⟨_,List.getElem?_eq_getElem hlt⟩
    rw[hx]at he
    simp only at he
    have h162:=f162 set x hsl
    cases hh:hasSpan set x with
    | true=>
      rw[hh,if_pos rfl,show (i:Int)+1=((i+1:Nat):Int) by omega]at he
      rw[hh]at h162
      have c1:=fun K'=>hN K' (i+1) b s' (by omega) he
      simp +contextual (disch:=omega) only[Tryz.f145,zEV,go_sem,simprocAttr,zEU,↓zAD,↓zAC,↓zAB,↓zAA,h161,h162,hx,c1,zBE,zA9,zBJ,Bool.not_false,zBL,zBK,zAs,zCF,zCG,zCH,zAq,zAr,zAW,List.all_append,zAk,zAn,zAx,hka,zBq]
      repeat' (first|apply And.intro|(unfold dOk;kernel_rfl)|exact zAW next|(show (_ && _)=true;kernel_rfl)|(show (_ || _)=true;kernel_rfl)|intro _)
      all_goals exact ret _ _ _ _
    | false=>
      rw[hh,if_neg Bool.false_ne_true]at he
      rw[hh]at h162
      simp only[Option.some.injEq,Prod.mk.injEq]at he
      obtain⟨rfl,rfl⟩:=he
      simp +contextual (disch:=omega) only[Tryz.f145,zEV,go_sem,simprocAttr,zEU,↓zAD,↓zAC,↓zAB,↓zAA,h161,h162,hx,zBE,zA9,zBJ,Bool.not_false,zBL,zBK,zAs,zCF,zCG,zCH,zAq,zAr,zAW,List.all_append,zAk,zAn,zAx,hka,zBq]
      repeat' (first|apply And.intro|(unfold dOk;kernel_rfl)|exact zAW next|(show (_ && _)=true;kernel_rfl)|(show (_ || _)=true;kernel_rfl)|intro _)
      all_goals exact ret _ _ _ _
   ·rw[List.getElem?_eq_none (by omega)]at he
    simp only[Option.some.injEq,Prod.mk.injEq]at he
    obtain⟨rfl,rfl⟩:=he
    simp +contextual (disch:=omega) only[Tryz.f145,zEV,go_sem,simprocAttr,zEU,↓zAD,↓zAC,↓zAB,↓zAA,h161,zBE,zA9,zBJ,Bool.not_false,zBL,zBK,zAs,zCF,zCG,zCH,zAq,zAr,zAW,List.all_append,zAk,zAn,zAx,hka,zBq]
    repeat' (first|apply And.intro|(unfold dOk;kernel_rfl)|exact zAW next|(show (_ && _)=true;kernel_rfl)|(show (_ || _)=true;kernel_rfl)|intro _)
    all_goals exact ret _ _ _ _
  ·-- one after the other
   rw[if_neg (by omega),if_pos rfl]at he
   have c1:=fun K'=>hR A K' (catG next kids) i c _ b s' (GG.cat (by omega) hn1 h.kids) (by omega) (by omega) hc p1 he
   rw[show (stepSz fuel s).ends.length=s.ends.length from rfl]at c1
   obtain⟨X,hX⟩:∃ X:MB,X=.row 8 [.agg [I 2,.sl false (set.map spanAV),.sl false (kids.map reAV),I mn,I mx,I md,I n,.bool neg]] 0:=⟨_,rfl⟩
   simp +contextual (disch:=omega) only[Tryz.f145,zEV,go_sem,simprocAttr,zEU,↓zAD,↓zAC,↓zAB,↓zAA,h161,zBE,zA9,zBJ,Bool.not_false,zBL,zBK,zAs,zCF,zCG,zCH,zAq,zAr,zAW,List.all_append,zAk,zAn,zAx,hka,zBq]
   refine zEq (σ:=Nat×List MB) (M:=⟨some [11,10,9,3,2,0],none,[]⟩) rfl (fun x=>(⟨341,[(11,I ((x.1:Int) - 1)),(10,goalA (catG next (kids.drop x.1))),(9,.rf (A.length+(K.length+1+1+1)) 1 0 0),(3,capA c),(2,I i),(0,.rf A.length 1 0 0)],
    srH A t fuel (stepSz fuel s) s.ends.length (K++.row 8 [.agg [I 2,.sl false (set.map spanAV),.sl false (kids.map reAV),I mn,I mx,I md,I n,.bool neg]] 0::x.2)⟩:St)) (fun x=>x.1≤kids.length) (fun x=>x.1) (kids.length,[]) ?_ (Nat.le_refl _) _ ?_
   ·rintro⟨j,L⟩ hj
    simp only at hj ⊢
    rcases j with _|m
    ·have hz0:((0:Nat):Int) - 1 = -1:=rfl
     rw[hz0,List.drop_zero]
     simp +contextual (disch:=omega) only[Tryz.f145,zEV,go_sem,simprocAttr,zEU,↓zAD,↓zAC,↓zAB,↓zAA,h161,c1,zBE,zA9,zBJ,Bool.not_false,zBL,zBK,zAs,zCF,zCG,zCH,zAq,zAr,zAW,List.all_append,zAk,zAn,zAx,hka,zBq]
     exact ret b s' _ _
    ·obtain⟨kid,hkid⟩:∃ k,kids[m]?=some k:=⟨_,List.getElem?_eq_getElem (by omega)⟩
     have hl8:=zAM kid
     have ht8:=zAU kid
     have hok8:=zAt kid
     have hm1:((m+1:Nat):Int) - 1=(m:Int):=by omega
     rw[hm1]
     have hcp:AV.plainL (I 0::(reC kid++[I 0,I 0]++[goalA (catG next (kids.drop (m+1)))]))=true:=by
      simp[AV.plainL,AV.plain,zBI,zAc,zCp]
     have hfz:=fun X=>fz_last A K X L t fuel (stepSz fuel s) s.ends.length _ hcp
     simp +contextual (disch:=omega) only[Tryz.f145,zEV,go_sem,simprocAttr,zEU,↓zAD,↓zAC,↓zAB,↓zAA,h161,hkid,hl8,ht8,hok8,zBo,zBp,hfz,zBE,zA9,zBJ,Bool.not_false,zBL,zBK,zAs,zCF,zCG,zCH,zAq,zAr,zAW,List.all_append,zAk,zAn,zAx,hka,zBq]
     refine⟨zAW _,zAW _,(m,L++[.row 12 [.agg (I 0::(reC kid++[I 0,I 0]++[goalA (catG next (kids.drop (m+1)))]))] 1]),by show m≤_;omega,Nat.lt_succ_self _,?_⟩
     have hgm:goalA (catG next (kids.drop m))=.pt (I 0::(reC kid++[I 0,I 0]++[goalA (catG next (kids.drop (m+1)))])):=by
      rw[List.drop_eq_getElem_cons (by omega),(List.getElem?_eq_some_iff.1 hkid).2]
      simp[catG,goalA]
     simp only[hgm]
     rfl
   ·simp only[List.drop_length,catG]
    rfl
  ·-- one of some
   rw[if_neg (by omega),if_neg (by omega),if_pos rfl]at he
   simp +contextual (disch:=omega) only[Tryz.f145,zEV,go_sem,simprocAttr,zEU,↓zAD,↓zAC,↓zAB,↓zAA,h161,zBE,zA9,zBJ,Bool.not_false,zBL,zBK,zAs,zCF,zCG,zCH,zAq,zAr,zAW,List.all_append,zAk,zAn,zAx,hka,zBq]
   refine zEq (σ:=Nat×List MB×SS) (M:=⟨some [12,9,3,2,1,0],none,[]⟩) rfl (fun x=>(⟨341,[(12,I (x.1:Nat)),(9,.rf (A.length+(K.length+1+1+1)) 1 0 0),(3,capA c),(2,I i),(1,.pt [I kind,I 3,.sl false (set.map spanAV),.sl false (kids.map reAV),I mn,I mx,I md,I n,.bool neg,I k,I fr,goalA next]),(0,.rf A.length 1 0 0)],
    srH A t fuel x.2.2 x.2.2.ends.length (K++.row 8 [.agg [I 3,.sl false (set.map spanAV),.sl false (kids.map reAV),I mn,I mx,I md,I n,.bool neg]] 0::x.2.1)⟩:St))
    (fun x=>x.1≤kids.length∧altR R next i c (kids.drop x.1) x.2.2=some (b,s')∧SPre fuel x.2.2∧(stepSz fuel s).steps≤x.2.2.steps∧(x.2.2.ends.length:Int)+((kids.length - x.1:Nat):Int)≤256 * x.2.2.steps) (fun x=>kids.length - x.1) (0,[],stepSz fuel s) ?_
    ⟨Nat.zero_le _,he,p1,Int.le_refl _,by simp only;omega⟩ _ ?_
   ·rintro⟨j,L,s1⟩ ⟨hj,he,q1,q2,q3⟩
    simp only at hj he q1 q2 q3 ⊢
    by_cases hjl:j < kids.length
    ·obtain⟨kid,hkid⟩:∃ k,kids[j]?=some k:=⟨_,List.getElem?_eq_getElem hjl⟩
     have hl8:=zAM kid
     have ht8:=zAU kid
     have hok8:=zAt kid
     have hcp:AV.plainL (I 0::(reC kid++[I 0,I 0]++[goalA next]))=true:=by
      simp[AV.plainL,AV.plain,zBI,zAc,zCp]
     have hgm:goalA (.mk 0 kid 0 0 next)=.pt (I 0::(reC kid++[I 0,I 0]++[goalA next])):=by
      simp[goalA]
     have hgk:=h.kids kid (List.mem_of_getElem? hkid)
     rw[List.drop_eq_getElem_cons hjl,(List.getElem?_eq_some_iff.1 hkid).2,altR]at he
     have hgg:GG caps top t.length s1.steps (.mk 0 kid 0 0 next):=⟨hgk,.inl rfl,⟨Int.le_refl _,by omega⟩,hn1.mono q2⟩
     have hbox:=fun(X:MB) b' s2 e2=>(box138 A (K++X::L) t fuel s1 s1.ends.length _ i c hcp).trans ((hgm ▸ hR A ((K++X::L)++[MB.row 12 [.agg (I 0::(reC kid++[I 0,I 0]++[goalA next]))] 1]) (.mk 0 kid 0 0 next) i c s1 b' s2 hgg (by omega) (by omega) hc q1 e2))
     have hka2:∀(X Y:MB),(K++X::L)++[Y]=K++X::(L++[Y]):=fun X Y=>by simp
     simp only[hka2,List.length_append,List.length_cons]at hbox
     unfold orR at he
     split at he
     ·cases he
     ·rename_i s2 e2
      simp only[Option.some.injEq,Prod.mk.injEq]at he
      obtain⟨rfl,rfl⟩:=he
      have c1:=fun X=>hbox X _ _ e2
      simp +contextual (disch:=omega) only[Tryz.f145,zEV,go_sem,simprocAttr,zEU,↓zAD,↓zAC,↓zAB,↓zAA,h161,hkid,hl8,ht8,hok8,zBo,zBp,c1,zBE,zA9,zBJ,Bool.not_false,zBL,zBK,zAs,zCF,zCG,zCH,zAq,zAr,zAW,List.all_append,zAk,zAn,zAx,hka,zBq]
      repeat' (first|apply And.intro|(unfold dOk;kernel_rfl)|exact zAW next|(show (_ && _)=true;kernel_rfl)|(show (_ || _)=true;kernel_rfl)|intro _)
      all_goals exact ret _ _ _ _
     ·rename_i s2 e2
      have c1:=fun X=>hbox X _ _ e2
      have q:=hP _ _ _ _ _ _ hgg (by omega) (by omega) hc q1 e2
      simp +contextual (disch:=omega) only[Tryz.f145,zEV,go_sem,simprocAttr,zEU,↓zAD,↓zAC,↓zAB,↓zAA,h161,hkid,hl8,ht8,hok8,zBo,zBp,c1,zBE,zA9,zBJ,Bool.not_false,zBL,zBK,zAs,zCF,zCG,zCH,zAq,zAr,zAW,List.all_append,zAk,zAn,zAx,hka,zBq]
      repeat' (first|apply And.intro|(unfold dOk;kernel_rfl)|exact zAW next|(show (_ && _)=true;kernel_rfl)|(show (_ || _)=true;kernel_rfl)|intro _)
      have qa:=q.el
      have qb:=q.st
      have qc:=q.fu rfl
      have qd:=q1.st
      have rp:SPre fuel s2:=⟨q.eb.symm,⟨by omega,qc⟩,q.cl,by omega⟩
      have r1:(stepSz fuel s).steps≤s2.steps:=by omega
      have r2:(s2.ends.length:Int)+((kids.length - (j+1):Nat):Int)≤256 * s2.steps:=by omega
      refine⟨(j+1,L++[MB.row 12 [.agg (I 0::(reC kid++[I 0,I 0]++[goalA next]))] 1],s2),⟨hjl,he,rp,r1,r2⟩,by show kids.length - (j+1) < _;omega,?_⟩
      rfl
    ·obtain rfl:j=kids.length:=by omega
     rw[List.drop_length,altR]at he
     simp only[Option.some.injEq,Prod.mk.injEq]at he
     obtain⟨rfl,rfl⟩:=he
     simp +contextual (disch:=omega) only[Tryz.f145,zEV,go_sem,simprocAttr,zEU,↓zAD,↓zAC,↓zAB,↓zAA,h161,zBE,zA9,zBJ,Bool.not_false,zBL,zBK,zAs,zCF,zCG,zCH,zAq,zAr,zAW,List.all_append,zAk,zAn,zAx,hka,zBq]
     exact ret false _ _ _
   ·rfl
  ·exact absurd rfl h4
  ·-- a capture
   rw[if_neg (by omega),if_neg (by omega),if_neg (by omega),if_pos rfl]at he
   obtain⟨kid,hkid,hgk⟩:=cap_kid h rfl
   simp only[Re.kids]at hkid
   subst hkid
   simp only at he
   have hl8:=zAM kid
   have ht8:=zAU kid
   have hok8:=zAt kid
   have hca:=zBu 3 (.mk 5 set [kid] mn mx md n neg) 0 i next
   rw[hG]at hca
   have hgm:goalA (.mk 0 kid 0 0 (.mk 3 (.mk 5 set [kid] mn mx md n neg) 0 i next))=.pt (I 0::(reC kid++[I 0,I 0]++[.pt [I 3,I 5,.sl false (set.map spanAV),.sl false ([kid].map reAV),I mn,I mx,I md,I n,.bool neg,I 0,I i,goalA next]])):=by
    simp[goalA,zCm]
   have hgg:GG caps top t.length (stepSz fuel s).steps (.mk 0 kid 0 0 (.mk 3 (.mk 5 set [kid] mn mx md n neg) 0 i next)):=⟨hgk,.inl rfl,⟨Int.le_refl _,by omega⟩,h,.inr (.inr (.inr ⟨rfl,rfl⟩)),⟨by omega,by omega⟩,hn1⟩
   have c1:=fun X=>(box2_138 A K X t fuel (stepSz fuel s) s.ends.length kid _ i c hca).trans (hgm ▸ hR A _ _ i c _ b s' hgg (by omega) (by omega) hc p1 he)
   simp only[List.map_cons,List.map_nil]at c1
   simp +contextual (disch:=omega) only[Tryz.f145,zEV,go_sem,simprocAttr,zEU,↓zAD,↓zAC,↓zAB,↓zAA,h161,c1,hl8,ht8,hok8,zBo,zBp,zBE,zA9,zBJ,Bool.not_false,zBL,zBK,zAs,zCF,zCG,zCH,zAq,zAr,zAW,List.all_append,zAk,zAn,zAx,hka,zBq]
   repeat' (first|apply And.intro|(unfold dOk;kernel_rfl)|exact zAW next|(show (_ && _)=true;kernel_rfl)|(show (_ || _)=true;kernel_rfl)|intro _)
   all_goals exact ret _ _ _ _
  ·-- an assertion
   rw[if_neg (by omega),if_neg (by omega),if_neg (by omega),if_neg (by omega),if_pos rfl]at he
   have hnn:=assert_n h.good.whole
   have h165:=f165 n t i hnn hi (by omega)
   cases hh:assertI n (befS t i) t[i]? with
   | true=>
     rw[hh,if_pos rfl]at he
     rw[hh]at h165
     have c1:=fun K'=>hN K' i b s' hi he
     simp +contextual (disch:=omega) only[Tryz.f145,zEV,go_sem,simprocAttr,zEU,↓zAD,↓zAC,↓zAB,↓zAA,h161,h165,c1,zBE,zA9,zBJ,Bool.not_false,zBL,zBK,zAs,zCF,zCG,zCH,zAq,zAr,zAW,List.all_append,zAk,zAn,zAx,hka,zBq]
     repeat' (first|apply And.intro|(unfold dOk;kernel_rfl)|exact zAW next|(show (_ && _)=true;kernel_rfl)|(show (_ || _)=true;kernel_rfl)|intro _)
     all_goals exact ret _ _ _ _
   | false=>
     rw[hh,if_neg Bool.false_ne_true]at he
     rw[hh]at h165
     simp only[Option.some.injEq,Prod.mk.injEq]at he
     obtain⟨rfl,rfl⟩:=he
     simp +contextual (disch:=omega) only[Tryz.f145,zEV,go_sem,simprocAttr,zEU,↓zAD,↓zAC,↓zAB,↓zAA,h161,h165,zBE,zA9,zBJ,Bool.not_false,zBL,zBK,zAs,zCF,zCG,zCH,zAq,zAr,zAW,List.all_append,zAk,zAn,zAx,hka,zBq]
     repeat' (first|apply And.intro|(unfold dOk;kernel_rfl)|exact zAW next|(show (_ && _)=true;kernel_rfl)|(show (_ || _)=true;kernel_rfl)|intro _)
     all_goals exact ret _ _ _ _
end
section
attribute [local go_sem] tySzE List.head?_drop Nat.mul_one zAO zAT zAN zAP zAQ zAZ
open Go.Proofs Go.RowKit Go.IntWalk
set_option maxRecDepth 100000
set_option maxHeartbeats 8000000
theorem app_int1 {H:List MB} {i n z:Nat} {l:List Int} {x:Int} {t:Bool} (hi:getRow H i=some (1,l.map I,z)) (hn:l.length=n) (hz:z≤n) (hr:n+1≤4000000000) :
  evAppend Tryz.prog H 22 22 (.ms i 1 n 0 n) (.sl t [I x])=some (.ms i 1 (n+1) 0 (n+1),H.set i (.row 1 ((l++[x]).map I) z)):=by
 have hs:srcElems Tryz.prog H 3 (.sl t [I x])=some [I x]:=rfl
 rw[zBV (e:=3) (by kernel_rfl) (by kernel_rfl) (k:=1) (by kernel_rfl) (by_:=8) (by kernel_rfl) (ze:=I 0) (by kernel_rfl) rfl (by omega) hs rfl hi (by rw[List.length_map];exact hn) hz (zAZ (by simpa using hr) (by omega))]
 rw[List.map_append];rfl
theorem app_caps1 {H:List MB} {i n z:Nat} {l:List Caps} {x:Caps} {t:Bool} (hi:getRow H i=some (1,l.map capA,z)) (hn:l.length=n) (hz:z≤n) (hr:n+1≤4000000000) :
  evAppend Tryz.prog H 203 203 (.ms i 1 n 0 n) (.sl t [capA x])=some (.ms i 1 (n+1) 0 (n+1),H.set i (.row 1 ((l++[x]).map capA) z)):=by
 have hs:srcElems Tryz.prog H 50 (.sl t [capA x])=some [capA x]:=rfl
 rw[zBV (e:=50) (by kernel_rfl) (by kernel_rfl) (k:=1) (by kernel_rfl) (by_:=24) (by kernel_rfl) (ze:=.sl true []) (by kernel_rfl) rfl (by omega) hs rfl hi (by rw[List.length_map];exact hn) hz (zAZ (by simpa using hr) (by omega))]
 rw[List.map_append];rfl
theorem f138 {caps top:Int} {t:List Int} {fuel:Int} (ht:t.length≤65536) (hf:0≤fuel∧fuel≤1000000) (d:Nat) (hR:Run138 caps top t fuel (runG t fuel d)):Run138 caps top t fuel (runG t fuel (d+1)):=by
 intro A K g i c s b s' hg hi0 hi1 hc hs he
 have hP:=zF2 caps top t fuel d
 obtain⟨i,rfl⟩:∃ j:Nat,i=j:=⟨i.toNat,by omega⟩
 have ret:=fun b s' e' L=>ret_sr (f:=118) rfl rfl b A K L t fuel s s' s.ends.length e'
 have ret0:=fun b s' e'=>ret_sr0 (f:=118) rfl rfl b A K t fuel s s' s.ends.length e'
 have hnp:ofK (.pointer none)=.nilp:=rfl
 have hpg:=zCp g
 have fr':frzArgs pol1 118 0 [.rf A.length 1 0 0,goalA g,I i,capA c] (srH A t fuel s s.ends.length K)=some ([.rf A.length 1 0 0,goalA g,I i,capA c],srH A t fuel s s.ends.length K):=zAR _ _ _ (by
  simp only[mixOk,show pol1.byref 118 0=true from rfl,hpg,AV.plain,zAG,Bool.true_or,Bool.or_true,Bool.and_self,Bool.and_true];rfl)
 refine zAV (pol:=pol1) Tryz.func118 rfl rfl rfl rfl fr' ?_
 have hka:∀ L L':List MB,(K++L)++L' = K++(L++L'):=fun L L'=>List.append_assoc K L L'
 have hsl:=hs.el
 have hst:=hs.st
 cases g with
 | nil=>
   simp only[runG,Option.some.injEq,Prod.mk.injEq]at he
   obtain⟨rfl,rfl⟩:=he
   have a1:=app_int1 (H:=srH A t fuel s s.ends.length K) (i:=A.length+1) (n:=s.ends.length) (z:=0) (l:=s.ends) (x:=(i:Int)) (t:=true) (by unfold getRow;rw[pre_get1]) rfl (Nat.zero_le _) (by omega)
   rw[pre_set1]at a1
   have a2:=fun S E=>app_caps1 (H:=A++S::E::.row 1 (s.caps.map capA) 0::K) (i:=A.length+2) (n:=s.ends.length) (z:=0) (l:=s.caps) (x:=c) (t:=true) (by unfold getRow;rw[pre_get2]) hs.cl (Nat.zero_le _) (by omega)
   simp only[pre_set2]at a2
   simp only[goalA]
   simp +contextual (disch:=omega) only[Tryz.f118,dd118,go_sem,simprocAttr,AV.cells,mu118,↓zAD,↓zAC,↓zAB,↓zAA,hnp,evEq,zBq,pre_set,a1,a2]
   exact⟨by unfold dOk;kernel_rfl,ret0 false ⟨s.steps,s.empty,s.ends++[(i:Int)],s.caps++[c]⟩ (s.ends.length+1)⟩
 | mk kind re k fr next=>
   obtain⟨g1,g2,g3,g4⟩:=hg
   simp only[runG]at he
   simp only[goalA]
   obtain⟨op,set,kids,mn,mx,md,n,neg⟩:=re
   have hG:∀ kind k fr next,goalC kind (.mk op set kids mn mx md n neg) k fr next=[I kind,I op,.sl false (set.map spanAV),.sl false (kids.map reAV),I mn,I mx,I md,I n,.bool neg,I k,I fr,goalA next]:=fun kind k fr next=>by
    rw[goalC,zCm];rfl
   rw[show (I kind::(reC (.mk op set kids mn mx md n neg)++[I k,I fr,goalA next]))=_ from hG kind k fr next]
   rcases g2 with rfl|⟨rfl,g2⟩|⟨rfl,g2⟩|⟨rfl,g2⟩
   ·rw[if_neg (by omega),if_neg (by omega),if_neg (by omega)]at he
    have c1:=f154 ht hf hP hR A K 0 _ k fr i next c s b s' g1 (by omega) g4 hc hs he
    rw[hG]at c1
    simp +contextual (disch:=omega) only[Tryz.f118,dd118,go_sem,simprocAttr,evAppend,List.map_append,mu118,↓zAD,↓zAC,↓zAB,↓zAA,hnp,evEq,c1]
    exact ret0 b s' _
   ·rw[if_pos rfl]at he
    have c1:=f152 ht hf hP hR A K _ k fr i next c s b s' g1 g2.1 g2.2 ⟨by omega,hi1⟩ g4 hc hs he
    rw[hG]at c1
    simp +contextual (disch:=omega) only[Tryz.f118,dd118,go_sem,simprocAttr,evAppend,List.map_append,mu118,↓zAD,↓zAC,↓zAB,↓zAA,hnp,evEq,c1]
    exact ret0 b s' _
   ·rw[if_neg (by omega),if_pos rfl]at he
    have he:(if mn≤k∧(i:Int)=fr then some (false,s) else runG t fuel d (.mk 1 (.mk op set kids mn mx md n neg) (k+1) 0 next) i c s)=some (b,s'):=he
    by_cases hm:mn≤k
    ·by_cases hif:(i:Int)=fr
     ·rw[if_pos ⟨hm,hif⟩]at he
      simp only[Option.some.injEq,Prod.mk.injEq]at he
      obtain⟨rfl,rfl⟩:=he
      simp +contextual (disch:=omega) only[Tryz.f118,dd118,go_sem,simprocAttr,evAppend,List.map_append,mu118,↓zAD,↓zAC,↓zAB,↓zAA,hnp,evEq,hif,hm]
      exact⟨by unfold dOk;kernel_rfl,ret0 false _ _⟩
     ·rw[if_neg (by omega)]at he
      have hgg:GG caps top t.length s.steps (.mk 1 (.mk op set kids mn mx md n neg) (k+1) 0 next):=⟨g1,.inr (.inl ⟨rfl,g2.1,by omega,by omega⟩),⟨Int.le_refl _,by omega⟩,g4⟩
      have hcp:=zBu 1 (.mk op set kids mn mx md n neg) (k+1) 0 next
      have c1:=(box138 A K t fuel s s.ends.length _ i c hcp).trans (hR A (K++[MB.row 12 [.agg (goalC 1 (.mk op set kids mn mx md n neg) (k+1) 0 next)] 1]) _ i c s b s' hgg (by omega) hi1 hc hs he)
      rw[hG]at c1
      have hw:IntKind.i64.wrap (k+1)=k+1:=by rw[i64_in]<;>omega
      simp +contextual (disch:=omega) only[Tryz.f118,dd118,go_sem,simprocAttr,evAppend,List.map_append,mu118,↓zAD,↓zAC,↓zAB,↓zAA,hnp,evEq,hif,hm,hw,c1,zBE,zBL,zBK,zAs,zCF,zCG,zCH,zAq,zAr,zAW,List.all_append]
      repeat' (first|apply And.intro|(unfold dOk;kernel_rfl)|exact zAW next|(show (_ && _)=true;kernel_rfl)|(show (_ || _)=true;kernel_rfl)|intro _)
      exact ret b s' _ _
    ·rw[if_neg (by omega)]at he
     have hgg:GG caps top t.length s.steps (.mk 1 (.mk op set kids mn mx md n neg) (k+1) 0 next):=⟨g1,.inr (.inl ⟨rfl,g2.1,by omega,by omega⟩),⟨Int.le_refl _,by omega⟩,g4⟩
     have hcp:=zBu 1 (.mk op set kids mn mx md n neg) (k+1) 0 next
     have c1:=(box138 A K t fuel s s.ends.length _ i c hcp).trans (hR A (K++[MB.row 12 [.agg (goalC 1 (.mk op set kids mn mx md n neg) (k+1) 0 next)] 1]) _ i c s b s' hgg (by omega) hi1 hc hs he)
     rw[hG]at c1
     have hw:IntKind.i64.wrap (k+1)=k+1:=by rw[i64_in]<;>omega
     simp +contextual (disch:=omega) only[Tryz.f118,dd118,go_sem,simprocAttr,evAppend,List.map_append,mu118,↓zAD,↓zAC,↓zAB,↓zAA,hnp,evEq,hm,hw,c1,zBE,zBL,zBK,zAs,zCF,zCG,zCH,zAq,zAr,zAW,List.all_append]
     repeat' (first|apply And.intro|(unfold dOk;kernel_rfl)|exact zAW next|(show (_ && _)=true;kernel_rfl)|(show (_ || _)=true;kernel_rfl)|intro _)
     exact ret b s' _ _
   ·rw[if_neg (by omega),if_neg (by omega),if_pos rfl]at he
    have h153:=f153 c n fr i (by omega)
    have c1:=fun K'=>hR A K' next i _ s b s' g4 (by omega) hi1 (by rw[zHQ];exact hc) hs he
    simp only[Re.n]at c1
    simp +contextual (disch:=omega) only[Tryz.f118,dd118,go_sem,simprocAttr,evAppend,List.map_append,mu118,↓zAD,↓zAC,↓zAB,↓zAA,hnp,evEq,h153,c1]
    exact⟨by unfold dOk;kernel_rfl,by show (_ || _)=true;kernel_rfl,ret0 b s' _⟩
theorem run138 {caps top:Int} {t:List Int} {fuel:Int} (ht:t.length≤65536) (hf:0≤fuel∧fuel≤1000000):∀ d,Run138 caps top t fuel (runG t fuel d)
 | 0=>fun A K g i c s b s' _ _ _ _ _ e=>by cases g<;>simp[runG]at e
 | d+1=>f138 ht hf d (run138 ht hf d)
end
end Go.Ev
