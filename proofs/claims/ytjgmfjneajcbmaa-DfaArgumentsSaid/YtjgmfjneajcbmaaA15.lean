/- Functions of the program, each with what it computes; no further conditions. -/
import Derived.Test.YtjgmfjneajcbmaaA13
import Derived.Test.YtjgmfjneajcbmaaA14
import Derived.Test.YtjgmfjneajcbmaaA06
import Derived.Test.YtjgmfjneajcbmaaA12
set_option linter.unusedVariables false
set_option linter.unusedSimpArgs false
namespace Go.Ev
mutual
def noPoss:Re→Bool
 | .mk op set kids mn mx md n neg=>decide (md≠2) && noPossL kids
def noPossL:List Re→Bool
 | []=>true
 | k::ks=>noPoss k && noPossL ks
end
theorem noPossL_iff:∀ l:List Re,noPossL l=true↔∀ k∈l,noPoss k=true
 | []=>by simp[noPossL]
 | k::ks=>by simp[noPossL,noPossL_iff ks]
structure RGood (caps top:Int) (r:Re):Prop where
 good:GoodC caps top r
 np:noPoss r=true
 sz:r.size≤256
theorem Re.sizeL_mem:∀ {l:List Re} {k:Re},k∈l→k.size≤Re.sizeL l
 | x::l,k,h=>by
   rcases List.mem_cons.1 h with e|e
   ·rw[e];simp[Re.sizeL]
   ·have:=Re.sizeL_mem e
    simp[Re.sizeL];omega
theorem Re.sizeL_len:∀ l:List Re,l.length≤Re.sizeL l
 | []=>Nat.le_refl _
 | k::ks=>by
   have:=Re.size_pos k
   have:=Re.sizeL_len ks
   simp[Re.sizeL];omega
theorem RGood.kids {caps top:Int} {r:Re} (h:RGood caps top r):∀ k∈r.kids,RGood caps top k:=by
 obtain⟨op,set,kids,mn,mx,md,n,neg⟩:=r
 intro k hk
 have h1:=h.np
 have h2:=h.sz
 rw[noPoss,Bool.and_eq_true,noPossL_iff]at h1
 have:=Re.sizeL_mem hk
 simp only[Re.size,Re.kids]at h2 this
 exact⟨h.good.kids k hk,h1.2 k hk,by omega⟩
theorem RGood.len {caps top:Int} {r:Re} (h:RGood caps top r):r.kids.length≤255:=by
 obtain⟨op,set,kids,mn,mx,md,n,neg⟩:=r
 have h2:=h.sz
 have:=Re.sizeL_len kids
 simp only[Re.size,Re.kids]at h2 ⊢
 omega
theorem RGood.md {caps top:Int} {r:Re} (h:RGood caps top r):r.md≠2:=by
 obtain⟨op,set,kids,mn,mx,md,n,neg⟩:=r
 have h1:=h.np
 rw[noPoss,Bool.and_eq_true,decide_eq_true_eq]at h1
 exact h1.1
def GG (caps top:Int) (L:Int) (steps:Int):Goal→Prop
 | .nil=>True
 | .mk kind re k fr next=>RGood caps top re∧(kind=0∨(kind=1∧re.op=4∧0≤k∧k≤steps)∨(kind=2∧re.op=4∧0≤k∧k < steps)∨(kind=3∧re.op=5))∧(0≤fr∧fr≤L)∧GG caps top L steps next
theorem GG.mono {caps top L a b:Int} (hab:a≤b):∀ {g:Goal},GG caps top L a g→GG caps top L b g
 | .nil,_=>trivial
 | .mk kind re k fr next,h=>⟨h.1,by rcases h.2.1 with h|h|h|h<;>omega,h.2.2.1,h.2.2.2.mono hab⟩
theorem GG.cat {caps top L a:Int} (hL:0≤L) {next:Goal} (hn:GG caps top L a next):∀ {l:List Re},(∀ k∈l,RGood caps top k)→GG caps top L a (catG next l)
 | [],_=>hn
 | k::ks,h=>⟨h k (by simp),.inl rfl,⟨Int.le_refl _,hL⟩,GG.cat hL hn (fun q hq=>h q (by simp[hq]))⟩
structure SPre (fuel:Int) (s:SS):Prop where
 ne:s.empty=false
 st:0≤s.steps∧s.steps≤fuel
 cl:s.caps.length=s.ends.length
 el:(s.ends.length:Int)≤256 * s.steps
structure SPost (fuel:Int) (s:SS) (b:Bool) (s':SS):Prop where
 st:s.steps≤s'.steps
 eb:b=s'.empty
 fu:b=false→s'.steps≤fuel
 cl:s'.caps.length=s'.ends.length
 el:(s'.ends.length:Int)≤s.ends.length+1+256 * (s'.steps - s.steps)
def RunP (caps top:Int) (t:List Int) (fuel:Int) (R:RunT):Prop:=
 ∀(g:Goal) (i:Int) (c:Caps) (s:SS) (b:Bool) (s':SS),GG caps top t.length s.steps g→0≤i→i≤t.length→c.length≤1000→SPre fuel s→R g i c s=some (b,s')→SPost fuel s b s'
variable {caps top:Int} {t:List Int} {fuel:Int}
theorem SPost.none {s:SS} (h:SPre fuel s):SPost fuel s false s:=⟨Int.le_refl _,h.ne.symm,fun _=>h.st.2,h.cl,by omega⟩
theorem step_false {s:SS} (h:SPre fuel s) (he:(stepS fuel s).empty=false):SPre fuel (stepS fuel s)∧((stepS fuel s).ends.length:Int)≤256 * (stepS fuel s).steps - 256:=by
 have h1:=h.st
 have h2:=h.el
 simp only[stepS,h.ne,Bool.false_or,decide_eq_false_iff_not]at he
 exact⟨⟨by simp[stepS,h.ne];omega,⟨by simp only[stepS];omega,by simp only[stepS];omega⟩,h.cl,by simp only[stepS];omega⟩,by simp only[stepS];omega⟩
theorem step_true {s:SS} (h:SPre fuel s) (he:(stepS fuel s).empty=true):SPost fuel s true (stepS fuel s):=
 ⟨by simp only[stepS];omega,he.symm,fun e=>(by cases e),h.cl,by simp only[stepS];omega⟩
theorem SPost.after {s s1 s':SS} {b:Bool} (h1:s1=stepS fuel s) (h:SPost fuel s1 b s'):SPost fuel s b s':=by
 subst h1
 have a:=h.st
 have e:=h.el
 simp only[stepS]at a e
 exact⟨by omega,h.eb,h.fu,h.cl,by omega⟩
theorem SPost.pre {s s2:SS} (hp:SPre fuel s) (hx:(s.ends.length:Int)≤256 * s.steps - 256) (h:SPost fuel s false s2):SPre fuel s2:=by
 have a:=h.st
 have e:=h.el
 have f:=h.fu rfl
 have p:=hp.st
 exact⟨h.eb.symm,⟨by omega,f⟩,h.cl,by omega⟩
theorem SPost.trans {s s2 s':SS} {b:Bool} (h1:SPost fuel s false s2) (h2:SPost fuel s2 b s'):s.steps≤s'.steps∧b=s'.empty∧(b=false→s'.steps≤fuel)∧s'.caps.length=s'.ends.length∧(s'.ends.length:Int)≤s.ends.length+2+256 * (s'.steps - s.steps):=by
 have a:=h1.st
 have b':=h2.st
 have c:=h1.el
 have d:=h2.el
 exact⟨by omega,h2.eb,h2.fu,h2.cl,by omega⟩
theorem rep_kid {re:Re} (h:RGood caps top re) (ho:re.op=4):∃ kid,re.kids=[kid]∧RGood caps top kid:=by
 obtain⟨op,set,kids,mn,mx,md,n,neg⟩:=re
 simp only[Re.op]at ho
 subst ho
 have hk:=(whole_facts h.good.whole).2.1
 obtain⟨k,rfl⟩:∃ k,kids=[k]:=List.length_eq_one_iff.1 (by simpa [kidsG] using hk)
 exact⟨k,rfl,h.kids k (by simp[Re.kids])⟩
theorem cap_kid {re:Re} (h:RGood caps top re) (ho:re.op=5):∃ kid,re.kids=[kid]∧RGood caps top kid:=by
 obtain⟨op,set,kids,mn,mx,md,n,neg⟩:=re
 simp only[Re.op]at ho
 subst ho
 have hk:=(whole_facts h.good.whole).2.1
 obtain⟨k,rfl⟩:∃ k,kids=[k]:=List.length_eq_one_iff.1 (by simpa [kidsG] using hk)
 exact⟨k,rfl,h.kids k (by simp[Re.kids])⟩
theorem once_good {re kid:Re} {next:Goal} {k i L steps:Int} (h:RGood caps top re) (hk:RGood caps top kid) (ho:re.op=4) (h0:0≤k∧k < steps) (hi:0≤i∧i≤L) (hn:GG caps top L steps next) :
 GG caps top L steps (.mk 0 kid 0 0 (.mk 2 re k i next)):=⟨hk,.inl rfl,⟨Int.le_refl _,by omega⟩,h,.inr (.inr (.inl ⟨rfl,ho,h0.1,h0.2⟩)),hi,hn⟩
theorem rep_post {R:RunT} (hR:RunP caps top t fuel R) {re:Re} {k i:Int} {next:Goal} {c:Caps} {s s':SS} {b:Bool} (h:RGood caps top re) (ho:re.op=4) (hk:0≤k∧k≤s.steps) (hi:0≤i∧i≤t.length)
  (hn:GG caps top t.length s.steps next) (hc:c.length≤1000) (hs:SPre fuel s) (he:repR fuel R re k next i c s=some (b,s')):SPost fuel s b s':=by
 unfold repR at he
 simp only at he
 by_cases h1:(stepS fuel s).empty=true
 ·rw[if_pos h1]at he
  simp only[Option.some.injEq,Prod.mk.injEq]at he
  obtain⟨rfl,rfl⟩:=he
  exact step_true hs h1
 ·rw[if_neg h1]at he
  have h1':(stepS fuel s).empty=false:=by simpa using h1
  obtain⟨p1,p2⟩:=step_false hs h1'
  obtain⟨kid,hkid,hgk⟩:=rep_kid h ho
  rw[hkid]at he
  simp only at he
  have hst:(stepS fuel s).steps=s.steps+1:=rfl
  have hen:(stepS fuel s).ends.length=s.ends.length:=rfl
  have hn1:=hn.mono (show s.steps≤(stepS fuel s).steps by omega)
  have hon:=once_good (next:=next) (i:=i) (L:=t.length) (steps:=(stepS fuel s).steps) h hgk ho (k:=k) ⟨hk.1,by omega⟩ hi hn1
  have A:∀ b s',R (.mk 0 kid 0 0 (.mk 2 re k i next)) i c (stepS fuel s)=some (b,s')→SPost fuel (stepS fuel s) b s':=fun b s' e=>hR _ _ _ _ _ _ hon hi.1 hi.2 hc p1 e
  have B:∀ b s',R next i c (stepS fuel s)=some (b,s')→SPost fuel (stepS fuel s) b s':=fun b s' e=>hR _ _ _ _ _ _ hn1 hi.1 hi.2 hc p1 e
  have two:∀(g:Goal) (s2:SS) (b:Bool) (s':SS),GG caps top t.length (stepS fuel s).steps g→SPost fuel (stepS fuel s) false s2→R g i c s2=some (b,s')→SPost fuel s b s':=by
   intro g s2 b s' hg q e
   have p3:=q.pre p1 p2
   have q2:=hR _ _ _ _ _ _ (hg.mono q.st) hi.1 hi.2 hc p3 e
   obtain⟨a1,a2,a3,a4,a5⟩:=q.trans q2
   exact⟨by omega,a2,a3,a4,by omega⟩
  split at he
  ·exact(A _ _ he).after rfl
  ·split at he
   ·unfold orR at he
    split at he
    ·cases he
    ·rename_i s2 e2
     simp only[Option.some.injEq,Prod.mk.injEq]at he
     obtain⟨rfl,rfl⟩:=he
     exact(B _ _ e2).after rfl
    ·rename_i s2 e2
     split at he
     ·exact two _ _ _ _ hon (B _ _ e2) he
     ·simp only[Option.some.injEq,Prod.mk.injEq]at he
      obtain⟨rfl,rfl⟩:=he
      exact(B _ _ e2).after rfl
   ·unfold orR at he
    split at he
    ·cases he
    ·rename_i s2 e2
     simp only[Option.some.injEq,Prod.mk.injEq]at he
     obtain⟨rfl,rfl⟩:=he
     split at e2
     ·exact(A _ _ e2).after rfl
     ·cases e2
    ·rename_i s2 e2
     split at e2
     ·exact two _ _ _ _ hn1 (A _ _ e2) he
     ·simp only[Option.some.injEq,Prod.mk.injEq,true_and]at e2
      subst e2
      exact(B _ _ he).after rfl
theorem alt_post {R:RunT} (hR:RunP caps top t fuel R) {next:Goal} {i:Int} {c:Caps} (hi:0≤i∧i≤t.length) (hc:c.length≤1000) :
  ∀(l:List Re) (s s':SS) (b:Bool),(∀ k∈l,RGood caps top k)→GG caps top t.length s.steps next→SPre fuel s→(s.ends.length:Int)+l.length≤256 * s.steps→altR R next i c l s=some (b,s') →
   s.steps≤s'.steps∧b=s'.empty∧(b=false→s'.steps≤fuel)∧s'.caps.length=s'.ends.length∧(s'.ends.length:Int)≤s.ends.length+l.length+256 * (s'.steps - s.steps)
 | [],s,s',b,_,_,hs,_,he=>by
   simp only[altR,Option.some.injEq,Prod.mk.injEq]at he
   obtain⟨rfl,rfl⟩:=he
   exact⟨Int.le_refl _,hs.ne.symm,fun _=>hs.st.2,hs.cl,by simp⟩
 | k::ks,s,s',b,hg,hn,hs,hx,he=>by
   simp only[altR]at he
   unfold orR at he
   have A:∀ b s',R (.mk 0 k 0 0 next) i c s=some (b,s')→SPost fuel s b s':=fun b s' e=>
    hR (.mk 0 k 0 0 next) _ _ _ _ _ ⟨hg k (by simp),.inl rfl,⟨Int.le_refl _,by omega⟩,hn⟩ hi.1 hi.2 hc hs e
   simp only[List.length_cons]at hx ⊢
   split at he
   ·cases he
   ·rename_i s2 e2
    simp only[Option.some.injEq,Prod.mk.injEq]at he
    obtain⟨rfl,rfl⟩:=he
    have q:=A _ _ e2
    have a:=q.el
    exact⟨q.st,q.eb,q.fu,q.cl,by omega⟩
   ·rename_i s2 e2
    have q:=A _ _ e2
    have a:=q.el
    have b1:=q.st
    have f:=q.fu rfl
    have p0:=hs.st
    obtain⟨r1,r2,r3,r4,r5⟩:=alt_post hR hi hc ks s2 s' b (fun x hx=>hg x (by simp[hx])) (hn.mono b1) ⟨q.eb.symm,⟨by omega,f⟩,q.cl,by omega⟩ (by omega) he
    exact⟨by omega,r2,r3,r4,by omega⟩
theorem node_post {R:RunT} (hR:RunP caps top t fuel R) {re:Re} {i:Int} {next:Goal} {c:Caps} {s s':SS} {b:Bool} (h:RGood caps top re) (hi:0≤i∧i≤t.length)
  (hn:GG caps top t.length s.steps next) (hc:c.length≤1000) (hs:SPre fuel s) (he:nodeR t fuel R re next i c s=some (b,s')):SPost fuel s b s':=by
 unfold nodeR at he
 split at he
 ·rename_i ho
  exact rep_post hR h ho ⟨Int.le_refl _,hs.st.1⟩ hi hn hc hs he
 ·simp only at he
  by_cases h1:(stepS fuel s).empty=true
  ·rw[if_pos h1]at he
   simp only[Option.some.injEq,Prod.mk.injEq]at he
   obtain⟨rfl,rfl⟩:=he
   exact step_true hs h1
  ·rw[if_neg h1]at he
   have h1':(stepS fuel s).empty=false:=by simpa using h1
   obtain⟨p1,p2⟩:=step_false hs h1'
   have hst:(stepS fuel s).steps=s.steps+1:=rfl
   have hn1:=hn.mono (show s.steps≤(stepS fuel s).steps by omega)
   have B:∀ b s',R next i c (stepS fuel s)=some (b,s')→SPost fuel (stepS fuel s) b s':=fun b s' e=>hR _ _ _ _ _ _ hn1 hi.1 hi.2 hc p1 e
   have Z:∀ b s',some (false,stepS fuel s)=some (b,s')→SPost fuel (stepS fuel s) b s':=fun b s' e=>by
    simp only[Option.some.injEq,Prod.mk.injEq]at e
    obtain⟨rfl,rfl⟩:=e
    exact SPost.none p1
   split at he
   ·split at he
    ·rename_i x hx
     have hlt:=(List.getElem?_eq_some_iff.1 hx).1
     split at he
     ·exact(hR _ _ _ _ _ _ hn1 (by omega) (by omega) hc p1 he).after rfl
     ·exact(Z _ _ he).after rfl
    ·exact(Z _ _ he).after rfl
   ·split at he
    ·exact(hR _ _ _ _ _ _ (GG.cat (by omega) hn1 h.kids) hi.1 hi.2 hc p1 he).after rfl
    ·split at he
     ·have hl:=h.len
      obtain⟨r1,r2,r3,r4,r5⟩:=alt_post hR hi hc _ _ _ _ h.kids hn1 p1 (by omega) he
      have hen:(stepS fuel s).ends.length=s.ends.length:=rfl
      exact⟨by omega,r2,r3,r4,by omega⟩
     ·split at he
      ·rename_i ho
       obtain⟨kid,hkid,hgk⟩:=cap_kid h ho
       rw[hkid]at he
       simp only at he
       exact(hR (.mk 0 kid 0 0 (.mk 3 re 0 i next)) _ _ _ _ _ ⟨hgk,.inl rfl,⟨Int.le_refl _,by omega⟩,h,.inr (.inr (.inr ⟨rfl,ho⟩)),hi,hn1⟩ hi.1 hi.2 hc p1 he).after rfl
      ·split at he
       ·split at he
        ·exact(B _ _ he).after rfl
        ·exact(Z _ _ he).after rfl
       ·exact(B _ _ he).after rfl
theorem with_len (c:Caps) (n a b:Int):(withI c n a b).length=c.length:=by
 unfold withI;split<;>simp
theorem runG_post (caps top:Int) (t:List Int) (fuel:Int):∀ d,RunP caps top t fuel (runG t fuel d)
 | 0=>fun g i c s b s' _ _ _ _ _ e=>by cases g<;>simp[runG]at e
 | d+1=>fun g i c s b s' hg h0 hL hc hs e=>by
   have ih:=runG_post caps top t fuel d
   cases g with
   | nil=>
     simp only[runG,Option.some.injEq,Prod.mk.injEq]at e
     obtain⟨rfl,rfl⟩:=e
     exact⟨Int.le_refl _,hs.ne.symm,fun _=>hs.st.2,by simp[hs.cl],by simp⟩
   | mk kind re k fr next=>
     obtain⟨g1,g2,g3,g4⟩:=hg
     simp only[runG]at e
     rcases g2 with rfl|⟨rfl,g2⟩|⟨rfl,g2⟩|⟨rfl,g2⟩
     ·rw[if_neg (by omega),if_neg (by omega),if_neg (by omega)]at e
      exact node_post ih g1 ⟨h0,hL⟩ g4 hc hs e
     ·rw[if_pos rfl]at e
      exact rep_post ih g1 g2.1 g2.2 ⟨h0,hL⟩ g4 hc hs e
     ·rw[if_neg (by omega),if_pos rfl]at e
      split at e
      ·simp only[Option.some.injEq,Prod.mk.injEq]at e
       obtain⟨rfl,rfl⟩:=e
       exact SPost.none hs
      ·exact ih (.mk 1 re (k+1) 0 next) _ _ _ _ _ ⟨g1,.inr (.inl ⟨rfl,g2.1,by omega,by omega⟩),⟨Int.le_refl _,by omega⟩,g4⟩ h0 hL hc hs e
     ·rw[if_neg (by omega),if_neg (by omega),if_pos rfl]at e
      exact ih _ _ _ _ _ _ g4 h0 hL (by rw[with_len];exact hc) hs e
end Go.Ev
namespace Go.Ev
attribute [local go_sem] evBin AV.cells frzB List.length_append List.map_append
section
attribute [local go_sem] tySzE List.head?_drop Nat.mul_one sameAt_zero sameAt_two sameAt_three sameAt_four sameAt_five room_ok
open Go.Proofs Go.RowKit Go.IntWalk
set_option maxRecDepth 100000
set_option maxHeartbeats 8000000
theorem ins_cells (l:List Ins):(l.map insAV).all (fun y=>decide (y.cells.length=5) && y.cells.all AV.ok)=true:=by
 rw[List.all_eq_true]
 intro x hx
 obtain⟨i,_,rfl⟩:=List.mem_map.1 hx
 rfl
theorem app_row {H:List MB} {i j n m z z2:Nat} {els:List AV} {l:List Ins} (hi:getRow H i=some (5,els,z)) (hj:getRow H j=some (5,l.map insAV,z2)) (hn:els.length=n) (hm:l.length=m) (hz:z≤n) (hr:n+m≤4000000000) :
  evAppend Try.prog H 31 31 (.ms i 5 n 0 n) (.ms j 5 m 0 m)=some (.ms i 5 (n+m) 0 (n+m),H.set i (.row 5 (els++l.map insAV) z)):=by
 have hl:(l.map insAV).length=m:=by simp[hm]
 have hs:srcElems Try.prog H 72 (.ms j 5 m 0 m)=some (l.map insAV):=by
  simp only[srcElems,elemsOf,hj,hl,Nat.zero_add,Nat.le_refl,and_self,if_true,List.drop_zero]
  rw[List.take_of_length_le (by omega)]
 rw[evAppend_end (e:=72) (by kernel_rfl) (by kernel_rfl) (k:=5) (by kernel_rfl) (by_:=56) (by kernel_rfl) (ze:=.agg [I 0,I 0,I 0,I 0,.sl true []]) (by kernel_rfl) rfl (by omega) hs (ins_cells l) hi hn hz (by rw[hl];exact room_ok hr (by omega)),hl]
theorem app_one {H:List MB} {i n z:Nat} {els:List AV} {y:AV} {t:Bool} (hi:getRow H i=some (5,els,z)) (hn:els.length=n) (hy:(decide (y.cells.length=5) && y.cells.all AV.ok)=true) (hz:z≤n) (hr:n+1≤4000000000) :
  evAppend Try.prog H 31 31 (.ms i 5 n 0 n) (.sl t [y])=some (.ms i 5 (n+1) 0 (n+1),H.set i (.row 5 (els++[y]) z)):=by
 have hs:srcElems Try.prog H 72 (.sl t [y])=some [y]:=rfl
 rw[evAppend_end (e:=72) (by kernel_rfl) (by kernel_rfl) (k:=5) (by kernel_rfl) (by_:=56) (by kernel_rfl) (ze:=.agg [I 0,I 0,I 0,I 0,.sl true []]) (by kernel_rfl) rfl (by omega) hs (by simp only[List.all_cons,List.all_nil,hy,Bool.and_true]) hi hn hz (room_ok hr (by omega))]
 rfl
theorem keep_ins {j:List AV→List MB→Option (List AV×List MB)} (l:List Ins):KeepL j (l.map insAV) (l.map insAV):=KeepL.plain (plain_ins l)
theorem f54' (caps top:Int) (r:Re) (hN:r.wt≤1000000) (hw:wholeG caps top r=true) (hl:lenG r≤8192) (H:List MB):call Try.prog pol1 24 [reAV r] H=some (I (lenG r:Nat),H):=by
 rw[f54 caps top r.wt r (Nat.le_refl _) hN hw H,Nat.min_eq_left (by omega)]
theorem own_ins {f id n:Nat} {els:List AV} {c:List Ins} {H:List MB} (hk:pol1.keep f=false) (ho:pol1.own f=true) (hr:getRow H id=some (5,els,0)) (hn:c.length=n) (hK:∀ j,KeepL j els (c.map insAV)) :
  retPol pol1 f [] (.ms id 5 n 0 n) H=some (.ms 0 5 n 0 n,[.row 5 (c.map insAV) 0]):=by
 have hl:=(hK (fun _ _=>none)).len
 rw[List.length_map]at hl
 exact retPol_own (els:=els) hk ho hr (by omega) ((hK _).fz H) hr (plain_ins c) (by simp[hn])
theorem own_end {f id n:Nat} {els xs:List AV} {c:List Ins} {H:List MB} (hk:pol1.keep f=false) (ho:pol1.own f=true) (hr:getRow H id=some (5,els,0)) (hn:c.length=n) (hx:xs=c.map insAV) (hK:∀ j,KeepL j els (c.map insAV)) :
 retPol pol1 f [] (.ms id 5 n 0 n) H=some (.ms 0 5 n 0 n,[.row 5 xs 0]):=hx ▸ own_ins hk ho hr hn hK
def Does55 (r:Re):Prop:=lenG r≤8192→∀ f:Nat,f+lenG r≤100000→∀ H,call Try.prog pol1 25 [reAV r,I f] H=some (.ms H.length 5 (lenG r) 0 (lenG r),H++[.row 5 ((codeG r f).map insAV) 0])
def copiesG (k:Re) (f i:Nat):List Ins:=(List.range i).flatMap fun i=>codeG k (f+i * lenG k)
theorem copies_succ (k:Re) (f i:Nat):copiesG k f (i+1)=copiesG k f i++codeG k (f+i * lenG k):=by
 simp[copiesG,List.range_succ,List.flatMap_append]
theorem copies_len {caps top:Int} {k:Re} (h:GoodC caps top k) (f i:Nat):(copiesG k f i).length=i * lenG k:=flat_len _ _ _ (fun i _=>codeG_len caps top k _ h)
def optsG (md:Int) (k:Re) (p e i:Nat):List Ins:=(List.range i).flatMap fun j=>insSplit md ((p+j * (lenG k+1)+1:Nat):Int) (e:Nat)::codeG k (p+j * (lenG k+1)+1)
theorem opts_succ (md:Int) (k:Re) (p e i:Nat):optsG md k p e (i+1)=optsG md k p e i++insSplit md ((p+i * (lenG k+1)+1:Nat):Int) (e:Nat)::codeG k (p+i * (lenG k+1)+1):=by
 simp[optsG,List.range_succ,List.flatMap_append]
theorem opts_len {caps top:Int} {k:Re} (h:GoodC caps top k) (md:Int) (p e i:Nat):(optsG md k p e i).length=i * (lenG k+1):=flat_len _ _ _ (fun i _=>by simp[codeG_len caps top k _ h])
def restG (md:Int) (k:Re) (f m e i:Nat):List Ins:=copiesG k f m++optsG md k (f+m * lenG k) e i
theorem rest_zero (md:Int) (k:Re) (f m e:Nat):restG md k f m e 0=copiesG k f m:=by simp[restG,optsG]
theorem rest_succ (md:Int) (k:Re) (f m e i:Nat):restG md k f m e (i+1)=restG md k f m e i++insSplit md ((f+m * lenG k+i * (lenG k+1)+1:Nat):Int) (e:Nat)::codeG k (f+m * lenG k+i * (lenG k+1)+1):=by
 rw[restG,opts_succ,← List.append_assoc];rfl
theorem rest_len {caps top:Int} {k:Re} (h:GoodC caps top k) (md:Int) (f m e i:Nat):(restG md k f m e i).length=m * lenG k+i * (lenG k+1):=by
 rw[restG,List.length_append,copies_len h,opts_len h]
theorem f116 (caps top:Int) (set:List (Int×Int)) (k:Re) (mn mx md n:Int) (neg:Bool) (hw:GoodC caps top (.mk 4 set [k] mn mx md n neg)) (hN:(Re.mk 4 set [k] mn mx md n neg).wt≤1000000) (ih:Does55 k)
  (hl:lenG (.mk 4 set [k] mn mx md n neg)≤8192) (f:Nat) (hf:f+lenG (.mk 4 set [k] mn mx md n neg)≤100000) (H:List MB) :
  call Try.prog pol1 44 [reAV (.mk 4 set [k] mn mx md n neg),I f] H=some (.ms H.length 5 (lenG (.mk 4 set [k] mn mx md n neg)) 0 (lenG (.mk 4 set [k] mn mx md n neg)),H++[.row 5 ((codeG (.mk 4 set [k] mn mx md n neg) f).map insAV) 0]):=by
 have hlen:=codeG_len caps top _ f hw
 have h54:=f54' caps top _ hN hw.whole hl
 have hgk:GoodC caps top k:=hw.kids k (List.mem_singleton.2 rfl)
 have hr:=(whole_facts hw.whole).2.2.1 rfl
 simp only[repG,Bool.and_eq_true,Bool.or_eq_true,decide_eq_true_eq,beq_iff_eq]at hr
 obtain⟨mn',rfl⟩:∃ m:Nat,mn=m:=⟨mn.toNat,by omega⟩
 have hmn:mn'≤32:=by omega
 have hll:lenL [k]=lenG k:=by simp[lenL]
 have hlr:mn' * lenG k≤lenG (.mk 4 set [k] mn' mx md n neg)∧(1≤mn'∨mx = -1∨(mn':Int) < mx→lenG k≤lenG (.mk 4 set [k] mn' mx md n neg)):=by
  rw[lenG,if_neg (by omega),if_neg (by omega),if_neg (by omega),if_pos rfl,hll,Int.toNat_natCast]
  split
  ·rw[Nat.succ_mul];omega
  ·obtain⟨e,he⟩:∃ e:Nat,mx=(mn' + e:Nat):=⟨(mx - mn').toNat,by omega⟩
   subst he
   rw[Int.toNat_natCast,Nat.add_mul]
   have:1≤mn'→lenG k≤mn' * lenG k:=fun h=>Nat.le_mul_of_pos_left _ h
   have:1≤e→lenG k≤e * lenG k:=fun h=>Nat.le_mul_of_pos_left _ h
   omega
 have e0:reAV (.mk 4 set [k] mn' mx md n neg)=.agg (nodeL 4 set [k] mn' mx md n neg):=congrArg AV.agg reC_mk
 rw[e0]at h54 ⊢
 have hcl:=fun i=>copies_len hgk f i
 have hl8:=reC_len k
 have ht8:=reC_take k
 refine call_runO (k:=5) (els:=(codeG (.mk 4 set [k] mn' mx md n neg) f).map insAV) Try.func44 rfl rfl rfl rfl (fun _=>rfl) (by simp[AV.plain,AV.plainL,plain_span,plain_kids,plain_reC]) (plain_ins _) ?_ H
 simp +contextual (disch:=omega) only[Try.f44,dd44,go_sem,simprocAttr,evAppend,mu44,↓wrap_up,↓wrap_down,↓wrap_pred,↓wrap_sub_nat]
 refine W_count (M:=(mskOf (pol1.mask 44) (pol1.gc 44) (pol1.acts 44) 0 3)) rfl mn' (fun i=>(⟨112,[(6,I i),(5,.ms 1 5 (i * lenG k) 0 (i * lenG k)),(2,.rf 0 1 0 0),(1,I f)],[.row 8 [.agg (nodeL 4 set [k] mn' mx md n neg)] 0,.row 5 ((copiesG k f i).map insAV) 0]⟩:St)) (fun _=>True) ?_ ?_ trivial _ ?_
 ·intro i hi _
  have e1:=copies_succ k f i
  have e3:(i+1) * lenG k=i * lenG k+lenG k:=Nat.succ_mul ..
  have e4:(i+1) * lenG k≤mn' * lenG k:=Nat.mul_le_mul_right _ hi
  have ihk:=ih (by omega) (f+i * lenG k) (by omega)
  have e2:=hcl i
  have hk5:=codeG_len caps top k (f+i * lenG k) hgk
  have hadd:(f:Int)+((i * lenG k:Nat):Int)=((f+i * lenG k:Nat):Int):=by omega
  have happ:=fun b0=>app_row (H:=[b0,.row 5 ((copiesG k f i).map insAV) 0,.row 5 ((codeG k (f+i * lenG k)).map insAV) 0]) (i:=1) (j:=2) (n:=i * lenG k) (m:=lenG k) rfl rfl (by rw[List.length_map];exact e2) hk5 (Nat.zero_le _) (by omega)
  simp +contextual (disch:=omega) only[Try.f44,dd44,go_sem,simprocAttr,mu44,↓wrap_up,↓wrap_down,↓wrap_pred,↓wrap_sub_nat,ihk,hadd,happ,hl8,ht8]
  rw[e1,e3,List.map_append]
  exact(by first|rfl|(refine prep_to (n:=2) (m:=⟨some [6,5,2,1],some 2,[]⟩) rfl rfl ?_ ?_ ?_<;>first|rfl|(simp[keepT,AV.underL,AV.under,MB.under,underL_plain,under_plain,underL_append,plain_ints,plain_span,plain_ins,plain_prg,-List.map_take,-List.map_replicate,-List.map_set,plain_kids,plain_reC];done)|(simp[keepT,AV.underL,AV.under,MB.under,underL_plain,under_plain,underL_append,plain_ints,plain_span,plain_ins,plain_prg,-List.map_take,-List.map_replicate,-List.map_set,plain_kids,plain_reC];omega)))
 ·intro _
  have e2:=hcl mn'
  have hadd:(f:Int)+((mn' * lenG k:Nat):Int)=((f+mn' * lenG k:Nat):Int):=by omega
  by_cases hmx:mx = -1
  ·subst hmx
   have hcode:codeG (.mk 4 set [k] mn' (-1) md n neg) f=copiesG k f mn'++insSplit md ((f+mn' * lenG k+1:Nat):Int) ((f+mn' * lenG k+lenG k+2:Nat):Int)::(codeG k (f+mn' * lenG k+1)++[⟨3,(f+mn' * lenG k:Nat),0,0,[]⟩]):=by
    rw[codeG]
    simp only[copiesG,hll,codeHd,Int.toNat_natCast,if_true]
    rfl
   have hL:lenG (.mk 4 set [k] mn' (-1) md n neg)=mn' * lenG k+1+lenG k+1:=by
    rw[lenG,if_neg (by omega),if_neg (by omega),if_neg (by omega),if_pos rfl,if_pos rfl,hll,Int.toNat_natCast,Nat.succ_mul]
    omega
   rw[hcode]at hlen ⊢
   rw[hL]at hlen hl hf ⊢
   have hk5:=codeG_len caps top k (f+mn' * lenG k+1) hgk
   have ihk:=ih (by omega) (f+mn' * lenG k+1) (by omega)
   generalize hC:copiesG k f mn' = C at *
   generalize hA:mn' * lenG k=a at *
   generalize hB:codeG k (f+a+1)=B at *
   have hadd2:((f+a:Nat):Int)+(lenG k:Int)=((f+a+lenG k:Nat):Int):=by omega
   have hap1:=fun b0 X x y=>app_one (H:=[b0,.row 5 (C.map insAV) 0,.row 5 (B.map insAV) 0,X]) (i:=1) (n:=a) (t:=true) (y:=.agg [I 2,I x,I y,I 0,.sl true []]) rfl (by rw[List.length_map];exact e2) rfl (Nat.zero_le _) (by omega)
   have hap2:=fun b0 X y=>app_row (H:=[b0,.row 5 (C.map insAV++[y]) 0,.row 5 (B.map insAV) 0,X]) (i:=1) (j:=2) (n:=a+1) (m:=lenG k) rfl rfl (by simp[e2]) hk5 (Nat.zero_le _) (by omega)
   have hap3:=fun b0 X y w=>app_one (H:=[b0,.row 5 (C.map insAV++[y]++B.map insAV) 0,.row 5 (B.map insAV) 0,X]) (i:=1) (n:=a+1+lenG k) (t:=true) (y:=.agg [I 3,I w,I 0,I 0,.sl true []]) rfl (by simp[e2,hk5];omega) rfl (Nat.zero_le _) (by omega)
   by_cases hmd:md=1
   ·subst hmd
    simp +contextual (disch:=omega) only[Try.f44,dd44,go_sem,simprocAttr,mu44,↓wrap_up,↓wrap_down,↓wrap_pred,↓wrap_sub_nat,ihk,hadd,hadd2,hap1,hap2,hap3,hl8,ht8]
    refine own_end (c:=C++insSplit 1 ((f+a+1:Nat):Int) ((f+a+lenG k+2:Nat):Int)::(B++[⟨3,(f+a:Nat),0,0,[]⟩])) rfl rfl rfl (by simpa using hlen) (by simp only[List.map_append,List.map_cons,List.map_nil]) (fun j=>?_)
    simp only[List.map_append,List.map_cons,List.map_nil,List.append_assoc,List.cons_append,List.nil_append,insSplit,if_true]
    exact(keep_ins C).append (.cons (fun H=>rfl) ((keep_ins B).append (.one fun H=>rfl)))
   ·simp +contextual (disch:=omega) only[Try.f44,dd44,go_sem,simprocAttr,mu44,↓wrap_up,↓wrap_down,↓wrap_pred,↓wrap_sub_nat,ihk,hadd,hadd2,hap1,hap2,hap3,hl8,ht8]
    refine own_end (c:=C++insSplit md ((f+a+1:Nat):Int) ((f+a+lenG k+2:Nat):Int)::(B++[⟨3,(f+a:Nat),0,0,[]⟩])) rfl rfl rfl (by simpa using hlen) (by simp only[List.map_append,List.map_cons,List.map_nil]) (fun j=>?_)
    simp only[List.map_append,List.map_cons,List.map_nil,List.append_assoc,List.cons_append,List.nil_append,insSplit,hmd,if_false]
    exact(keep_ins C).append (.cons (fun H=>rfl) ((keep_ins B).append (.one fun H=>rfl)))
  ·obtain⟨e,rfl⟩:∃ e:Nat,mx=(mn' + e:Nat):=⟨(mx - mn').toNat,by omega⟩
   have hnn:mn' + e - mn' = e:=by omega
   have hL:lenG (.mk 4 set [k] mn' (mn' + e:Nat) md n neg)=mn' * lenG k+e * (lenG k+1):=by
    rw[lenG,if_neg (by omega),if_neg (by omega),if_neg (by omega),if_pos rfl,if_neg hmx,hll,Int.toNat_natCast,Int.toNat_natCast,hnn,Nat.add_mul,Nat.mul_succ]
    omega
   have hcode:codeG (.mk 4 set [k] mn' (mn' + e:Nat) md n neg) f=restG md k f mn' (f+lenG (.mk 4 set [k] mn' (mn' + e:Nat) md n neg)) e:=by
    rw[codeG,if_neg (by omega),if_neg (by omega),if_neg (by omega),if_neg (by omega),if_neg (by omega),if_pos rfl,if_neg hmx]
    simp only[hll,Int.toNat_natCast,hnn,restG,optsG,copiesG,codeHd]
    have:f+(mn' + e) * lenG k+e=f+lenG (.mk 4 set [k] mn' (mn' + e:Nat) md n neg):=by
     rw[hL,Nat.add_mul,Nat.mul_succ];omega
    rw[this]
   generalize hLL:lenG (.mk 4 set [k] mn' (mn' + e:Nat) md n neg)=LL at *
   rw[hcode]at hlen ⊢
   have hrl:=fun i=>rest_len hgk md f mn' (f+LL) i
   have hadL:(f:Int)+(LL:Int)=((f+LL:Nat):Int):=by omega
   have h54':∀ H,call Try.prog pol1 24 [.agg [I 4,.sl false (set.map spanAV),.sl false [reAV k],I mn',I (mn' + e:Nat),I md,I n,.bool neg]] H=some (I (LL:Nat),H):=h54
   simp +contextual (disch:=omega) only[Try.f44,dd44,go_sem,simprocAttr,mu44,↓wrap_up,↓wrap_down,↓wrap_pred,↓wrap_sub_nat,h54',hadL]
   refine W_count (M:=(mskOf (pol1.mask 44) (pol1.gc 44) (pol1.acts 44) 0 17)) rfl e (fun i=>(⟨112,[(12,I (mn' + i:Nat)),(11,I (f+LL:Nat)),(5,.ms 1 5 (mn' * lenG k+i * (lenG k+1)) 0 (mn' * lenG k+i * (lenG k+1))),(2,.rf 0 1 0 0),(1,I f)],[.row 8 [.agg (nodeL 4 set [k] mn' (mn' + e:Nat) md n neg)] 0,.row 5 ((restG md k f mn' (f+LL) i).map insAV) 0]⟩:St)) (fun _=>True) ?_ ?_ trivial _ ?_
   ·intro i hi _
    have e1:=rest_succ md k f mn' (f+LL) i
    have e3:(i+1) * (lenG k+1)=i * (lenG k+1)+lenG k+1:=by rw[Nat.succ_mul];omega
    have e4:(i+1) * (lenG k+1)≤e * (lenG k+1):=Nat.mul_le_mul_right _ hi
    have e5:((mn' + i+1:Nat):Int)=((mn' + (i+1):Nat):Int):=by omega
    have hrli:=hrl i
    have e6:mn' * lenG k+i * (lenG k+1)+1+lenG k=mn' * lenG k+(i+1) * (lenG k+1):=by omega
    have ihk:=ih (by omega) (f+mn' * lenG k+i * (lenG k+1)+1) (by omega)
    have hk5:=codeG_len caps top k (f+mn' * lenG k+i * (lenG k+1)+1) hgk
    have had2:(f:Int)+((mn' * lenG k+i * (lenG k+1):Nat):Int)=((f+mn' * lenG k+i * (lenG k+1):Nat):Int):=by omega
    have hap1:=fun b0 X x y=>app_one (H:=[b0,.row 5 ((restG md k f mn' (f+LL) i).map insAV) 0,X]) (i:=1) (n:=mn' * lenG k+i * (lenG k+1)) (t:=true) (y:=.agg [I 2,I x,I y,I 0,.sl true []]) rfl (by rw[List.length_map];exact hrli) rfl (Nat.zero_le _) (by omega)
    have hz:=fun(x y:Int) (H:List MB)=>KeepL.fz (j:=fzJ 6) ((keep_ins (restG md k f mn' (f+LL) i)).append (KeepL.one (x:=.agg [I 2,I x,I y,I 0,.sl true []]) (y:=.agg [I 2,I x,I y,I 0,.sl false []]) (fun H=>rfl))) H
    have hz2:∀(x y:Int) (H:List MB),fzs ((restG md k f mn' (f+LL) i).map insAV++[.agg [I 2,I x,I y,I 0,.sl true []]]) H=some ((restG md k f mn' (f+LL) i).map insAV++[.agg [I 2,I x,I y,I 0,.sl false []]],H):=hz
    have hap2:=fun b0 X y=>app_row (H:=[b0,.row 5 ((restG md k f mn' (f+LL) i).map insAV++[y]) 0,X,.row 5 ((codeG k (f+mn' * lenG k+i * (lenG k+1)+1)).map insAV) 0]) (i:=1) (j:=3) (n:=mn' * lenG k+i * (lenG k+1)+1) (m:=lenG k) rfl rfl (by simp[hrli]) hk5 (Nat.zero_le _) (by omega)
    by_cases hmd:md=1
    ·subst hmd
     simp +contextual (disch:=omega) only[Try.f44,dd44,go_sem,simprocAttr,mu44,↓wrap_up,↓wrap_down,↓wrap_pred,↓wrap_sub_nat,ihk,had2,hap1,hz2,hap2,hl8,ht8,AV.beqL_refl]
     have er:(restG 1 k f mn' (f+LL) (i+1)).map insAV=(restG 1 k f mn' (f+LL) i).map insAV++[.agg [I 2,I (f+LL:Nat),I (f+mn' * lenG k+i * (lenG k+1)+1:Nat),I 0,.sl false []]]++(codeG k (f+mn' * lenG k+i * (lenG k+1)+1)).map insAV:=by
      rw[e1,List.map_append,List.map_cons,List.append_assoc,List.singleton_append,insSplit,if_pos rfl]
      rfl
     rw[er,← e6,← e5]
     exact(by first|rfl|(refine prep_to (n:=2) (m:=⟨some [12,11,5,2,1],some 2,[]⟩) rfl rfl ?_ ?_ ?_<;>first|rfl|(simp[keepT,AV.underL,AV.under,MB.under,underL_plain,under_plain,underL_append,plain_ints,plain_span,plain_ins,plain_prg,-List.map_take,-List.map_replicate,-List.map_set,plain_kids,plain_reC];done)|(simp[keepT,AV.underL,AV.under,MB.under,underL_plain,under_plain,underL_append,plain_ints,plain_span,plain_ins,plain_prg,-List.map_take,-List.map_replicate,-List.map_set,plain_kids,plain_reC];omega)))
    ·simp +contextual (disch:=omega) only[Try.f44,dd44,go_sem,simprocAttr,mu44,↓wrap_up,↓wrap_down,↓wrap_pred,↓wrap_sub_nat,ihk,had2,hap1,hz2,hap2,hl8,ht8,AV.beqL_refl]
     have er:(restG md k f mn' (f+LL) (i+1)).map insAV=(restG md k f mn' (f+LL) i).map insAV++[.agg [I 2,I (f+mn' * lenG k+i * (lenG k+1)+1:Nat),I (f+LL:Nat),I 0,.sl false []]]++(codeG k (f+mn' * lenG k+i * (lenG k+1)+1)).map insAV:=by
      rw[e1,List.map_append,List.map_cons,List.append_assoc,List.singleton_append,insSplit,if_neg hmd]
      rfl
     rw[er,← e6,← e5]
     exact(by first|rfl|(refine prep_to (n:=2) (m:=⟨some [12,11,5,2,1],some 2,[]⟩) rfl rfl ?_ ?_ ?_<;>first|rfl|(simp[keepT,AV.underL,AV.under,MB.under,underL_plain,under_plain,underL_append,plain_ints,plain_span,plain_ins,plain_prg,-List.map_take,-List.map_replicate,-List.map_set,plain_kids,plain_reC];done)|(simp[keepT,AV.underL,AV.under,MB.under,underL_plain,under_plain,underL_append,plain_ints,plain_span,plain_ins,plain_prg,-List.map_take,-List.map_replicate,-List.map_set,plain_kids,plain_reC];omega)))
   ·intro _
    have hre:=hrl e
    simp +contextual (disch:=omega) only[Try.f44,dd44,go_sem,simprocAttr,mu44,↓wrap_up,↓wrap_down,↓wrap_pred,↓wrap_sub_nat,hl8,ht8]
    rw[hL]at hlen ⊢
    exact own_end rfl rfl rfl hlen rfl (fun j=>keep_ins _)
   ·exact(by first|rfl|(refine prep_to (n:=2) (m:=⟨some [12,11,5,2,1],some 2,[]⟩) rfl rfl ?_ ?_ ?_<;>first|rfl|(simp[keepT,AV.underL,AV.under,MB.under,underL_plain,under_plain,underL_append,plain_ints,plain_span,plain_ins,plain_prg,-List.map_take,-List.map_replicate,-List.map_set,plain_kids,plain_reC,rest_zero];done)|(simp[keepT,AV.underL,AV.under,MB.under,underL_plain,under_plain,underL_append,plain_ints,plain_span,plain_ins,plain_prg,-List.map_take,-List.map_replicate,-List.map_set,plain_kids,plain_reC,rest_zero];omega)))
 ·exact(by first|rfl|(refine prep_to (n:=2) (m:=⟨some [6,5,2,1],some 2,[]⟩) rfl rfl ?_ ?_ ?_<;>first|rfl|(simp[keepT,AV.underL,AV.under,MB.under,underL_plain,under_plain,underL_append,plain_ints,plain_span,plain_ins,plain_prg,-List.map_take,-List.map_replicate,-List.map_set,plain_kids,plain_reC,copiesG];done)|(simp[keepT,AV.underL,AV.under,MB.under,underL_plain,under_plain,underL_append,plain_ints,plain_span,plain_ins,plain_prg,-List.map_take,-List.map_replicate,-List.map_set,plain_kids,plain_reC,copiesG];omega)))
end
section
attribute [local go_sem] tySzE List.head?_drop Nat.mul_one sameAt_zero sameAt_two sameAt_three sameAt_four sameAt_five room_ok
open Go.Proofs Go.RowKit Go.IntWalk
set_option maxRecDepth 100000
set_option maxHeartbeats 8000000
theorem call_frz' {P:Program} {pol:Pol} {f:Nat} {args l:List AV} {H H1:List MB} (hp:pol.pure f=true) (h:frzArgs pol f 0 args H=some (l,H1)) (ha:AV.plainL l=true) :
  call P pol f args H=call P pol f l H1:=by
 have hf:∀(l:List AV) (i:Nat),AV.plainL l=true→frzArgs pol f i l H1=some (l,H1):=by
  intro l
  induction l with
  | nil=>intro i _;rfl
  | cons x l ih=>
    intro i h
    simp only[AV.plainL,Bool.and_eq_true]at h
    simp only[frzArgs,fz_plain H1 h.1,ih (i+1) h.2]
    split<;>simp_all
 rw[call_eq,call_eq]
 unfold evStep
 simp only[hp,if_true,h,hf l 0 ha]
theorem codeCat_append:∀(a b:List Re) (f:Nat),codeCat (a++b) f=codeCat a f++codeCat b (f+lenL a)
 | [],b,f=>by simp[codeCat,lenL]
 | k::ks,b,f=>by simp[codeCat,lenL,codeCat_append ks b,Nat.add_assoc]
theorem codeCat_take {l:List Re} {i:Nat} {k:Re} (h:l[i]?=some k) (f:Nat):codeCat (l.take (i+1)) f=codeCat (l.take i) f++codeG k (f+lenL (l.take i)):=by
 rw[List.take_add_one,h,codeCat_append];simp[codeCat]
theorem lenL_take_le:∀(l:List Re) (i:Nat),lenL (l.take i)≤lenL l:=fun l i=>by
 have:=lenL_append (l.take i) (l.drop i)
 rw[List.take_append_drop]at this
 omega
theorem good_rest {caps top:Int} {a b:Re} {ks:List Re} {set:List (Int×Int)} {mn mx md n:Int} {neg:Bool} (h:GoodC caps top (.mk 3 set (a::b::ks) mn mx md n neg)) (hk:ks≠[]):GoodC caps top (.mk 3 [] (b::ks) 0 0 0 0 false):=by
 have hq:2≤(b::ks).length:=by
  cases ks with
  | nil=>exact absurd rfl hk
  | cons _ _=>simp
 refine⟨?_,?_⟩
 ·rw[wholeG,Bool.and_eq_true,wholeL_iff]
  refine⟨?_,fun k hk=>(h.kids k (List.mem_cons_of_mem _ hk)).whole⟩
  simp[formedG,kidsG]at hq ⊢
  omega
 ·rw[codable,Bool.and_eq_true,codableL_iff]
  exact⟨rfl,fun k hk=>(h.kids k (List.mem_cons_of_mem _ hk)).cod⟩
theorem f55 (caps top:Int) (hcaps:caps≤1000):∀(N:Nat) (r:Re),r.wt≤N→r.wt≤1000000→GoodC caps top r→Does55 r
 | 0,r,h,_,_=>by have:=r.wt_pos;omega
 | N+1,.mk op set kids mn mx md n neg,h,hN,hw=>by
   intro hl f hf H
   have hkl:=Re.wtL_len kids
   have hwt:1+set.length+Re.wtL kids=(Re.mk op set kids mn mx md n neg).wt:=by simp[Re.wt]
   have hop:=hw.op
   have hlen:=codeG_len caps top _ f hw
   obtain⟨hwk,hkd,hrp,hnn,ho1,ho2⟩:=whole_facts hw.whole
   have hgk:=hw.kids
   have ih:=fun k (hk:k∈kids)=>f55 caps top hcaps N k (by have:=Re.wtL_mem hk;omega) (by have:=Re.wtL_mem hk;omega) (hgk k hk)
   have e0:reAV (.mk op set kids mn mx md n neg)=.agg (nodeL op set kids mn mx md n neg):=congrArg AV.agg reC_mk
   rcases hop with rfl|rfl|rfl|rfl|rfl|rfl|rfl
   ·have hk0:kids=[]:=List.length_eq_zero_iff.1 (by simpa [kidsG] using hkd)
    subst hk0
    rw[e0]
    refine call_runO (k:=5) (els:=(codeG (.mk 0 set [] mn mx md n neg) f).map insAV) Try.func25 rfl rfl rfl rfl (fun _=>rfl) (by simp[AV.plain,AV.plainL,plain_span,plain_kids,plain_reC]) (plain_ins _) ?_ H
    have hc:codeG (.mk 0 set [] mn mx md n neg) f=[]:=by rw[codeG];rfl
    rw[← hlen,hc]
    simp +contextual (disch:=omega) only[Try.f25,dd25,go_sem,simprocAttr,mu25,↓wrap_up,↓wrap_down,↓wrap_pred,↓wrap_sub_nat]
    exact own_end (c:=[]) rfl rfl rfl rfl rfl (fun j=>.nil)
   ·rw[e0]
    refine call_runO (k:=5) (els:=(codeG (.mk 1 set kids mn mx md n neg) f).map insAV) Try.func25 rfl rfl rfl rfl (fun _=>rfl) (by simp[AV.plain,AV.plainL,plain_span,plain_kids,plain_reC]) (plain_ins _) ?_ H
    have hc:codeG (.mk 1 set kids mn mx md n neg) f=[⟨1,0,0,0,set⟩]:=by rw[codeG];rfl
    rw[← hlen,hc]
    simp +contextual (disch:=omega) only[Try.f25,dd25,go_sem,simprocAttr,mu25,↓wrap_up,↓wrap_down,↓wrap_pred,↓wrap_sub_nat]
    exact own_end (c:=[⟨1,0,0,0,set⟩]) rfl rfl rfl rfl rfl (fun j=>keep_ins [⟨1,0,0,0,set⟩])
   ·rw[e0]
    refine call_runO (k:=5) (els:=(codeG (.mk 2 set kids mn mx md n neg) f).map insAV) Try.func25 rfl rfl rfl rfl (fun _=>rfl) (by simp[AV.plain,AV.plainL,plain_span,plain_kids,plain_reC]) (plain_ins _) ?_ H
    have hc:codeG (.mk 2 set kids mn mx md n neg) f=codeCat kids f:=by rw[codeG];rfl
    have hL:lenG (.mk 2 set kids mn mx md n neg)=lenL kids:=by rw[lenG];rfl
    rw[hL]at hlen hl hf ⊢
    rw[hc]at hlen ⊢
    simp +contextual (disch:=omega) only[Try.f25,dd25,go_sem,simprocAttr,mu25,↓wrap_up,↓wrap_down,↓wrap_pred,↓wrap_sub_nat]
    refine W_count (M:=(mskOf (pol1.mask 25) (pol1.gc 25) (pol1.acts 25) 0 9)) rfl kids.length (fun i=>(⟨132,[(6,I i),(5,.ms 1 5 (lenL (kids.take i)) 0 (lenL (kids.take i))),(2,.rf 0 1 0 0),(1,I f)],[.row 8 [.agg (nodeL 2 set kids mn mx md n neg)] 0,.row 5 ((codeCat (kids.take i) f).map insAV) 0]⟩:St)) (fun _=>True) ?_ ?_ trivial _ (by first|rfl|(refine prep_to (n:=2) (m:=⟨some [6,5,2,1],some 2,[]⟩) rfl rfl ?_ ?_ ?_<;>first|rfl|(simp[keepT,AV.underL,AV.under,MB.under,underL_plain,under_plain,underL_append,plain_ints,plain_span,plain_ins,plain_prg,-List.map_take,-List.map_replicate,-List.map_set,lenL,plain_kids,codeCat];done)|(simp[keepT,AV.underL,AV.under,MB.under,underL_plain,under_plain,underL_append,plain_ints,plain_span,plain_ins,plain_prg,-List.map_take,-List.map_replicate,-List.map_set,lenL,plain_kids,codeCat];omega)))
    ·intro i hi _
     obtain⟨k,hk⟩:∃ k,kids[i]?=some k:=⟨_,List.getElem?_eq_getElem hi⟩
     have hkm:=List.mem_of_getElem? hk
     have hl8:=reC_len k
     have ht8:=reC_take k
     have e1:=lenL_take hk
     have e2:=codeCat_take hk f
     have e4:=lenL_take_le kids (i+1)
     have hck:=codeCat_len caps top (kids.take i) f (fun k h=>hgk k (List.mem_of_mem_take h))
     have hk5:=codeG_len caps top k (f+lenL (kids.take i)) (hgk k hkm)
     have ihk:=ih k hkm (by omega) (f+lenL (kids.take i)) (by omega)
     have hadd:(f:Int)+((lenL (kids.take i):Nat):Int)=((f+lenL (kids.take i):Nat):Int):=by omega
     have happ:=fun b0=>app_row (H:=[b0,.row 5 ((codeCat (kids.take i) f).map insAV) 0,.row 5 ((codeG k (f+lenL (kids.take i))).map insAV) 0]) (i:=1) (j:=2) (n:=lenL (kids.take i)) (m:=lenG k) rfl rfl (by rw[List.length_map];exact hck) hk5 (Nat.zero_le _) (by omega)
     simp +contextual (disch:=omega) only[Try.f25,dd25,go_sem,simprocAttr,mu25,↓wrap_up,↓wrap_down,↓wrap_pred,↓wrap_sub_nat,hk,ihk,hadd,happ,hl8,ht8]
     rw[e1,e2,List.map_append]
     exact(by first|rfl|(refine prep_to (n:=2) (m:=⟨some [6,5,2,1],some 2,[]⟩) rfl rfl ?_ ?_ ?_<;>first|rfl|(simp[keepT,AV.underL,AV.under,MB.under,underL_plain,under_plain,underL_append,plain_ints,plain_span,plain_ins,plain_prg,-List.map_take,-List.map_replicate,-List.map_set,plain_kids];done)|(simp[keepT,AV.underL,AV.under,MB.under,underL_plain,under_plain,underL_append,plain_ints,plain_span,plain_ins,plain_prg,-List.map_take,-List.map_replicate,-List.map_set,plain_kids];omega)))
    ·intro _
     rw[List.take_length]
     simp +contextual (disch:=omega) only[Try.f25,dd25,go_sem,simprocAttr,mu25,↓wrap_up,↓wrap_down,↓wrap_pred,↓wrap_sub_nat]
     exact own_end rfl rfl rfl hlen rfl (fun j=>keep_ins _)
   ·match kids,hkd with
    | [],hkd=>simp[kidsG]at hkd
    | [_],hkd=>simp[kidsG]at hkd
    | k1::k2::ks,hkd=>
    have g1:=hgk k1 (List.mem_cons_self ..)
    have g2:=hgk k2 (List.mem_cons_of_mem _ (List.mem_cons_self ..))
    have hc:codeG (.mk 3 set (k1::k2::ks) mn mx md n neg) f=⟨2,(f+1:Nat),(f+lenG k1+2:Nat),0,[]⟩::(codeG k1 (f+1)++(⟨3,(f+lenL (k1::k2::ks)+2 * (k2::ks).length:Nat),0,0,[]⟩::codeAlt (k2::ks) (f+lenG k1+2))):=by
     rw[codeG,if_neg (by omega),if_neg (by omega),if_neg (by omega),if_pos rfl,codeAlt,if_neg (by simp)]
    have hL:lenG (.mk 3 set (k1::k2::ks) mn mx md n neg)=lenG k1+lenL (k2::ks)+2 * (ks.length+1):=by
     rw[lenG,if_neg (by omega),if_pos rfl,lenL]
     simp only[List.length_cons]
     omega
    have hal:=codeAlt_len caps top (k2::ks) (f+lenG k1+2) (fun k h=>hgk k (List.mem_cons_of_mem _ h)) (by simp)
    have hjmp:f+lenL (k1::k2::ks)+2 * (k2::ks).length=f+lenG k1+2+(lenL (k2::ks)+2 * ks.length):=by
     rw[lenL];simp only[List.length_cons];omega
    rw[hL]at hlen hl hf ⊢
    rw[hc,hjmp]at hlen ⊢
    simp only[List.length_cons,Nat.add_sub_cancel]at hal
    have hl2:lenL (k2::ks)=lenG k2+lenL ks:=rfl
    have ih1:=ih k1 (List.mem_cons_self ..) (by omega) (f+1) (by omega)
    have hk1:=codeG_len caps top k1 (f+1) g1
    have hsec:∀ H,call Try.prog pol1 25 [if ks.length=0 then reAV k2 else .agg [I 3,.sl true [],.sl false ((k2::ks).map reAV),I 0,I 0,I 0,I 0,.bool false],I (f+lenG k1+2:Nat)] H =
      some (.ms H.length 5 (lenL (k2::ks)+2 * ks.length) 0 (lenL (k2::ks)+2 * ks.length),H++[.row 5 ((codeAlt (k2::ks) (f+lenG k1+2)).map insAV) 0]):=by
     intro H
     split
     ·rename_i h0
      have:ks=[]:=List.length_eq_zero_iff.1 h0
      subst this
      have ih2:=ih k2 (List.mem_cons_of_mem _ (List.mem_cons_self ..)) (by omega) (f+lenG k1+2) (by omega) H
      rw[ih2]
      simp[codeAlt,lenL]
     ·rename_i h0
      have hne:ks≠[]:=fun e=>h0 (by rw[e];rfl)
      have ihr:=f55 caps top hcaps N (.mk 3 [] (k2::ks) 0 0 0 0 false) (by simp only[Re.wt,Re.wtL,List.length_nil]at h ⊢;have:=k1.wt_pos;omega) (by simp only[Re.wt,Re.wtL,List.length_nil]at hN ⊢;have:=k1.wt_pos;omega) (good_rest hw hne)
      have hlr:lenG (.mk 3 [] (k2::ks) 0 0 0 0 false)=lenL (k2::ks)+2 * ks.length:=by
       rw[lenG,if_neg (by omega),if_pos rfl];simp
      have hcr:codeG (.mk 3 [] (k2::ks) 0 0 0 0 false) (f+lenG k1+2)=codeAlt (k2::ks) (f+lenG k1+2):=by rw[codeG];rfl
      have ih2:=ihr (by omega) (f+lenG k1+2) (by omega) H
      rw[hlr,hcr]at ih2
      rw[← ih2]
      refine call_frz' rfl ?_ (by simp[AV.plain,AV.plainL,plain_reC])
      have hby:∀ i,pol1.byref 25 i=false:=fun i=>rfl
      have hz:fz (.agg [I 3,.sl true [],.sl false ((k2::ks).map reAV),I 0,I 0,I 0,I 0,.bool false]) H=some (reAV (.mk 3 [] (k2::ks) 0 0 0 0 false),H):=by
       rw[show reAV (.mk 3 [] (k2::ks) 0 0 0 0 false)=.agg (nodeL 3 [] (k2::ks) 0 0 0 0 false) from congrArg AV.agg reC_mk]
       have hzk:∀ H,fzL (fzJ 6) ((k2::ks).map reAV) H=some ((k2::ks).map reAV,H):=fun H=>fzL_plain _ _ H (plain_kids _)
       simp only[fz,fzA,fzL,hzk,List.map_nil]
       rfl
      have h2:∀ x H,fz (I x) H=some (I x,H):=fun x H=>rfl
      simp only[frzArgs,hby,Bool.false_eq_true,if_false,hz,h2]
    rw[e0]
    refine call_runO (k:=5) Try.func25 rfl rfl rfl rfl (fun _=>rfl) (by simp[AV.plain,AV.plainL,plain_span,plain_kids,plain_reC]) (plain_ins _) ?_ H
    have hl8:=reC_len k1
    have ht8:=reC_take k1
    have hl9:=reC_len k2
    have ht9:=reC_take k2
    have hok:=reC_ok k2
    have hadd:((f:Int)+(lenG k1:Int))=((f+lenG k1:Nat):Int):=by omega
    have had2:((f+lenG k1:Nat):Int)+2=((f+lenG k1+2:Nat):Int):=by omega
    generalize hS:codeAlt (k2::ks) (f+lenG k1+2)=S at *
    generalize hM:lenL (k2::ks)+2 * ks.length=m at *
    have hLm:lenG k1+lenL (k2::ks)+2 * (ks.length+1)=1+lenG k1+1+m:=by omega
    rw[hLm]at hlen hl hf ⊢
    generalize codeG k1 (f+1)=K at *
    have had3:((f+lenG k1+2:Nat):Int)+(m:Int)=((f+lenG k1+2+m:Nat):Int):=by omega
    have hap1:=fun b0 X Y Z x y=>app_one (H:=[b0,.row 5 [] 0,X,Y,Z]) (i:=1) (n:=0) (t:=true) (y:=.agg [I 2,I x,I y,I 0,.sl true []]) rfl rfl rfl (Nat.zero_le _) (by omega)
    have hap2:=fun b0 Y Z y=>app_row (H:=[b0,.row 5 [y] 0,.row 5 (K.map insAV) 0,Y,Z]) (i:=1) (j:=2) (n:=1) (m:=lenG k1) rfl rfl rfl hk1 (Nat.zero_le _) (by omega)
    have hap3:=fun b0 X Y Z y w=>app_one (H:=[b0,.row 5 (y::K.map insAV) 0,X,Y,Z]) (i:=1) (n:=1+lenG k1) (t:=true) (y:=.agg [I 3,I w,I 0,I 0,.sl true []]) rfl (by simp[hk1];omega) rfl (Nat.zero_le _) (by omega)
    have hap4:=fun b0 X Y y w=>app_row (H:=[b0,.row 5 (y::(K.map insAV++[w])) 0,X,Y,.row 5 (S.map insAV) 0]) (i:=1) (j:=4) (n:=1+lenG k1+1) (m:=m) rfl rfl (by simp[hk1];omega) hal (Nat.zero_le _) (by omega)
    have fin:∀(H:List MB) (y w:AV),(∀ j H,fzA j y H=some (insAV ⟨2,(f+1:Nat),(f+lenG k1+2:Nat),0,[]⟩,H))→(∀ j H,fzA j w H=some (insAV ⟨3,(f+lenG k1+2+m:Nat),0,0,[]⟩,H))→getRow H 1=some (5,y::(K.map insAV++[w]++S.map insAV),0)→retPol pol1 25 [] (.ms 1 5 (1+lenG k1+1+m) 0 (1+lenG k1+1+m)) H=some (.ms 0 5 (1+lenG k1+1+m) 0 (1+lenG k1+1+m),[.row 5 ((⟨2,(f+1:Nat),(f+lenG k1+2:Nat),0,[]⟩::(K++(⟨3,(f+lenG k1+2+m:Nat),0,0,[]⟩::S))).map insAV) 0]):=by
     intro H y w hy hw hr
     refine own_end rfl rfl hr hlen rfl (fun j=>?_)
     simp only[List.map_cons,List.map_append,List.append_assoc,List.singleton_append]
     exact .cons (hy j) ((keep_ins K).append (.cons (hw j) (keep_ins S)))
    cases ks with
    | nil=>
      simp only[List.length_nil,if_true]at hsec
      simp +contextual (disch:=omega) only[Try.f25,dd25,go_sem,simprocAttr,mu25,↓wrap_up,↓wrap_down,↓wrap_pred,↓wrap_sub_nat,ih1,hsec,hadd,had2,had3,hap1,hap2,hap3,hap4,hl8,ht8,hl9,ht9,hok]
      refine Eq.trans (fin _ (.agg [I 2,I (f+1:Nat),I (f+lenG k1+2:Nat),I 0,.sl true []]) (.agg [I 3,I (f+lenG k1+2+m:Nat),I 0,I 0,.sl true []]) (fun j H=>rfl) (fun j H=>rfl) ?_) ?_
      ·rfl
      ·simp only[List.map_cons,List.map_append]
    | cons k3 ks=>
      simp only[List.length_cons,Nat.add_eq_zero_iff,Nat.one_ne_zero,and_false,if_false,List.map_cons]at hsec
      have hlk:(ks.map reAV).all (fun y=>decide (y.cells.length=8))=true:=by simp[AV.cells,reC_len]
      simp only[AV.cells]at hlk
      have hl3:=reC_len k3
      have htk:List.take ks.length (ks.map reAV)=ks.map reAV:=List.take_of_length_le (by simp)
      have hdr:List.drop 8 (reC k2)=[]:=List.drop_eq_nil_of_le (by rw[hl9];omega)
      simp +contextual (disch:=omega) only[Try.f25,dd25,go_sem,simprocAttr,mu25,↓wrap_up,↓wrap_down,↓wrap_pred,↓wrap_sub_nat,ih1,hsec,hadd,had2,had3,hap1,hap2,hap3,hap4,hl8,ht8,hl9,ht9,hok,hlk,hl3,htk,hdr]
      refine Eq.trans (fin _ (.agg [I 2,I (f+1:Nat),I (f+lenG k1+2:Nat),I 0,.sl true []]) (.agg [I 3,I (f+lenG k1+2+m:Nat),I 0,I 0,.sl true []]) (fun j H=>rfl) (fun j H=>rfl) ?_) ?_
      ·rfl
      ·simp only[List.map_cons,List.map_append]
   ·obtain⟨k,rfl⟩:∃ k,kids=[k]:=List.length_eq_one_iff.1 (by simpa [kidsG] using hkd)
    have h116:=f116 caps top set k mn mx md n neg hw hN (ih k (List.mem_singleton.2 rfl)) hl f hf
    rw[e0]at h116 ⊢
    refine call_runO (k:=5) (els:=(codeG (.mk 4 set [k] mn mx md n neg) f).map insAV) Try.func25 rfl rfl rfl rfl (fun _=>rfl) (by simp[AV.plain,AV.plainL,plain_span,plain_kids,plain_reC]) (plain_ins _) ?_ H
    simp only[nodeL,List.map_cons,List.map_nil]at h116
    generalize lenG (.mk 4 set [k] mn mx md n neg)=LL at *
    generalize codeG (.mk 4 set [k] mn mx md n neg) f=C at *
    simp +contextual (disch:=omega) only[Try.f25,dd25,go_sem,simprocAttr,mu25,↓wrap_up,↓wrap_down,↓wrap_pred,↓wrap_sub_nat,h116]
    exact own_end rfl rfl rfl hlen rfl (fun j=>keep_ins _)
   ·obtain⟨k,rfl⟩:∃ k,kids=[k]:=List.length_eq_one_iff.1 (by simpa [kidsG] using hkd)
    have hn1:=hnn (.inl rfl)
    rw[e0]
    refine call_runO (k:=5) (els:=(codeG (.mk 5 set [k] mn mx md n neg) f).map insAV) Try.func25 rfl rfl rfl rfl (fun _=>rfl) (by simp[AV.plain,AV.plainL,plain_span,plain_kids,plain_reC]) (plain_ins _) ?_ H
    have hc:codeG (.mk 5 set [k] mn mx md n neg) f=⟨4,0,0,2 * n - 2,[]⟩::(codeG k (f+1)++[⟨4,0,0,2 * n - 1,[]⟩]):=by rw[codeG];rfl
    have hL:lenG (.mk 5 set [k] mn mx md n neg)=1+lenG k+1:=by
     rw[lenG,if_neg (by omega),if_neg (by omega),if_pos rfl];simp[lenL];omega
    rw[hL]at hlen hl hf ⊢
    rw[hc]at hlen ⊢
    have hl8:=reC_len k
    have ht8:=reC_take k
    have ihk:=ih k (List.mem_singleton.2 rfl) (by omega) (f+1) (by omega)
    have hk5:=codeG_len caps top k (f+1) (hgk k (List.mem_singleton.2 rfl))
    generalize codeG k (f+1)=K at *
    have hap1:=fun b0 w=>app_one (H:=[b0,.row 5 [] 0]) (i:=1) (n:=0) (t:=true) (y:=.agg [I 4,I 0,I 0,I w,.sl true []]) rfl rfl rfl (Nat.zero_le _) (by omega)
    have hap2:=fun b0 y=>app_row (H:=[b0,.row 5 [y] 0,.row 5 (K.map insAV) 0]) (i:=1) (j:=2) (n:=1) (m:=lenG k) rfl rfl rfl hk5 (Nat.zero_le _) (by omega)
    have hap3:=fun b0 y w=>app_one (H:=[b0,.row 5 (y::K.map insAV) 0,.row 5 (K.map insAV) 0]) (i:=1) (n:=1+lenG k) (t:=true) (y:=.agg [I 4,I 0,I 0,I w,.sl true []]) rfl (by simp[hk5];omega) rfl (Nat.zero_le _) (by omega)
    simp +contextual (disch:=omega) only[Try.f25,dd25,go_sem,simprocAttr,mu25,↓wrap_up,↓wrap_down,↓wrap_pred,↓wrap_sub_nat,ihk,hap1,hap2,hap3,hl8,ht8]
    repeat' (first|intro _|apply And.intro|(unfold dOk;kernel_rfl)|exact St.beq_refl _|(show altO _ _ _ _=true;kernel_rfl)|(show (_ || _)=true;kernel_rfl)|(show (_ && _)=true;kernel_rfl))
    refine own_end (c:=⟨4,0,0,2 * n - 2,[]⟩::(K++[⟨4,0,0,2 * n - 1,[]⟩])) rfl rfl rfl (by simpa using hlen) (by simp only[List.map_append,List.map_cons,List.map_nil]) (fun j=>?_)
    simp only[List.map_append,List.map_cons,List.map_nil]
    exact .cons (fun H=>rfl) ((keep_ins K).append (.one fun H=>rfl))
   ·rw[e0]
    refine call_runO (k:=5) (els:=(codeG (.mk 11 set kids mn mx md n neg) f).map insAV) Try.func25 rfl rfl rfl rfl (fun _=>rfl) (by simp[AV.plain,AV.plainL,plain_span,plain_kids,plain_reC]) (plain_ins _) ?_ H
    have hc:codeG (.mk 11 set kids mn mx md n neg) f=[⟨5,0,0,n,[]⟩]:=by rw[codeG];rfl
    rw[← hlen,hc]
    simp +contextual (disch:=omega) only[Try.f25,dd25,go_sem,simprocAttr,mu25,↓wrap_up,↓wrap_down,↓wrap_pred,↓wrap_sub_nat]
    exact own_end (c:=[⟨5,0,0,n,[]⟩]) rfl rfl rfl rfl rfl (fun j=>.one fun H=>rfl)
end
section
attribute [local go_sem] evAppend
open Go.Proofs Go.RowKit Go.IntWalk
set_option maxRecDepth 100000
set_option maxHeartbeats 4000000
structure PrgN (g:Prg) (a b:Nat):Prop where
 len:g.ins.length≤a
 sets:∀ i∈g.ins,i.set.length≤b
 caps:In64 g.caps
theorem get5 (a b c d e:Int) {j:Nat} (h:j < 5):([I a,I b,I c,I d,I e]:List AV)[j]?=some (I ([a,b,c,d,e].getD j 0)):=by
 rcases j with _|_|_|_|_|j
 all_goals first|rfl|omega
theorem get4 (a b c d:Int) {j:Nat} (h:j < 4):([I a,I b,I c,I d]:List AV)[j]?=some (I ([a,b,c,d].getD j 0)):=by
 rcases j with _|_|_|_|j
 all_goals first|rfl|omega
theorem fz_ms {id m tot:Nat} {ins:List Ins} {caps:Int} {runes:Bool} {H:List MB} (hr:getRow H id=some (5,ins.map insAV,0)) (hn:tot=ins.length) (hm:m≤tot) :
  ∃ H',fz (.agg [.ms id 5 tot 0 m,I caps,.bool runes]) H=some (.agg [.sl false ((ins.take m).map insAV),I caps,.bool runes],H'):=by
 subst hn
 simp only[fz,fzA_agg,fzL]
 rw[fzA_ms (n:=5) (k:=5) (ys:=(ins.take m).map insAV) hr (by simp) (by omega) (by
  rw[List.drop_zero,← List.map_take];exact fzL_plain _ _ _ (plain_ins _))]
 exact⟨_,rfl⟩
theorem all_ins5 (l:List Ins):((l.map insAV).all fun y=>decide (y.cells.length=5) && y.cells.all AV.ok)=true:=by
 simp only[List.all_eq_true,List.mem_map,Bool.and_eq_true,decide_eq_true_eq]
 rintro _ ⟨i,_,rfl⟩
 exact⟨rfl,fun x hx=>by
  simp only[AV.cells,List.mem_cons,List.not_mem_nil,or_false]at hx
  rcases hx with rfl|rfl|rfl|rfl|rfl<;>rfl⟩
theorem fz_all {id tot:Nat} {ins:List Ins} {caps:Int} {runes:Bool} {H:List MB} (hr:getRow H id=some (5,ins.map insAV,0)) (hn:tot=ins.length) :
  ∃ H',fz (.agg [.ms id 5 tot 0 tot,I caps,.bool runes]) H=some (prgAV ⟨ins,caps,runes⟩,H'):=by
 obtain⟨H',h⟩:=fz_ms (caps:=caps) (runes:=runes) hr hn (Nat.le_refl _)
 rw[hn,List.take_length]at h
 rw[hn]
 exact⟨H',h⟩
theorem fzL_append {j:List AV→List MB→Option (List AV×List MB)} (ys:List AV):∀(xs:List AV) (H:List MB),fzL j (xs++ys) H=(match fzL j xs H with
  | some (a,H1)=>(match fzL j ys H1 with
    | some (b,H2)=>some (a++b,H2)
    | none=>none)
  | none=>none)
 | [],H=>by
   simp only[List.nil_append,fzL]
   cases fzL j ys H with
   | none=>rfl
   | some q=>rfl
 | x::xs,H=>by
   simp only[List.cons_append,fzL]
   cases fzA j x H with
   | none=>rfl
   | some q=>
     simp only[fzL_append ys xs q.2]
     cases fzL j xs q.2 with
     | none=>rfl
     | some q2=>
       simp only[]
       cases fzL j ys q2.2 with
       | none=>rfl
       | some q3=>rfl
theorem fz_set {tot m i:Nat} {ins:List Ins} {op px py pn caps:Int} {runes:Bool} {sp:List (Int×Int)} {r0 r1:MB} (hi:i < ins.length) (hn:tot=ins.length) (hm:m=sp.length) :
  ∃ H',fz (.agg [.ms 2 5 tot 0 tot,I caps,.bool runes]) [r0,r1,.row 5 ((ins.map insAV).set i (.agg [I op,I px,I py,I pn,.ms 3 2 m 0 m])) 0,.row 2 (sp.map spanAV) 0] =
    some (prgAV ⟨ins.set i ⟨op,px,py,pn,sp⟩,caps,runes⟩,H'):=by
 subst hn;subst hm
 obtain⟨E,hE⟩:∃ E,(ins.map insAV).set i (.agg [I op,I px,I py,I pn,.ms 3 2 sp.length 0 sp.length])=E:=⟨_,rfl⟩
 have hl:E.length=ins.length:=by rw[← hE];simp
 have ht:E=(ins.take i).map insAV++(.agg [I op,I px,I py,I pn,.ms 3 2 sp.length 0 sp.length])::(ins.drop (i+1)).map insAV:=by
  rw[← hE,List.set_eq_take_append_cons_drop,if_pos (by simpa using hi),List.map_take,List.map_drop]
 rw[hE]
 have hsp:∀(j:Nat) (H:List MB),getRow H 3=some (2,sp.map spanAV,0)→fzA (fzJ (j+1)) (.ms 3 2 sp.length 0 sp.length) H=some (.sl false (sp.map spanAV),mark H 3 (0+sp.length)):=fun j H h=>
  fzA_ms h (by simp) (by simp) (by rw[List.drop_zero,List.take_of_length_le (by simp)];exact fzL_plain _ _ _ (plain_span _))
 have hrow:∃ H',fzL (fzJ 5) E [r0,r1,.row 5 E (max 0 (0+ins.length)),.row 2 (sp.map spanAV) 0]=some ((ins.set i ⟨op,px,py,pn,sp⟩).map insAV,H'):=by
  generalize hHH:([r0,r1,.row 5 E (max 0 (0+ins.length)),.row 2 (sp.map spanAV) 0]:List MB)=HH
  have h3:getRow HH 3=some (2,sp.map spanAV,0):=by rw[← hHH];rfl
  rw[ht,fzL_append,fzL_plain _ _ _ (plain_ins _)]
  simp only[fzL,fzA_agg,fzA_int,hsp 4 HH h3,fzL_plain _ _ _ (plain_ins _)]
  refine⟨mark HH 3 (0+sp.length),?_⟩
  rw[List.map_set,List.set_eq_take_append_cons_drop,if_pos (by simpa using hi),List.map_take,List.map_drop]
 obtain⟨H',hrow⟩:=hrow
 simp only[fz,fzA_agg,fzL]
 rw[fzA_ms (n:=5) (k:=5) (z:=0) (els:=E) (ys:=(ins.set i ⟨op,px,py,pn,sp⟩).map insAV) (H':=H') rfl hl (by simp) (by
  rw[List.drop_zero,List.take_of_length_le (by rw[hl];exact Nat.le_refl _)];exact hrow)]
 exact⟨_,rfl⟩
theorem all_span2 (l:List (Int×Int)):((l.map spanAV).all fun y=>decide (y.cells.length=2) && y.cells.all AV.ok)=true:=by
 simp only[List.all_eq_true,List.mem_map,Bool.and_eq_true,decide_eq_true_eq]
 rintro _ ⟨i,_,rfl⟩
 exact⟨rfl,fun x hx=>by
  simp only[AV.cells,List.mem_cons,List.not_mem_nil,or_false]at hx
  rcases hx with rfl|rfl<;>rfl⟩
theorem in64_get (l:List Int) (j:Nat) (h:∀ x∈l,In64 x):In64 (l.getD j 0):=by
 rw[List.getD_eq_getElem?_getD]
 cases hj:l[j]? with
 | none=>exact⟨by simp,by simp⟩
 | some y=>exact h y (List.mem_of_getElem? hj)
theorem f28 (g:Prg) (a b:Nat) (ha:a≤1000000) (hb:b≤1000000) (hg:PrgN g a b) (pos how by_:Int) (h1:In64 pos) (h2:In64 how) (h3:In64 by_) :
  ∃ r,(∃ g',PrgN g' a (b+1)∧r=prgAV g')∧∀ H,call Try.prog pol1 7 [.agg [.sl false (g.ins.map insAV),I g.caps,.bool g.runes],I pos,I how,I by_] H=some (r,H):=by
 obtain⟨ins,caps,runes⟩:=g
 obtain⟨hl,hs,hc⟩:=hg
 simp only[]at hl hs hc
 refine call_runA Try.func7 rfl rfl rfl rfl rfl rfl (fun _=>rfl) (by simp[AV.plain,AV.plainL,plain_ints,plain_span,plain_ins,plain_prg]) ?_ ?_
 ·rintro _ ⟨g,_,rfl⟩;exact plain_prg g
 cases ins with
 | nil=>
   simp +contextual (disch:=omega) only[Try.f7,dd7,go_sem,simprocAttr,mu7,↓wrap_up,↓wrap_down,↓wrap_pred,↓wrap_sub_nat]
   exact⟨_,⟨⟨[],caps,runes⟩,⟨by simp,by simp,hc⟩,rfl⟩,_,rfl⟩
 | cons x xs=>
   simp only[List.length_cons]at hl
   have hf:=fun(n m:Int) (hn:In64 n) (hm:m≠0)=>f12 n m hn hm
   have hi:=around_lt (n:=pos) (m:=((xs.length+1:Nat):Int)) (by omega)
   have hfi:=f12 pos ((xs.length+1:Nat):Int) h1 (by omega)
   obtain⟨i,hie,hil⟩:∃ i:Nat,aroundI pos ((xs.length+1:Nat):Int)=i∧i < xs.length+1:=⟨(aroundI pos ((xs.length+1:Nat):Int)).toNat,by omega,by omega⟩
   rw[hie]at hfi
   obtain⟨p,hp⟩:∃ p,(x::xs)[i]?=some p:=⟨_,List.getElem?_eq_getElem hil⟩
   have hp':(insAV x::List.map insAV xs)[i]?=some (insAV p):=by
    have:((x::xs).map insAV)[i]?=some (insAV p):=by rw[List.getElem?_map,hp];rfl
    exact this
   have h5:=around_lt (n:=by_) (m:=5) (by omega)
   have h4:=around_lt (n:=by_) (m:=4) (by omega)
   obtain⟨j5,e5,l5⟩:∃ j:Nat,aroundI by_ 5=j∧j < 5:=⟨(aroundI by_ 5).toNat,by omega,by omega⟩
   obtain⟨j4,e4,l4⟩:∃ j:Nat,aroundI by_ 4=j∧j < 4:=⟨(aroundI by_ 4).toNat,by omega,by omega⟩
   have f5:=f12 by_ 5 h3 (by omega)
   have f4:=f12 by_ 4 h3 (by omega)
   rw[e5]at f5
   rw[e4]at f4
   have hh:=around_lt (n:=how) (m:=8) (by omega)
   have fh:=f12 how 8 h2 (by omega)
   generalize aroundI how 8=k at *
   have hst:∀ q:Ins,(insAV x::List.map insAV xs).set i (insAV q)=((x::xs).set i q).map insAV:=fun q=>by
    rw[List.map_set];rfl
   have hal:=all_ins5 (x::xs)
   have hroom:roomFor (xs.length+1) 56=true:=by simp[roomFor];omega
   have hps:p.set.length≤b:=hs p (List.mem_of_getElem? hp)
   have hnew:∀ q:Ins,q.set.length≤b+1→∀ c,In64 c→∀ r,PrgN ⟨(x::xs).set i q,c,r⟩ a (b+1):=fun q hq c hc r=>⟨by simp;omega,fun y hy=>by
    rcases List.mem_or_eq_of_mem_set hy with h|h
    ·have:=hs y h;omega
    ·rw[h];exact hq,hc⟩
   rcases(by omega:k=0∨k=1∨k=2∨k=3∨k=4∨k=5∨k=6∨k=7) with rfl|rfl|rfl|rfl|rfl|rfl|rfl|rfl
   ·simp +contextual (disch:=omega) only[Try.f7,dd7,go_sem,simprocAttr,mu7,↓wrap_up,↓wrap_down,↓wrap_pred,↓wrap_sub_nat,hfi,fh,hp',f5,get5,l5,f4,get4,l4]
    refine⟨hal,hroom,?_⟩
    exact⟨_,⟨⟨(x::xs).set i ⟨[by_,-1,6,1,4].getD j5 0,p.x,p.y,p.n,p.set⟩,caps,runes⟩,hnew ⟨[by_,-1,6,1,4].getD j5 0,p.x,p.y,p.n,p.set⟩ (by simp only[];omega) _ hc _,rfl⟩,fz_all (congrArg (fun z=>some (5,z,0)) (hst ⟨[by_,-1,6,1,4].getD j5 0,p.x,p.y,p.n,p.set⟩)) (by simp)⟩
   ·simp +contextual (disch:=omega) only[Try.f7,dd7,go_sem,simprocAttr,mu7,↓wrap_up,↓wrap_down,↓wrap_pred,↓wrap_sub_nat,hfi,fh,hp',f5,get5,l5,f4,get4,l4]
    refine⟨hal,hroom,?_⟩
    exact⟨_,⟨⟨(x::xs).set i ⟨p.op,[by_,-1,((xs.length+1:Nat):Int),(xs.length:Int)].getD j4 0,p.y,p.n,p.set⟩,caps,runes⟩,hnew ⟨p.op,[by_,-1,((xs.length+1:Nat):Int),(xs.length:Int)].getD j4 0,p.y,p.n,p.set⟩ (by simp only[];omega) _ hc _,rfl⟩,fz_all (congrArg (fun z=>some (5,z,0)) (hst ⟨p.op,[by_,-1,((xs.length+1:Nat):Int),(xs.length:Int)].getD j4 0,p.y,p.n,p.set⟩)) (by simp)⟩
   ·simp +contextual (disch:=omega) only[Try.f7,dd7,go_sem,simprocAttr,mu7,↓wrap_up,↓wrap_down,↓wrap_pred,↓wrap_sub_nat,hfi,fh,hp',f5,get5,l5,f4,get4,l4]
    refine⟨hal,hroom,?_⟩
    exact⟨_,⟨⟨(x::xs).set i ⟨p.op,p.x,[by_,-1,((xs.length+1:Nat):Int),0].getD j4 0,p.n,p.set⟩,caps,runes⟩,hnew ⟨p.op,p.x,[by_,-1,((xs.length+1:Nat):Int),0].getD j4 0,p.n,p.set⟩ (by simp only[];omega) _ hc _,rfl⟩,fz_all (congrArg (fun z=>some (5,z,0)) (hst ⟨p.op,p.x,[by_,-1,((xs.length+1:Nat):Int),0].getD j4 0,p.n,p.set⟩)) (by simp)⟩
   ·simp +contextual (disch:=omega) only[Try.f7,dd7,go_sem,simprocAttr,mu7,↓wrap_up,↓wrap_down,↓wrap_pred,↓wrap_sub_nat,hfi,fh,hp',f5,get5,l5,f4,get4,l4]
    refine⟨hal,hroom,by unfold dOk;kernel_rfl,by kernel_rfl,?_⟩
    exact⟨_,⟨⟨(x::xs).set i ⟨p.op,p.x,p.y,[by_,-1,5,6,IntKind.i64.wrap (2 * caps)].getD j5 0,p.set⟩,caps,runes⟩,hnew ⟨p.op,p.x,p.y,[by_,-1,5,6,IntKind.i64.wrap (2 * caps)].getD j5 0,p.set⟩ (by simp only[];omega) _ hc _,rfl⟩,fz_all (congrArg (fun z=>some (5,z,0)) (hst ⟨p.op,p.x,p.y,[by_,-1,5,6,IntKind.i64.wrap (2 * caps)].getD j5 0,p.set⟩)) (by simp)⟩
   ·obtain⟨op,px,py,pn,set⟩:=p
    simp only[]at hps
    cases set with
    | nil=>
      simp +contextual (disch:=omega) only[Try.f7,dd7,go_sem,simprocAttr,mu7,↓wrap_up,↓wrap_down,↓wrap_pred,↓wrap_sub_nat,hfi,fh,hp',f5,get5,l5,f4,get4,l4]
      refine⟨hal,hroom,rfl,?_⟩
      exact⟨_,⟨⟨(x::xs).set i ⟨op,px,py,pn,[(by_,[by_,255,256,1114111,1114112].getD j5 0)]⟩,caps,runes⟩,hnew _ (by simp) _ hc _,rfl⟩,fz_set (ins:=x::xs) (sp:=[(by_,_)]) hil rfl rfl⟩
    | cons y ys=>
      simp +contextual (disch:=omega) only[Try.f7,dd7,go_sem,simprocAttr,mu7,↓wrap_up,↓wrap_down,↓wrap_pred,↓wrap_sub_nat,hfi,fh,hp',f5,get5,l5,f4,get4,l4]
      have e1:spanAV y::(List.take ys.length (List.map spanAV ys)++[AV.agg [I by_,I ([by_,255,256,1114111,1114112].getD j5 0)]]) =
       (y::(ys++[(by_,[by_,255,256,1114111,1114112].getD j5 0)])).map spanAV:=by
       rw[List.take_of_length_le (by simp)];simp
      rw[e1]
      simp only[List.length_cons]at hps
      refine⟨hal,hroom,all_span2 (y::ys),by simp[roomFor];omega,by simp[roomFor];omega,?_⟩
      exact⟨_,⟨⟨(x::xs).set i ⟨op,px,py,pn,y::(ys++[(by_,[by_,255,256,1114111,1114112].getD j5 0)])⟩,caps,runes⟩,hnew _ (by simp;omega) _ hc _,rfl⟩,fz_set (ins:=x::xs) (sp:=y::(ys++[(by_,_)])) hil rfl (by simp)⟩
   ·simp +contextual (disch:=omega) only[Try.f7,dd7,go_sem,simprocAttr,mu7,↓wrap_up,↓wrap_down,↓wrap_pred,↓wrap_sub_nat,hfi,fh,hp',f5,get5,l5,f4,get4,l4]
    refine⟨hal,hroom,?_⟩
    exact⟨_,⟨⟨x::xs,[by_,-1,9,10].getD j4 0,runes⟩,⟨by simp;omega,fun y hy=>by have:=hs y hy;omega,in64_get _ _ (by intro z hz;simp at hz;rcases hz with rfl|rfl|rfl|rfl<;>first|exact h3|exact⟨by omega,by omega⟩)⟩,rfl⟩,fz_all rfl (by simp)⟩
   ·simp +contextual (disch:=omega) only[Try.f7,dd7,go_sem,simprocAttr,mu7,↓wrap_up,↓wrap_down,↓wrap_pred,↓wrap_sub_nat,hfi,fh,hp',f5,get5,l5,f4,get4,l4]
    refine⟨hal,hroom,?_⟩
    exact⟨_,⟨⟨(x::xs).take (xs.length - 0),caps,runes⟩,⟨by simp;omega,fun y hy=>by have:=hs y (List.mem_of_mem_take hy);omega,hc⟩,rfl⟩,fz_ms (ins:=x::xs) rfl (by simp) (by omega)⟩
   ·simp +contextual (disch:=omega) only[Try.f7,dd7,go_sem,simprocAttr,mu7,↓wrap_up,↓wrap_down,↓wrap_pred,↓wrap_sub_nat,hfi,fh,hp',f5,get5,l5,f4,get4,l4]
    refine⟨hal,hroom,?_⟩
    exact⟨_,⟨⟨x::xs,caps,!runes⟩,⟨by simp;omega,fun y hy=>by have:=hs y hy;omega,hc⟩,rfl⟩,fz_all rfl (by simp)⟩
end
end Go.Ev
