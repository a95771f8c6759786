/- What functions of the program compute; no further conditions. -/
import Derived.Test.YtmfpcondongbjaaGreatM16
set_option linter.unusedVariables false
set_option linter.unusedSimpArgs false
open List (all_append length_append length_cons map_append map_cons map_nil mem_append mem_cons mem_cons_self mem_flatMap mem_singleton sum_cons sum_nil)
open Bool (and_eq_true or_eq_true)
open Int (le_refl)
open Go.Proofs Go.RowKit Go.IntWalk
set_option maxHeartbeats 8000000
set_option maxRecDepth 100000
namespace Go.Ev
attribute [local go_sem] BM evAppend evBin evBuild evMakeSlice AV.cells AV.ok splice Ae Al bndO bnd evEq eqCells not_false_eq_true not_true_eq_false AX Array.size_empty length_append map_append tySzE List.head?_drop Nat.mul_one AQ AU AO AR AS AY
section
def insSplit (md next other:Int):Ins:=if md=1 then⟨2,other,next,0,[]⟩ else⟨2,next,other,0,[]⟩
mutual
def codeG:Re->Nat->List Ins
 | .mk op set kids mn mx md n neg,f=>
   if op=1 then [⟨1,0,0,0,set⟩] else if op=11 then [⟨5,0,0,n,[]⟩] else if op=2 then codeCat kids f else if op=3 then codeAlt kids f
   else if op=5 then⟨4,0,0,2*n-2,[]⟩::(codeHd kids (f+1)++[⟨4,0,0,2*n-1,[]⟩])
   else if op=4 then
    let L:=lenL kids
    let copies:=(List.range mn.toNat).flatMap fun i=>codeHd kids (f+i*L)
    let p:=f+mn.toNat*L
    if mx = -1 then copies++(insSplit md ((p+1:Nat):Int) ((p+L+2:Nat):Int)::(codeHd kids (p+1)++[⟨3,(p:Int),0,0,[]⟩]))
    else copies++(List.range (mx.toNat-mn.toNat)).flatMap fun j=>insSplit md ((p+j*(L+1)+1:Nat):Int) ((f+mx.toNat*L+(mx.toNat-mn.toNat):Nat):Int)::codeHd kids (p+j*(L+1)+1)
   else []
def codeCat:List Re->Nat->List Ins
 | [],_=>[]
 | k::ks,f=>codeG k f++codeCat ks (f+lenG k)
def codeAlt:List Re->Nat->List Ins
 | [],_=>[]
 | k::ks,f=>if ks.length=0 then codeG k f else
    ⟨2,((f+1:Nat):Int),((f+lenG k+2:Nat):Int),0,[]⟩::(codeG k (f+1)++(⟨3,((f+lenL (k::ks)+2*ks.length:Nat):Int),0,0,[]⟩::codeAlt ks (f+lenG k+2)))
def codeHd:List Re->Nat->List Ins
 | [],_=>[]
 | k::_,f=>codeG k f
end
mutual
def codable:Re->Bool
 | .mk op set kids mn mx md n neg=>(decide (op<=5)||op==11)&&codableL kids
def codableL:List Re->Bool
 | []=>true
 | k::ks=>codable k&&codableL ks
end
theorem FZ:∀ l:List Re,codableL l=true↔∀ k∈l,codable k=true
 | []=>by simp[codableL]
 | k::ks=>by simp[codableL,FZ ks]
mutual
theorem Ci:∀(r:Re) (ins:List Int),compG ins r=true->codable r=true
 | .mk op set kids mn mx md n neg,ins,h=>by
   rw[compG]at h;rw[codable,and_eq_true,or_eq_true,decide_eq_true_eq,beq_iff_eq];split at h
   ·cases h
   ·split at h
    ·split at h
     ·cases h
     ·exact⟨.inl (by omega),EI kids _ h⟩
    ·split at h
     ·cases h
     ·exact⟨by omega,EI kids _ h⟩
theorem EI:∀(l:List Re) (ins:List Int),compL ins l=true->codableL l=true
 | [],_,_=>rfl
 | k::ks,ins,h=>by
   rw[compL,and_eq_true]at h;rw[codableL,Ci k ins h.1,EI ks ins h.2];rfl
end
structure GoodC (caps top:Int) (r:Re):Prop where
 whole:wholeG caps top r=true
 cod:codable r=true
theorem GoodC.kids {caps top op:Int}{set:List (Int×Int)}{kids:List Re}{mn mx md n:Int}{neg:Bool} (h:GoodC caps top (.mk op set kids mn mx md n neg)):∀ k∈kids,GoodC caps top k:=by
 intro k hk;have h2:=h.cod;rw[codable,and_eq_true,FZ]at h2;exact⟨(BG h.whole).1 k hk,h2.2 k hk⟩
theorem GoodC.op {caps top op:Int}{set:List (Int×Int)}{kids:List Re}{mn mx md n:Int}{neg:Bool} (h:GoodC caps top (.mk op set kids mn mx md n neg)):op=0∨op=1∨op=2∨op=3∨op=4∨op=5∨op=11:=by
 have h2:=h.cod;rw[codable,and_eq_true,or_eq_true,decide_eq_true_eq,beq_iff_eq]at h2;have h3:=(BG h.whole).2.2.2.2;omega
theorem Dg {α:Type} (g:Nat->List α) (L:Nat):∀ m,(∀ i,i<m->(g i).length=L)->((List.range m).flatMap g).length=m*L
 | 0,_=>by simp
 | m+1,h=>by
   rw[List.range_succ,List.flatMap_append,length_append,Dg g L m (fun i hi=>h i (by omega))];simp only[List.flatMap_cons,List.flatMap_nil,List.append_nil,h m (by omega),Nat.succ_mul]
mutual
theorem BH (caps top:Int):∀(r:Re) (f:Nat),GoodC caps top r->(codeG r f).length=lenG r
 | .mk op set kids mn mx md n neg,f,hw=>by
   have hop:=hw.op;obtain⟨_,hkd,hrp,_,ho1,ho2⟩:=BG hw.whole;have hwk:=hw.kids;have hcat:=EG caps top kids f hwk;have halt:=GP caps top kids f hwk;have hhd:=fun f=>MD caps top kids f hwk;rw[codeG,lenG];by_cases h1:op=1
   ·rw[if_pos h1,if_pos (.inl h1)];rfl
   rw[if_neg h1];by_cases h11:op=11
   ·rw[if_pos h11,if_pos (.inr h11)];rfl
   rw[if_neg h11,if_neg (show ¬ (op=1∨op=11) by omega)];by_cases h2:op=2
   ·rw[if_pos h2,if_neg (show ¬ op=3 by omega),if_neg (show ¬ op=5 by omega),if_neg (show ¬ op=4 by omega)];exact hcat
   rw[if_neg h2];by_cases h3:op=3
   ·subst h3;rw[if_pos rfl,if_pos rfl];have:2<=kids.length:=by simpa [kidsG] using hkd
    exact halt (by omega)
   rw[if_neg h3,if_neg h3];have hone:op=4∨op=5->kids.length=1:=fun e=>by rcases e with rfl|rfl<;>simpa [kidsG] using hkd
   by_cases h5:op=5
   ·rw[if_pos h5,if_pos h5];simp[hhd _ (hone (.inr h5))]
   rw[if_neg h5,if_neg h5];by_cases h4:op=4
   ·rw[if_pos h4,if_pos h4];have hh:=fun f=>hhd f (hone (.inl h4));have hr:=hrp h4;simp only[repG,and_eq_true,or_eq_true,decide_eq_true_eq,beq_iff_eq]at hr;by_cases hm:mx = -1
    ·simp only[if_pos hm,length_append,length_cons,List.length_nil];rw[Dg _ (lenL kids) _ (fun i _=>hh _),hh,Nat.succ_mul];omega
    ·simp only[if_neg hm,length_append];rw[Dg _ (lenL kids) _ (fun i _=>hh _),Dg _ (lenL kids+1) _ (fun i _=>by simp[hh])];obtain⟨e,he⟩:∃ e,mx.toNat=mn.toNat+e:=⟨mx.toNat-mn.toNat,by omega⟩;rw[he,Nat.add_sub_cancel_left,Nat.add_mul,Nat.mul_add];omega
   rw[if_neg h4,if_neg h4];have hk0:kids=[]:=by
    have:op=0:=by omega
    subst this;exact List.length_eq_zero_iff.1 (by simpa [kidsG] using hkd)
   rw[hk0];rfl
theorem EG (caps top:Int):∀(l:List Re) (f:Nat),(∀ k∈l,GoodC caps top k)->(codeCat l f).length=lenL l
 | [],f,_=>rfl
 | k::ks,f,h=>by
   rw[codeCat,lenL,length_append,BH caps top k f (h k (mem_cons_self ..)),EG caps top ks _ (fun k hk=>h k (List.mem_cons_of_mem _ hk))]
theorem GP (caps top:Int):∀(l:List Re) (f:Nat),(∀ k∈l,GoodC caps top k)->1<=l.length->(codeAlt l f).length=lenL l+2*(l.length-1)
 | [],f,_,h=>by simp at h
 | k::ks,f,h,_=>by
   have hk:=fun f=>BH caps top k f (h k (mem_cons_self ..));rw[codeAlt];split
   ·rename_i h0;have:ks=[]:=List.length_eq_zero_iff.1 h0;subst this;simp[hk,lenL]
   ·rename_i h0;have:=GP caps top ks (f+lenG k+2) (fun k hk=>h k (List.mem_cons_of_mem _ hk)) (by omega);simp only[length_cons,length_append,hk,this,lenL];omega
theorem MD (caps top:Int):∀(l:List Re) (f:Nat),(∀ k∈l,GoodC caps top k)->l.length=1->(codeHd l f).length=lenL l
 | [],f,_,h=>by simp at h
 | k::ks,f,h,hl=>by
   have:ks=[]:=List.length_eq_zero_iff.1 (by simpa using hl);subst this;rw[codeHd,BH caps top k f (h k (mem_cons_self ..))];simp[lenL]
end
end
mutual
def noPoss:Re->Bool
 | .mk op set kids mn mx md n neg=>decide (md≠2)&&noPossL kids
def noPossL:List Re->Bool
 | []=>true
 | k::ks=>noPoss k&&noPossL ks
end
theorem F9:∀ l:List Re,noPossL l=true↔∀ k∈l,noPoss k=true
 | []=>by simp[noPossL]
 | k::ks=>by simp[noPossL,F9 ks]
structure RGood (caps top:Int) (r:Re):Prop where
 good:GoodC caps top r
 np:noPoss r=true
 sz:r.size<=256
theorem Re.sizeL_mem:∀ {l:List Re}{k:Re},k∈l->k.size<=Re.sizeL l
 | x::l,k,h=>by
   rcases mem_cons.1 h with e|e
   ·rw[e];simp[Re.sizeL]
   ·have:=Re.sizeL_mem e;simp[Re.sizeL];omega
theorem Re.sizeL_len:∀ l:List Re,l.length<=Re.sizeL l
 | []=>Nat.le_refl _
 | k::ks=>by
   have:=Re.size_pos k;have:=Re.sizeL_len ks;simp[Re.sizeL];omega
theorem RGood.kids {caps top:Int}{r:Re} (h:RGood caps top r):∀ k∈r.kids,RGood caps top k:=by
 obtain⟨op,set,kids,mn,mx,md,n,neg⟩:=r;intro k hk;have h1:=h.np;have h2:=h.sz;rw[noPoss,and_eq_true,F9]at h1;have:=Re.sizeL_mem hk;simp only[Re.size,Re.kids]at h2 this;exact⟨h.good.kids k hk,h1.2 k hk,by omega⟩
theorem RGood.len {caps top:Int}{r:Re} (h:RGood caps top r):r.kids.length<=255:=by
 obtain⟨op,set,kids,mn,mx,md,n,neg⟩:=r;have h2:=h.sz;have:=Re.sizeL_len kids;simp only[Re.size,Re.kids]at h2 |-;omega
theorem RGood.md {caps top:Int}{r:Re} (h:RGood caps top r):r.md≠2:=by
 obtain⟨op,set,kids,mn,mx,md,n,neg⟩:=r;have h1:=h.np;rw[noPoss,and_eq_true,decide_eq_true_eq]at h1;exact h1.1
def GG (caps top:Int) (L:Int) (steps:Int):Goal->Prop
 | .nil=>True
 | .mk kind re k fr next=>RGood caps top re/\(kind=0∨(kind=1/\re.op=4/\0<=k/\k<=steps)∨(kind=2/\re.op=4/\0<=k/\k<steps)∨(kind=3/\re.op=5))/\(0<=fr/\fr<=L)/\GG caps top L steps next
theorem GG.mono {caps top L a b:Int} (hab:a<=b):∀ {g:Goal},GG caps top L a g->GG caps top L b g
 | .nil,_=>trivial
 | .mk kind re k fr next,h=>⟨h.1,by rcases h.2.1 with h|h|h|h<;>omega,h.2.2.1,h.2.2.2.mono hab⟩
theorem GG.cat {caps top L a:Int} (hL:0<=L) {next:Goal} (hn:GG caps top L a next):∀ {l:List Re},(∀ k∈l,RGood caps top k)->GG caps top L a (catG next l)
 | [],_=>hn
 | k::ks,h=>⟨h k (by simp),.inl rfl,⟨le_refl _,hL⟩,GG.cat hL hn (fun q hq=>h q (by simp[hq]))⟩
structure SPre (fuel:Int) (s:SS):Prop where
 ne:s.empty=false
 st:0<=s.steps/\s.steps<=fuel
 cl:s.caps.length=s.ends.length
 el:(s.ends.length:Int)<=256*s.steps
structure SPost (fuel:Int) (s:SS) (b:Bool) (s':SS):Prop where
 st:s.steps<=s'.steps
 eb:b=s'.empty
 fu:b=false->s'.steps<=fuel
 cl:s'.caps.length=s'.ends.length
 el:(s'.ends.length:Int)<=s.ends.length+1+256*(s'.steps-s.steps)
def RunP (caps top:Int) (t:List Int) (fuel:Int) (R:RunT):Prop:=
 ∀(g:Goal) (i:Int) (c:Caps) (s:SS) (b:Bool) (s':SS),GG caps top t.length s.steps g->0<=i->i<=t.length->c.length<=1000->SPre fuel s->R g i c s=some (b,s')->SPost fuel s b s'
variable {caps top:Int}{t:List Int}{fuel:Int}
theorem SPost.none {s:SS} (h:SPre fuel s):SPost fuel s false s:=⟨le_refl _,h.ne.symm,fun _=>h.st.2,h.cl,by omega⟩
theorem Ca {s:SS} (h:SPre fuel s) (he:(stepSz fuel s).empty=false):SPre fuel (stepSz fuel s)/\((stepSz fuel s).ends.length:Int)<=256*(stepSz fuel s).steps-256:=by
 have h1:=h.st;have h2:=h.el;simp only[stepSz,h.ne,Bool.false_or,decide_eq_false_iff_not]at he;exact⟨⟨by simp[stepSz,h.ne];omega,⟨by simp only[stepSz];omega,by simp only[stepSz];omega⟩,h.cl,by simp only[stepSz];omega⟩,by simp only[stepSz];omega⟩
theorem IZ {s:SS} (h:SPre fuel s) (he:(stepSz fuel s).empty=true):SPost fuel s true (stepSz fuel s):=
 ⟨by simp only[stepSz];omega,he.symm,fun e=>(by cases e),h.cl,by simp only[stepSz];omega⟩
theorem SPost.after {s s1 s':SS}{b:Bool} (h1:s1=stepSz fuel s) (h:SPost fuel s1 b s'):SPost fuel s b s':=by
 subst h1;have a:=h.st;have e:=h.el;simp only[stepSz]at a e;exact⟨by omega,h.eb,h.fu,h.cl,by omega⟩
theorem SPost.pre {s s2:SS} (hp:SPre fuel s) (hx:(s.ends.length:Int)<=256*s.steps-256) (h:SPost fuel s false s2):SPre fuel s2:=by
 have a:=h.st;have e:=h.el;have f:=h.fu rfl;have p:=hp.st;exact⟨h.eb.symm,⟨by omega,f⟩,h.cl,by omega⟩
theorem SPost.trans {s s2 s':SS}{b:Bool} (h1:SPost fuel s false s2) (h2:SPost fuel s2 b s'):s.steps<=s'.steps/\b=s'.empty/\(b=false->s'.steps<=fuel)/\s'.caps.length=s'.ends.length/\(s'.ends.length:Int)<=s.ends.length+2+256*(s'.steps-s.steps):=by
 have a:=h1.st;have b':=h2.st;have c:=h1.el;have d:=h2.el;exact⟨by omega,h2.eb,h2.fu,h2.cl,by omega⟩
theorem JX {re:Re} (h:RGood caps top re) (ho:re.op=4):∃ kid,re.kids=[kid]/\RGood caps top kid:=by
 obtain⟨op,set,kids,mn,mx,md,n,neg⟩:=re;simp only[Re.op]at ho;subst ho;have hk:=(BG h.good.whole).2.1;obtain⟨k,rfl⟩:∃ k,kids=[k]:=List.length_eq_one_iff.1 (by simpa [kidsG] using hk);exact⟨k,rfl,h.kids k (by simp[Re.kids])⟩
theorem J4 {re:Re} (h:RGood caps top re) (ho:re.op=5):∃ kid,re.kids=[kid]/\RGood caps top kid:=by
 obtain⟨op,set,kids,mn,mx,md,n,neg⟩:=re;simp only[Re.op]at ho;subst ho;have hk:=(BG h.good.whole).2.1;obtain⟨k,rfl⟩:∃ k,kids=[k]:=List.length_eq_one_iff.1 (by simpa [kidsG] using hk);exact⟨k,rfl,h.kids k (by simp[Re.kids])⟩
theorem Fk {re kid:Re}{next:Goal}{k i L steps:Int} (h:RGood caps top re) (hk:RGood caps top kid) (ho:re.op=4) (h0:0<=k/\k<steps) (hi:0<=i/\i<=L) (hn:GG caps top L steps next) :
 GG caps top L steps (.mk 0 kid 0 0 (.mk 2 re k i next)):=⟨hk,.inl rfl,⟨le_refl _,by omega⟩,h,.inr (.inr (.inl ⟨rfl,ho,h0.1,h0.2⟩)),hi,hn⟩
theorem KV {R:RunT} (hR:RunP caps top t fuel R) {re:Re}{k i:Int}{next:Goal}{c:Caps}{s s':SS}{b:Bool} (h:RGood caps top re) (ho:re.op=4) (hk:0<=k/\k<=s.steps) (hi:0<=i/\i<=t.length)
  (hn:GG caps top t.length s.steps next) (hc:c.length<=1000) (hs:SPre fuel s) (he:repR fuel R re k next i c s=some (b,s')):SPost fuel s b s':=by
 unfold repR at he;simp only at he;by_cases h1:(stepSz fuel s).empty=true
 ·rw[if_pos h1]at he;simp only[Option.some.injEq,Prod.mk.injEq]at he;obtain⟨rfl,rfl⟩:=he;exact IZ hs h1
 ·rw[if_neg h1]at he;have h1':(stepSz fuel s).empty=false:=by simpa using h1
  obtain⟨p1,p2⟩:=Ca hs h1';obtain⟨kid,hkid,hgk⟩:=JX h ho;rw[hkid]at he;simp only at he;have hst:(stepSz fuel s).steps=s.steps+1:=rfl;have hen:(stepSz fuel s).ends.length=s.ends.length:=rfl;have hn1:=hn.mono (show s.steps<=(stepSz fuel s).steps by omega);have hon:=Fk (next:=next) (i:=i) (L:=t.length) (steps:=(stepSz fuel s).steps) h hgk ho (k:=k) ⟨hk.1,by omega⟩ hi hn1;have A:∀ b s',R (.mk 0 kid 0 0 (.mk 2 re k i next)) i c (stepSz fuel s)=some (b,s')->SPost fuel (stepSz fuel s) b s':=fun b s' e=>hR _ _ _ _ _ _ hon hi.1 hi.2 hc p1 e;have B:∀ b s',R next i c (stepSz fuel s)=some (b,s')->SPost fuel (stepSz fuel s) b s':=fun b s' e=>hR _ _ _ _ _ _ hn1 hi.1 hi.2 hc p1 e
  have two:∀(g:Goal) (s2:SS) (b:Bool) (s':SS),GG caps top t.length (stepSz fuel s).steps g->SPost fuel (stepSz fuel s) false s2->R g i c s2=some (b,s')->SPost fuel s b s':=by
   intro g s2 b s' hg q e;have p3:=q.pre p1 p2;have q2:=hR _ _ _ _ _ _ (hg.mono q.st) hi.1 hi.2 hc p3 e;obtain⟨a1,a2,a3,a4,a5⟩:=q.trans q2;exact⟨by omega,a2,a3,a4,by omega⟩
  split at he
  ·exact(A _ _ he).after rfl
  ·split at he
   ·unfold orR at he;split at he
    ·cases he
    ·rename_i s2 e2;simp only[Option.some.injEq,Prod.mk.injEq]at he;obtain⟨rfl,rfl⟩:=he;exact(B _ _ e2).after rfl
    ·rename_i s2 e2;split at he
     ·exact two _ _ _ _ hon (B _ _ e2) he
     ·simp only[Option.some.injEq,Prod.mk.injEq]at he;obtain⟨rfl,rfl⟩:=he;exact(B _ _ e2).after rfl
   ·unfold orR at he;split at he
    ·cases he
    ·rename_i s2 e2;simp only[Option.some.injEq,Prod.mk.injEq]at he;obtain⟨rfl,rfl⟩:=he;split at e2
     ·exact(A _ _ e2).after rfl
     ·cases e2
    ·rename_i s2 e2;split at e2
     ·exact two _ _ _ _ hn1 (A _ _ e2) he
     ·simp only[Option.some.injEq,Prod.mk.injEq,true_and]at e2;subst e2;exact(B _ _ he).after rfl
theorem LM {R:RunT} (hR:RunP caps top t fuel R) {next:Goal}{i:Int}{c:Caps} (hi:0<=i/\i<=t.length) (hc:c.length<=1000) :
  ∀(l:List Re) (s s':SS) (b:Bool),(∀ k∈l,RGood caps top k)->GG caps top t.length s.steps next->SPre fuel s->(s.ends.length:Int)+l.length<=256*s.steps->altR R next i c l s=some (b,s') ->
   s.steps<=s'.steps/\b=s'.empty/\(b=false->s'.steps<=fuel)/\s'.caps.length=s'.ends.length/\(s'.ends.length:Int)<=s.ends.length+l.length+256*(s'.steps-s.steps)
 | [],s,s',b,_,_,hs,_,he=>by
   simp only[altR,Option.some.injEq,Prod.mk.injEq]at he;obtain⟨rfl,rfl⟩:=he;exact⟨le_refl _,hs.ne.symm,fun _=>hs.st.2,hs.cl,by simp⟩
 | k::ks,s,s',b,hg,hn,hs,hx,he=>by
   simp only[altR]at he;unfold orR at he;have A:∀ b s',R (.mk 0 k 0 0 next) i c s=some (b,s')->SPost fuel s b s':=fun b s' e=>
    hR (.mk 0 k 0 0 next) _ _ _ _ _ ⟨hg k (by simp),.inl rfl,⟨le_refl _,by omega⟩,hn⟩ hi.1 hi.2 hc hs e
   simp only[length_cons]at hx |-;split at he
   ·cases he
   ·rename_i s2 e2;simp only[Option.some.injEq,Prod.mk.injEq]at he;obtain⟨rfl,rfl⟩:=he;have q:=A _ _ e2;have a:=q.el;exact⟨q.st,q.eb,q.fu,q.cl,by omega⟩
   ·rename_i s2 e2;have q:=A _ _ e2;have a:=q.el;have b1:=q.st;have f:=q.fu rfl;have p0:=hs.st;obtain⟨r1,r2,r3,r4,r5⟩:=LM hR hi hc ks s2 s' b (fun x hx=>hg x (by simp[hx])) (hn.mono b1) ⟨q.eb.symm,⟨by omega,f⟩,q.cl,by omega⟩ (by omega) he;exact⟨by omega,r2,r3,r4,by omega⟩
theorem NO {R:RunT} (hR:RunP caps top t fuel R) {re:Re}{i:Int}{next:Goal}{c:Caps}{s s':SS}{b:Bool} (h:RGood caps top re) (hi:0<=i/\i<=t.length)
  (hn:GG caps top t.length s.steps next) (hc:c.length<=1000) (hs:SPre fuel s) (he:nodeR t fuel R re next i c s=some (b,s')):SPost fuel s b s':=by
 unfold nodeR at he;split at he
 ·rename_i ho;exact KV hR h ho ⟨le_refl _,hs.st.1⟩ hi hn hc hs he
 ·simp only at he;by_cases h1:(stepSz fuel s).empty=true
  ·rw[if_pos h1]at he;simp only[Option.some.injEq,Prod.mk.injEq]at he;obtain⟨rfl,rfl⟩:=he;exact IZ hs h1
  ·rw[if_neg h1]at he;have h1':(stepSz fuel s).empty=false:=by simpa using h1
   obtain⟨p1,p2⟩:=Ca hs h1';have hst:(stepSz fuel s).steps=s.steps+1:=rfl;have hn1:=hn.mono (show s.steps<=(stepSz fuel s).steps by omega);have B:∀ b s',R next i c (stepSz fuel s)=some (b,s')->SPost fuel (stepSz fuel s) b s':=fun b s' e=>hR _ _ _ _ _ _ hn1 hi.1 hi.2 hc p1 e
   have Z:∀ b s',some (false,stepSz fuel s)=some (b,s')->SPost fuel (stepSz fuel s) b s':=fun b s' e=>by
    simp only[Option.some.injEq,Prod.mk.injEq]at e;obtain⟨rfl,rfl⟩:=e;exact SPost.none p1
   split at he
   ·split at he
    ·rename_i x hx;have hlt:=(List.getElem?_eq_some_iff.1 hx).1;split at he
     ·exact(hR _ _ _ _ _ _ hn1 (by omega) (by omega) hc p1 he).after rfl
     ·exact(Z _ _ he).after rfl
    ·exact(Z _ _ he).after rfl
   ·split at he
    ·exact(hR _ _ _ _ _ _ (GG.cat (by omega) hn1 h.kids) hi.1 hi.2 hc p1 he).after rfl
    ·split at he
     ·have hl:=h.len;obtain⟨r1,r2,r3,r4,r5⟩:=LM hR hi hc _ _ _ _ h.kids hn1 p1 (by omega) he;have hen:(stepSz fuel s).ends.length=s.ends.length:=rfl;exact⟨by omega,r2,r3,r4,by omega⟩
     ·split at he
      ·rename_i ho;obtain⟨kid,hkid,hgk⟩:=J4 h ho;rw[hkid]at he;simp only at he;exact(hR (.mk 0 kid 0 0 (.mk 3 re 0 i next)) _ _ _ _ _ ⟨hgk,.inl rfl,⟨le_refl _,by omega⟩,h,.inr (.inr (.inr ⟨rfl,ho⟩)),hi,hn1⟩ hi.1 hi.2 hc p1 he).after rfl
      ·split at he
       ·split at he
        ·exact(B _ _ he).after rfl
        ·exact(Z _ _ he).after rfl
       ·exact(B _ _ he).after rfl
theorem Gn (c:Caps) (n a b:Int):(withI c n a b).length=c.length:=by
 unfold withI;split<;>simp
theorem Ff (caps top:Int) (t:List Int) (fuel:Int):∀ d,RunP caps top t fuel (runG t fuel d)
 | 0=>fun g i c s b s' _ _ _ _ _ e=>by cases g<;>simp[runG]at e
 | d+1=>fun g i c s b s' hg h0 hL hc hs e=>by
   have ih:=Ff caps top t fuel d;cases g with
   | nil=>
     simp only[runG,Option.some.injEq,Prod.mk.injEq]at e;obtain⟨rfl,rfl⟩:=e;exact⟨le_refl _,hs.ne.symm,fun _=>hs.st.2,by simp[hs.cl],by simp⟩
   | mk kind re k fr next=>
     obtain⟨g1,g2,g3,g4⟩:=hg;simp only[runG]at e;rcases g2 with rfl|⟨rfl,g2⟩|⟨rfl,g2⟩|⟨rfl,g2⟩
     ·rw[if_neg (by omega),if_neg (by omega),if_neg (by omega)]at e;exact NO ih g1 ⟨h0,hL⟩ g4 hc hs e
     ·rw[if_pos rfl]at e;exact KV ih g1 g2.1 g2.2 ⟨h0,hL⟩ g4 hc hs e
     ·rw[if_neg (by omega),if_pos rfl]at e;split at e
      ·simp only[Option.some.injEq,Prod.mk.injEq]at e;obtain⟨rfl,rfl⟩:=e;exact SPost.none hs
      ·exact ih (.mk 1 re (k+1) 0 next) _ _ _ _ _ ⟨g1,.inr (.inl ⟨rfl,g2.1,by omega,by omega⟩),⟨le_refl _,by omega⟩,g4⟩ h0 hL hc hs e
     ·rw[if_neg (by omega),if_neg (by omega),if_pos rfl]at e;exact ih _ _ _ _ _ _ g4 h0 hL (by rw[Gn];exact hc) hs e
def repO (f:Nat->List Nat) (mn mx md:Int):Nat->Int->Nat->List Nat
 | 0,_,_=>[]
 | n+1,k,i=>
   if k<mn then(f i).flatMap (repO f mn mx md n (k+1))
   else if md=1 then i::(if mx = -1∨k<mx then(f i).flatMap (repO f mn mx md n (k+1)) else [])
   else(if mx = -1∨k<mx then(f i).flatMap (repO f mn mx md n (k+1)) else [])++[i]
def repC (f:Nat->List Nat) (g:Nat->Nat) (mn mx:Int):Nat->Int->Nat->Nat
 | 0,_,_=>0
 | n+1,k,i=>1+(if k<mn∨mx = -1∨k<mx then g i+((f i).map (repC f g mn mx n (k+1))).sum else 0)
mutual
def outs (t:List Int):Re->Nat->List Nat
 | .mk op set kids mn mx md n neg,i=>
   if op=1 then(match t[i]? with
    | some x=>if hasSpan set x=true then [i+1] else []
    | none=>[])
   else if op=2 then outsC t kids i
   else if op=3 then outsA t kids i
   else if op=4 then repO (outsH t kids) mn mx md (t.length+1-i) 0 i
   else if op=5 then outsH t kids i
   else if op=11 then(if assertI n (befS t i) t[i]?=true then [i] else [])
   else [i]
def outsC (t:List Int):List Re->Nat->List Nat
 | [],i=>[i]
 | k::ks,i=>(outs t k i).flatMap (outsC t ks)
def outsA (t:List Int):List Re->Nat->List Nat
 | [],_=>[]
 | k::ks,i=>outs t k i++outsA t ks i
def outsH (t:List Int):List Re->Nat->List Nat
 | [],_=>[]
 | k::_,i=>outs t k i
end
mutual
def costR (t:List Int):Re->Nat->Nat
 | .mk op set kids mn mx md n neg,i=>
   if op=2 then 1+costRC t kids i
   else if op=3 then 1+costRA t kids i
   else if op=4 then repC (outsH t kids) (costRH t kids) mn mx (t.length+1-i) 0 i
   else if op=5 then 1+costRH t kids i
   else 1
def costRC (t:List Int):List Re->Nat->Nat
 | [],_=>0
 | k::ks,i=>costR t k i+((outs t k i).map (costRC t ks)).sum
def costRA (t:List Int):List Re->Nat->Nat
 | [],_=>0
 | k::ks,i=>costR t k i+costRA t ks i
def costRH (t:List Int):List Re->Nat->Nat
 | [],_=>0
 | k::_,i=>costR t k i
end
theorem JY {f:Nat->List Nat}{mn mx md:Int}{L:Nat} (hf:∀ i,i<=L->∀ j∈f i,i<=j/\j<=L):∀(n:Nat) (k:Int) (i:Nat),i<=L->∀ j∈repO f mn mx md n k i,i<=j/\j<=L
 | 0,_,_,_,j,h=>by simp[repO]at h
 | n+1,k,i,hi,j,h=>by
   have A:∀ j∈(f i).flatMap (repO f mn mx md n (k+1)),i<=j/\j<=L:=fun j h=>by
    obtain⟨m,hm,h⟩:=mem_flatMap.1 h;have h1:=hf i hi m hm;have h2:=JY hf n (k+1) m h1.2 j h;omega
   rw[repO]at h;split at h
   ·exact A j h
   ·split at h
    ·rcases mem_cons.1 h with rfl|h
     ·exact⟨Nat.le_refl _,hi⟩
     ·split at h
      ·exact A j h
      ·simp at h
    ·rcases mem_append.1 h with h|h
     ·split at h
      ·exact A j h
      ·simp at h
     ·rw[mem_singleton.1 h];exact⟨Nat.le_refl _,hi⟩
mutual
theorem CN (t:List Int):∀(r:Re) (i:Nat),i<=t.length->∀ j∈outs t r i,i<=j/\j<=t.length
 | .mk op set kids mn mx md n neg,i,hi,j,h=>by
   have hC:=G9 t kids;have hA:=Kc t kids;have hH:=Kb t kids;rw[outs]at h;split at h
   ·split at h
    ·rename_i x hx;have:=(List.getElem?_eq_some_iff.1 hx).1;split at h
     ·rw[mem_singleton.1 h];omega
     ·simp at h
    ·simp at h
   ·split at h
    ·exact hC i hi j h
    ·split at h
     ·exact hA i hi j h
     ·split at h
      ·exact JY hH _ _ i hi j h
      ·split at h
       ·exact hH i hi j h
       ·split at h
        ·split at h
         ·rw[mem_singleton.1 h];omega
         ·simp at h
        ·rw[mem_singleton.1 h];omega
theorem G9 (t:List Int):∀(l:List Re) (i:Nat),i<=t.length->∀ j∈outsC t l i,i<=j/\j<=t.length
 | [],i,hi,j,h=>by rw[outsC,mem_singleton]at h;omega
 | k::ks,i,hi,j,h=>by
   rw[outsC]at h;obtain⟨m,hm,h⟩:=mem_flatMap.1 h;have h1:=CN t k i hi m hm;have h2:=G9 t ks m h1.2 j h;omega
theorem Kc (t:List Int):∀(l:List Re) (i:Nat),i<=t.length->∀ j∈outsA t l i,i<=j/\j<=t.length
 | [],i,hi,j,h=>by simp[outsA]at h
 | k::ks,i,hi,j,h=>by
   rw[outsA]at h;rcases mem_append.1 h with h|h
   ·exact CN t k i hi j h
   ·exact Kc t ks i hi j h
theorem Kb (t:List Int):∀(l:List Re) (i:Nat),i<=t.length->∀ j∈outsH t l i,i<=j/\j<=t.length
 | [],i,hi,j,h=>by simp[outsH]at h
 | k::ks,i,hi,j,h=>by
   rw[outsH]at h;exact CN t k i hi j h
end
theorem OH {f:Nat->List Nat}{mn mx md:Int}{L:Nat} (hf:∀ i,i<=L->∀ j∈f i,i<j/\j<=L) (hm:0<mn):∀(n:Nat) (i:Nat),i<=L->∀ j∈repO f mn mx md n 0 i,i<j
 | 0,_,_,j,h=>by simp[repO]at h
 | n+1,i,hi,j,h=>by
   rw[repO,if_pos hm]at h;obtain⟨m,hm',h⟩:=mem_flatMap.1 h;have h1:=hf i hi m hm';have h2:=JY (fun i hi j hj=>⟨Nat.le_of_lt (hf i hi j hj).1,(hf i hi j hj).2⟩) n _ m h1.2 j h;omega
mutual
theorem Dd (t:List Int):∀(r:Re) (i:Nat),nullG r=false->codable r=true->i<=t.length->∀ j∈outs t r i,i<j
 | .mk op set kids mn mx md n neg,i,hn,hc,hi,j,h=>by
   have hC:=Im t kids;have hA:=Io t kids;have hH:=NN t kids;rw[codable,and_eq_true,or_eq_true,decide_eq_true_eq,beq_iff_eq]at hc;rw[nullG]at hn;rw[outs]at h;split at h
   ·split at h
    ·split at h
     ·rw[mem_singleton.1 h];omega
     ·simp at h
    ·simp at h
   ·rename_i h1;rw[if_neg h1]at hn;split at h
    ·rename_i h2;rw[if_pos h2]at hn;exact hC i hn hc.2 hi j h
    ·rename_i h2;rw[if_neg h2]at hn;split at h
     ·rename_i h3;rw[if_pos (.inl h3)]at hn;exact hA i hn hc.2 hi j h
     ·rename_i h3;rw[if_neg (by omega)]at hn;split at h
      ·rename_i h4;rw[if_pos h4,Bool.or_eq_false_iff,decide_eq_false_iff_not]at hn;refine OH (L:=t.length) ?_ (by omega) _ i hi j h;intro i hi j hj;exact⟨hH i hn.2 hc.2 hi j hj,(Kb t kids i hi j hj).2⟩
      ·rename_i h4;rw[if_neg h4]at hn;split at h
       ·rename_i h5;rw[if_pos (.inl h5)]at hn;exact hH i hn hc.2 hi j h
       ·rename_i h5;rw[if_neg (by omega)]at hn;cases hn
theorem Im (t:List Int):∀(l:List Re) (i:Nat),nullAll l=false->codableL l=true->i<=t.length->∀ j∈outsC t l i,i<j
 | [],i,hn,_,hi,j,h=>by simp[nullAll]at hn
 | k::ks,i,hn,hc,hi,j,h=>by
   rw[codableL,and_eq_true]at hc;rw[nullAll,Bool.and_eq_false_iff]at hn;rw[outsC]at h;obtain⟨m,hm,h⟩:=mem_flatMap.1 h;have h1:=CN t k i hi m hm;have h2:=G9 t ks m h1.2 j h;rcases hn with hn|hn
   ·have:=Dd t k i hn hc.1 hi m hm;omega
   ·have:=Im t ks m hn hc.2 h1.2 j h;omega
theorem Io (t:List Int):∀(l:List Re) (i:Nat),nullAny l=false->codableL l=true->i<=t.length->∀ j∈outsA t l i,i<j
 | [],i,hn,_,hi,j,h=>by simp[outsA]at h
 | k::ks,i,hn,hc,hi,j,h=>by
   rw[codableL,and_eq_true]at hc;rw[nullAny,Bool.or_eq_false_iff]at hn;rw[outsA]at h;rcases mem_append.1 h with h|h
   ·exact Dd t k i hn.1 hc.1 hi j h
   ·exact Io t ks i hn.2 hc.2 hi j h
theorem NN (t:List Int):∀(l:List Re) (i:Nat),nullHd l=false->codableL l=true->i<=t.length->∀ j∈outsH t l i,i<j
 | [],i,hn,_,hi,j,h=>by simp[outsH]at h
 | k::ks,i,hn,hc,hi,j,h=>by
   rw[codableL,and_eq_true]at hc;rw[nullHd]at hn;rw[outsH]at h;exact Dd t k i hn hc.1 hi j h
end
def RLe (R R':RunT):Prop:=∀ g i c s x,R g i c s=some x->R' g i c s=some x
theorem HB {a a':Option (Bool×SS)}{f f':SS->Option (Bool×SS)} {x} (h1:∀ y,a=some y->a' = some y) (h2:∀ s y,f s=some y->f' s=some y) (h:orR a f=some x):orR a' f' = some x:=by
 unfold orR at h |-;cases ha:a with
 | none=>rw[ha]at h;cases h
 | some q=>
   rw[ha]at h;rw[h1 _ ha];obtain⟨b,s⟩:=q;cases b with
   | true=>exact h
   | false=>exact h2 _ _ h
theorem Ik {fuel:Int}{R R':RunT} (h:RLe R R') {re:Re}{k:Int}{next:Goal}{i:Int}{c:Caps}{s:SS} {x} (he:repR fuel R re k next i c s=some x):repR fuel R' re k next i c s=some x:=by
 unfold repR at he |-;simp only at he |-;by_cases h1:(stepSz fuel s).empty=true
 ·rw[if_pos h1]at he |-;exact he
 ·rw[if_neg h1]at he |-;cases hk:re.kids with
  | nil=>rw[hk]at he;cases he
  | cons kid ks=>
    rw[hk]at he;simp only at he |-;by_cases h2:k<re.mn
    ·rw[if_pos h2]at he |-;exact h _ _ _ _ _ he
    ·rw[if_neg h2]at he |-;by_cases h3:re.md=1
     ·rw[if_pos h3]at he |-;refine HB (fun y e=>h _ _ _ _ _ e) (fun s2 y e=>?_) he;split at e<;>split
      ·exact h _ _ _ _ _ e
      ·contradiction
      ·contradiction
      ·exact e
     ·rw[if_neg h3]at he |-;refine HB (fun y e=>?_) (fun s2 y e=>h _ _ _ _ _ e) he;split at e<;>split
      ·exact h _ _ _ _ _ e
      ·contradiction
      ·contradiction
      ·exact e
theorem F2 {R R':RunT} (h:RLe R R') {next:Goal}{i:Int}{c:Caps}:∀ {l:List Re}{s:SS} {x},altR R next i c l s=some x->altR R' next i c l s=some x
 | [],s,x,he=>he
 | k::ks,s,x,he=>by
   simp only[altR]at he |-;exact HB (fun y e=>h _ _ _ _ _ e) (fun s2 y e=>F2 h e) he
theorem Lr {t:List Int}{fuel:Int}{R R':RunT} (h:RLe R R') {re:Re}{next:Goal}{i:Int}{c:Caps}{s:SS} {x} (he:nodeR t fuel R re next i c s=some x):nodeR t fuel R' re next i c s=some x:=by
 unfold nodeR at he |-;by_cases h4:re.op=4
 ·rw[if_pos h4]at he |-;exact Ik h he
 ·rw[if_neg h4]at he |-;simp only at he |-;by_cases h1:(stepSz fuel s).empty=true
  ·rw[if_pos h1]at he |-;exact he
  ·rw[if_neg h1]at he |-;by_cases a1:re.op=1
   ·rw[if_pos a1]at he |-;cases hx:t[i.toNat]? with
    | none=>rw[hx]at he;exact he
    | some y=>
      rw[hx]at he;simp only at he |-;by_cases hh:hasSpan re.set y=true
      ·rw[if_pos hh]at he |-;exact h _ _ _ _ _ he
      ·rw[if_neg hh]at he |-;exact he
   ·rw[if_neg a1]at he |-;by_cases a2:re.op=2
    ·rw[if_pos a2]at he |-;exact h _ _ _ _ _ he
    ·rw[if_neg a2]at he |-;by_cases a3:re.op=3
     ·rw[if_pos a3]at he |-;exact F2 h he
     ·rw[if_neg a3]at he |-;by_cases a5:re.op=5
      ·rw[if_pos a5]at he |-;cases hk:re.kids with
       | nil=>rw[hk]at he;cases he
       | cons kid ks=>rw[hk]at he;exact h _ _ _ _ _ he
      ·rw[if_neg a5]at he |-;by_cases a11:re.op=11
       ·rw[if_pos a11]at he |-;by_cases hh:assertI re.n (befS t i.toNat) t[i.toNat]?=true
        ·rw[if_pos hh]at he |-;exact h _ _ _ _ _ he
        ·rw[if_neg hh]at he |-;exact he
       ·rw[if_neg a11]at he |-;exact h _ _ _ _ _ he
theorem Ig (t:List Int) (fuel:Int):∀ d,RLe (runG t fuel d) (runG t fuel (d+1))
 | 0=>fun g i c s x h=>by cases g<;>simp[runG]at h
 | d+1=>fun g i c s x h=>by
   have ih:=Ig t fuel d;cases g with
   | nil=>simpa [runG] using h
   | mk kind re k fr next=>
     rw[runG]at h |-;by_cases k1:kind=1
     ·rw[if_pos k1]at h |-;exact Ik ih h
     ·rw[if_neg k1]at h |-;by_cases k2:kind=2
      ·rw[if_pos k2]at h |-;by_cases hc:re.mn<=k/\i=fr
       ·rw[if_pos hc]at h |-;exact h
       ·rw[if_neg hc]at h |-;exact ih _ _ _ _ _ h
      ·rw[if_neg k2]at h |-;by_cases k3:kind=3
       ·rw[if_pos k3]at h |-;exact ih _ _ _ _ _ h
       ·rw[if_neg k3]at h |-;exact Lr ih h
theorem Ga (t:List Int) (fuel:Int) {d d':Nat} (h:d<=d'):RLe (runG t fuel d) (runG t fuel d'):=by
 induction h with
 | refl=>exact fun _ _ _ _ _ h=>h
 | step h ih=>exact fun g i c s x e=>Ig t fuel _ g i c s x (ih g i c s x e)
variable (caps top:Int) (t:List Int) (fuel:Int)
def RT (g:Goal) (i n:Nat):Prop:=∀(c:Caps) (s:SS),GG caps top t.length s.steps g->c.length<=1000->SPre fuel s ->
 ∃ d b s',runG t fuel d g i c s=some (b,s')/\SPost fuel s b s'/\(b=false->s'.steps=s.steps+n)
variable {caps top:Int}{t:List Int}{fuel:Int}
theorem RT.of {g:Goal}{i n:Nat} (hi:i<=t.length) (h:∀(c:Caps) (s:SS),GG caps top t.length s.steps g->c.length<=1000->SPre fuel s->∃ d b s',runG t fuel d g i c s=some (b,s')/\(b=false->s'.steps=s.steps+n)):RT caps top t fuel g i n:=
 fun c s hg hc hs=>by
  obtain⟨d,b,s',h1,h2⟩:=h c s hg hc hs;exact⟨d,b,s',h1,Ff caps top t fuel d g i c s b s' hg (by omega) (by omega) hc hs h1,h2⟩
theorem RT.nil {i:Nat} (hi:i<=t.length):RT caps top t fuel .nil i 0:=RT.of hi fun c s _ _ hs=>⟨1,false,_,rfl,fun _=>by simp⟩
theorem DO {α:Type} (l:List α) (f:α->List Nat) (κ:Nat->Nat):((l.flatMap f).map κ).sum=(l.map fun j=>((f j).map κ).sum).sum:=by
 induction l with
 | nil=>rfl
 | cons a l ih=>simp[ih]
theorem GY {α:Type} (l:List α) (f g:α->Nat):(l.map fun j=>f j+g j).sum=(l.map f).sum+(l.map g).sum:=by
 induction l with
 | nil=>rfl
 | cons a l ih=>simp[ih];omega
variable {caps top:Int}{t:List Int}{fuel:Int}
theorem MW {g1 g2:Goal}{i n1 n2:Nat} (hi:i<=t.length) (h1:RT caps top t fuel g1 i n1) (h2:RT caps top t fuel g2 i n2) {c:Caps}{s:SS} (hg1:GG caps top t.length s.steps g1) (hg2:GG caps top t.length s.steps g2)
  (hc:c.length<=1000) (hs:SPre fuel s) (hx:(s.ends.length:Int)<=256*s.steps-256) :
  ∃ d b s',orR (runG t fuel d g1 i c s) (runG t fuel d g2 i c)=some (b,s')/\(b=false->s'.steps=s.steps+(n1+n2:Nat)):=by
 obtain⟨d1,b1,s1,e1,q1,m1⟩:=h1 c s hg1 hc hs;cases b1 with
 | true=>exact⟨d1,true,s1,by rw[e1];rfl,fun h=>by cases h⟩
 | false=>
   obtain⟨d2,b2,s2,e2,q2,m2⟩:=h2 c s1 (hg2.mono q1.st) hc (q1.pre hs hx);refine⟨max d1 d2,b2,s2,?_,fun h=>?_⟩
   ·rw[Ga t fuel (Nat.le_max_left d1 d2) _ _ _ _ _ e1];exact Ga t fuel (Nat.le_max_right d1 d2) _ _ _ _ _ e2
   ·have a:=m1 rfl;have b:=m2 h;omega
def RTRep (caps top:Int) (t:List Int) (fuel:Int) (re:Re) (k:Int) (next:Goal) (i m:Nat):Prop:=
 ∀(c:Caps) (s:SS),0<=k/\k<=s.steps->GG caps top t.length s.steps next->c.length<=1000->SPre fuel s ->
  ∃ d b s',repR fuel (runG t fuel d) re k next i c s=some (b,s')/\(b=false->s'.steps=s.steps+m)
theorem KW {re kid:Re} (h:RGood caps top re) (ho:re.op=4) (hkid:re.kids=[kid]) (hgk:RGood caps top kid) {next:Goal} {κ:Nat->Nat}
  (hpos:∀ i,i<=t.length->∀ j∈outs t kid i,i<j/\j<=t.length)
  (hK:∀(nx:Goal) (i:Nat) (κ':Nat->Nat),i<=t.length->(∀ j∈outs t kid i,RT caps top t fuel nx j (κ' j))->RT caps top t fuel (.mk 0 kid 0 0 nx) i (costR t kid i+((outs t kid i).map κ').sum)) :
  ∀(n:Nat) (k:Int) (i:Nat),i<=t.length->t.length+1-i<=n->(∀ j∈repO (outs t kid) re.mn re.mx re.md n k i,RT caps top t fuel next j (κ j)) ->
   RTRep caps top t fuel re k next i (repC (outs t kid) (costR t kid) re.mn re.mx n k i+((repO (outs t kid) re.mn re.mx re.md n k i).map κ).sum)
 | 0,k,i,hi,hn,_=>by omega
 | n+1,k,i,hi,hn,hx=>by
   intro c s hk hg hc hs;by_cases he:(stepSz fuel s).empty=true
   ·exact⟨0,true,stepSz fuel s,by unfold repR;simp only;rw[if_pos he],fun h=>by cases h⟩
   obtain⟨p1,p2⟩:=Ca hs (by simpa using he);have hst:(stepSz fuel s).steps=s.steps+1:=rfl;have hg1:=hg.mono (show s.steps<=(stepSz fuel s).steps by omega);have hon:=Fk (next:=next) (i:=i) (L:=t.length) (steps:=(stepSz fuel s).steps) h hgk ho (k:=k) ⟨hk.1,by omega⟩ ⟨by omega,by omega⟩ hg1
   have once:(∀ j∈(outs t kid i).flatMap (repO (outs t kid) re.mn re.mx re.md n (k+1)),RT caps top t fuel next j (κ j)) ->
     RT caps top t fuel (.mk 0 kid 0 0 (.mk 2 re k i next)) i (costR t kid i+((outs t kid i).map (repC (outs t kid) (costR t kid) re.mn re.mx n (k+1))).sum+(((outs t kid i).flatMap (repO (outs t kid) re.mn re.mx re.md n (k+1))).map κ).sum):=by
    intro hf;rw[DO,Nat.add_assoc,<- GY];refine hK _ i _ hi fun j hj=>?_;have hij:=hpos i hi j hj;refine RT.of hij.2 fun c s hg hc hs=>?_;obtain⟨g1,g2,g3,g4⟩:=hg;obtain⟨d,b,s',e,m⟩:=KW h ho hkid hgk hpos hK n (k+1) j hij.2 (by omega) (fun q hq=>hf q (mem_flatMap.2 ⟨j,hj,hq⟩)) c s (by omega) g4 hc hs;refine⟨d+2,b,s',?_,m⟩;rw[runG,if_neg (by decide),if_pos rfl,if_neg (by omega),runG,if_pos rfl];exact e
   rw[repO]at hx |-;rw[repC];by_cases hm:k<re.mn
   ·rw[if_pos hm]at hx |-;rw[if_pos (.inl hm)];obtain⟨d,b,s',e,q,m⟩:=once hx c _ hon hc p1;refine⟨d,b,s',?_,fun hb=>?_⟩
    ·unfold repR;simp only;rw[if_neg he,hkid];simp only;rw[if_pos hm];exact e
    ·have:=m hb;omega
   ·rw[if_neg hm]at hx |-;by_cases hM:re.mx = -1∨k<re.mx
    ·have hmore:(decide (re.mx = -1)||decide (k<re.mx))=true:=by simpa using hM
     rw[if_pos (.inr hM)];simp only[if_pos hM]at hx |-;by_cases hd:re.md=1
     ·rw[if_pos hd]at hx |-;obtain⟨d,b,s',e,m⟩:=MW hi (hx i (by simp)) (once fun j hj=>hx j (List.mem_cons_of_mem _ hj)) hg1 hon hc p1 (by omega);refine⟨d,b,s',?_,fun hb=>?_⟩
      ·unfold repR;simp only;rw[if_neg he,hkid];simp only;rw[if_neg hm,if_pos hd];simp only[hmore,if_true];exact e
      ·have:=m hb;simp only[map_cons,sum_cons];omega
     ·rw[if_neg hd]at hx |-;obtain⟨d,b,s',e,m⟩:=MW hi (once fun j hj=>hx j (List.mem_append_left _ hj)) (hx i (by simp)) hon hg1 hc p1 (by omega);refine⟨d,b,s',?_,fun hb=>?_⟩
      ·unfold repR;simp only;rw[if_neg he,hkid];simp only;rw[if_neg hm,if_neg hd];simp only[hmore,if_true];exact e
      ·have:=m hb;simp only[map_append,List.sum_append,map_cons,map_nil,sum_cons,sum_nil];omega
    ·have hmore:(decide (re.mx = -1)||decide (k<re.mx))=false:=by
      simp only[Bool.or_eq_false_iff,decide_eq_false_iff_not];omega
     rw[if_neg (by omega)];simp only[if_neg hM]at hx |-;have hO:(if re.md=1 then [i] else []++[i])=[i]:=by split<;>rfl
     rw[hO]at hx |-;obtain⟨d,b,s',e,q,m⟩:=hx i (by simp) c _ hg1 hc p1;refine⟨d,b,s',?_,fun hb=>?_⟩
     ·unfold repR;simp only;rw[if_neg he,hkid];simp only;rw[if_neg hm];simp only[hmore];split
      ·rw[e];cases b with
       | true=>rfl
       | false=>rfl
      ·exact e
     ·have:=m hb;simp only[map_cons,map_nil,sum_cons,sum_nil];omega
mutual
def lpG:Re->Bool
 | .mk op set kids mn mx md n neg=>!(decide (op=4)&&nullHd kids)&&lpL kids
def lpL:List Re->Bool
 | []=>true
 | k::ks=>lpG k&&lpL ks
end
mutual
theorem JZ (caps top:Int) (t:List Int) (fuel:Int):∀ r:Re,RGood caps top r->lpG r=true->∀(k fr:Int) (next:Goal) (i:Nat) (κ:Nat->Nat),i<=t.length ->
  (∀ j∈outs t r i,RT caps top t fuel next j (κ j))->RT caps top t fuel (.mk 0 r k fr next) i (costR t r i+((outs t r i).map κ).sum)
 | .mk op set kids mn mx md n neg,hr,hcp,k,fr,next,i,κ,hi,hx=>by
   have hkids:∀ k∈kids,RGood caps top k:=hr.kids;have hC:=fun h next κ=>M1 caps top t fuel kids hkids h next i κ hi
   have hA:=fun h next κ=>M6 caps top t fuel kids hkids h next i κ hi
   have hH:=fun h next i κ hi=>RF caps top t fuel kids hkids h next i κ hi
   have hop:=hr.good.op;have hlen:=hr.len;rw[lpG,and_eq_true]at hcp;obtain⟨hcp0,hcp⟩:=hcp;refine RT.of hi fun c s hg hc hs=>?_;obtain⟨g1,g2,g3,g4⟩:=hg;by_cases h4:op=4
   ·subst h4;have hnl:nullHd kids=false:=by simpa using hcp0
    obtain⟨kid,hkid,hgk⟩:=JX hr rfl;simp only[Re.kids]at hkid;subst hkid;have ho:∀ i,outs t (.mk 4 set [kid] mn mx md n neg) i=repO (outs t kid) mn mx md (t.length+1-i) 0 i:=fun i=>by
     rw[outs,if_neg (by decide),if_neg (by decide),if_neg (by decide),if_pos rfl];congr 1
    have hcst:∀ i,costR t (.mk 4 set [kid] mn mx md n neg) i=repC (outs t kid) (costR t kid) mn mx (t.length+1-i) 0 i:=fun i=>by
     rw[costR,if_neg (by decide),if_neg (by decide),if_pos rfl];congr 1
    rw[ho]at hx;rw[ho,hcst];rw[lpL,and_eq_true]at hcp
    obtain⟨d,b,s',e,m⟩:=KW (κ:=κ) hr rfl rfl hgk (fun i hi j hj=>⟨Dd t kid i (by rw[nullHd]at hnl;exact hnl) hgk.good.cod hi j hj,(CN t kid i hi j hj).2⟩)
     (fun nx i κ' hi h=>hH (by rw[lpL,lpL,hcp.1];rfl) nx i κ' hi h) (t.length+1-i) 0 i hi (Nat.le_refl _) hx c s ⟨le_refl _,hs.st.1⟩ g4 hc hs
    refine⟨d+1,b,s',?_,m⟩;rw[runG,if_neg (by decide),if_neg (by decide),if_neg (by decide),nodeR,if_pos (by rfl)];exact e
   ·by_cases he:(stepSz fuel s).empty=true
    ·refine⟨1,true,stepSz fuel s,?_,fun h=>by cases h⟩;rw[runG,if_neg (by decide),if_neg (by decide),if_neg (by decide),nodeR,if_neg (by exact h4)];simp only;rw[if_pos he]
    ·obtain⟨p1,p2⟩:=Ca hs (by simpa using he);have hst:(stepSz fuel s).steps=s.steps+1:=rfl;have hg1:=g4.mono (show s.steps<=(stepSz fuel s).steps by omega);rcases hop with rfl|rfl|rfl|rfl|rfl|rfl|rfl
     ·have ho:outs t (.mk 0 set kids mn mx md n neg) i=[i]:=by rw[outs];simp
      have hcst:costR t (.mk 0 set kids mn mx md n neg) i=1:=by rw[costR];simp
      rw[ho]at hx;rw[ho,hcst];obtain⟨d,b,s',e,q,m⟩:=hx i (by simp) c _ hg1 hc p1;refine⟨d+1,b,s',?_,fun hb=>by have:=m hb;simp only[map_cons,map_nil,sum_cons,sum_nil];omega⟩;simp[runG,nodeR,Re.op,he,e]
     ·have hcst:costR t (.mk 1 set kids mn mx md n neg) i=1:=by rw[costR];simp
      rw[outs,if_pos rfl]at hx |-;rw[hcst];cases hti:t[i]? with
      | none=>
        refine⟨1,false,stepSz fuel s,?_,fun _=>by simp;omega⟩;simp[runG,nodeR,Re.op,he,hti]
      | some x=>
        rw[hti]at hx;by_cases hh:hasSpan set x=true
        ·simp only[if_pos hh]at hx |-;obtain⟨d,b,s',e,q,m⟩:=hx (i+1) (by simp) c _ hg1 hc p1;refine⟨d+1,b,s',?_,fun hb=>by have:=m hb;simp only[map_cons,map_nil,sum_cons,sum_nil];omega⟩;simp only[Int.natCast_add,Int.natCast_one]at e;simp[runG,nodeR,Re.op,Re.set,he,hti,hh,e]
        ·simp only[if_neg hh]at hx |-;refine⟨1,false,stepSz fuel s,?_,fun _=>by simp;omega⟩;simp[runG,nodeR,Re.op,Re.set,he,hti,hh]
     ·have ho:outs t (.mk 2 set kids mn mx md n neg) i=outsC t kids i:=by rw[outs];simp
      have hcst:costR t (.mk 2 set kids mn mx md n neg) i=1+costRC t kids i:=by rw[costR];simp
      rw[ho]at hx;rw[ho,hcst];obtain⟨d,b,s',e,q,m⟩:=hC hcp next κ hx c _ (GG.cat (by omega) hg1 hkids) hc p1
      refine⟨d+1,b,s',?_,fun hb=>by have:=m hb;omega⟩;simp[runG,nodeR,Re.op,Re.kids,he,e]
     ·have ho:outs t (.mk 3 set kids mn mx md n neg) i=outsA t kids i:=by rw[outs];simp
      have hcst:costR t (.mk 3 set kids mn mx md n neg) i=1+costRA t kids i:=by rw[costR];simp
      rw[ho]at hx;rw[ho,hcst];simp only[Re.kids]at hlen;obtain⟨d,b,s',e,m⟩:=hA hcp next κ hx c _ hg1 hc p1 (by omega)
      refine⟨d+1,b,s',?_,fun hb=>by have:=m hb;omega⟩;simp[runG,nodeR,Re.op,Re.kids,he,e]
     ·exact absurd rfl h4
     ·have ho:outs t (.mk 5 set kids mn mx md n neg) i=outsH t kids i:=by rw[outs];simp
      have hcst:costR t (.mk 5 set kids mn mx md n neg) i=1+costRH t kids i:=by rw[costR];simp
      rw[ho]at hx;rw[ho,hcst];obtain⟨kid,hkid,hgk⟩:=J4 hr rfl;simp only[Re.kids]at hkid;subst hkid;have e1:outsH t [kid] i=outs t kid i:=by rw[outsH]
      have e2:costRH t [kid] i=costR t kid i:=by rw[costRH]
      rw[e1]at hx;rw[e1,e2];obtain⟨d,b,s',e,q,m⟩:=hH hcp (.mk 3 (.mk 5 set [kid] mn mx md n neg) 0 i next) i κ hi (fun j hj=>by
       have hj2:=(CN t kid i hi j hj).2;refine RT.of hj2 fun c s hg hc hs=>?_;obtain⟨g1,g2,g3,g4⟩:=hg;obtain⟨d,b,s',e,q,m⟩:=hx j hj (withI c n i j) s g4 (by rw[Gn];exact hc) hs;refine⟨d+1,b,s',?_,m⟩;rw[runG,if_neg (by decide),if_neg (by decide),if_pos rfl];exact e) c _ ⟨hgk,.inl rfl,⟨le_refl _,by omega⟩,hr,.inr (.inr (.inr ⟨rfl,rfl⟩)),⟨by omega,by omega⟩,hg1⟩ hc p1
      refine⟨d+1,b,s',?_,fun hb=>by have:=m hb;omega⟩;rw[runG,if_neg (by decide),if_neg (by decide),if_neg (by decide),nodeR,if_neg (by exact h4)];simp only;rw[if_neg he];simp only[Re.op,Re.kids,show ¬(5:Int)=1 by decide,show ¬(5:Int)=2 by decide,show ¬(5:Int)=3 by decide,if_false,if_true];exact e
     ·have hcst:costR t (.mk 11 set kids mn mx md n neg) i=1:=by rw[costR];simp
      have ho:outs t (.mk 11 set kids mn mx md n neg) i=if assertI n (befS t i) t[i]?=true then [i] else []:=by rw[outs];simp
      rw[ho]at hx;rw[ho,hcst];by_cases hh:assertI n (befS t i) t[i]?=true
      ·simp only[if_pos hh]at hx |-;obtain⟨d,b,s',e,q,m⟩:=hx i (by simp) c _ hg1 hc p1;refine⟨d+1,b,s',?_,fun hb=>by have:=m hb;simp only[map_cons,map_nil,sum_cons,sum_nil];omega⟩;simp[runG,nodeR,Re.op,Re.n,he,hh,e]
      ·simp only[if_neg hh]at hx |-;refine⟨1,false,stepSz fuel s,?_,fun _=>by simp;omega⟩;simp[runG,nodeR,Re.op,Re.n,he,hh]
theorem M1 (caps top:Int) (t:List Int) (fuel:Int):∀ l:List Re,(∀ k∈l,RGood caps top k)->lpL l=true->∀(next:Goal) (i:Nat) (κ:Nat->Nat),i<=t.length ->
  (∀ j∈outsC t l i,RT caps top t fuel next j (κ j))->RT caps top t fuel (catG next l) i (costRC t l i+((outsC t l i).map κ).sum)
 | [],_,_,next,i,κ,hi,hx=>by
   have:=hx i (by simp[outsC])
   simpa [outsC,costRC,catG] using this
 | k::ks,hr,hcp,next,i,κ,hi,hx=>by
   rw[lpL,and_eq_true]at hcp;rw[outsC]at hx |-;rw[costRC,DO,Nat.add_assoc,<- GY,catG];refine JZ caps top t fuel k (hr k (by simp)) hcp.1 0 0 _ i _ hi fun j hj=>?_;exact M1 caps top t fuel ks (fun q hq=>hr q (by simp[hq])) hcp.2 next j κ (CN t k i hi j hj).2 fun q hq=>hx q (mem_flatMap.2 ⟨j,hj,hq⟩)
theorem M6 (caps top:Int) (t:List Int) (fuel:Int):∀ l:List Re,(∀ k∈l,RGood caps top k)->lpL l=true->∀(next:Goal) (i:Nat) (κ:Nat->Nat),i<=t.length ->
  (∀ j∈outsA t l i,RT caps top t fuel next j (κ j))->∀(c:Caps) (s:SS),GG caps top t.length s.steps next->c.length<=1000->SPre fuel s->(s.ends.length:Int)+l.length<=256*s.steps ->
  ∃ d b s',altR (runG t fuel d) next i c l s=some (b,s')/\(b=false->s'.steps=s.steps+(costRA t l i+((outsA t l i).map κ).sum:Nat))
 | [],_,_,next,i,κ,hi,hx=>fun c s hg hc hs hsl=>⟨0,false,s,rfl,fun _=>by simp[costRA,outsA]⟩
 | k::ks,hr,hcp,next,i,κ,hi,hx=>fun c s hg hc hs hsl=>by
   rw[lpL,and_eq_true]at hcp;rw[outsA]at hx |-;rw[costRA];obtain⟨d1,b1,s1,e1,q1,m1⟩:=JZ caps top t fuel k (hr k (by simp)) hcp.1 0 0 next i κ hi (fun j hj=>hx j (List.mem_append_left _ hj)) c s ⟨hr k (by simp),.inl rfl,⟨le_refl _,by omega⟩,hg⟩ hc hs
   cases b1 with
   | true=>exact⟨d1,true,s1,by rw[altR,e1];rfl,fun h=>by cases h⟩
   | false=>
     have a1:=q1.st;have a2:=q1.fu rfl;have a3:=q1.el;have a4:=hs.st;simp only[length_cons]at hsl;obtain⟨d2,b2,s2,e2,m2⟩:=M6 caps top t fuel ks (fun q hq=>hr q (by simp[hq])) hcp.2 next i κ hi (fun j hj=>hx j (List.mem_append_right _ hj)) c s1 (hg.mono a1) hc ⟨q1.eb.symm,⟨by omega,a2⟩,q1.cl,by omega⟩ (by omega)
     refine⟨max d1 d2,b2,s2,?_,fun h=>?_⟩
     ·rw[altR,Ga t fuel (Nat.le_max_left d1 d2) _ _ _ _ _ e1];exact F2 (Ga t fuel (Nat.le_max_right d1 d2)) e2
     ·have a:=m1 rfl;have b:=m2 h;simp only[map_append,List.sum_append];omega
theorem RF (caps top:Int) (t:List Int) (fuel:Int):∀ l:List Re,(∀ k∈l,RGood caps top k)->lpL l=true->∀(next:Goal) (i:Nat) (κ:Nat->Nat),i<=t.length ->
  match l with
  | []=>True
  | k::_=>(∀ j∈outs t k i,RT caps top t fuel next j (κ j))->RT caps top t fuel (.mk 0 k 0 0 next) i (costR t k i+((outs t k i).map κ).sum)
 | [],_,_,_,_,_,_=>trivial
 | k::ks,hr,hcp,next,i,κ,hi=>fun hx=>by
   rw[lpL,and_eq_true]at hcp;exact JZ caps top t fuel k (hr k (by simp)) hcp.1 0 0 next i κ hi hx
end
end Go.Ev
namespace Go.Ev
attribute [local go_sem] BM evAppend evBin evBuild evMakeSlice AV.cells AV.ok splice Ae Al bndO bnd evEq eqCells not_false_eq_true not_true_eq_false AX Array.size_empty length_append map_append tySzE List.head?_drop Nat.mul_one AQ AU AO AR AS AY
section
theorem HN {j:List AV->List MB->Option (List AV×List MB)} (l:List Ins):KeepL j (l.map insAV) (l.map insAV):=KeepL.plain (AH l)
theorem Px {f id n:Nat}{els:List AV}{c:List Ins}{H:List MB} (hk:pol1.keep f=false) (ho:pol1.own f=true) (hr:getRow H id=some (5,els,0)) (hn:c.length=n) (hK:∀ j,KeepL j els (c.map insAV)) :
  retPol pol1 f [] (.ms id 5 n 0 n) H=some (.ms 0 5 n 0 n,[.row 5 (c.map insAV) 0]):=by
 have hl:=(hK (fun _ _=>none)).len;rw[List.length_map]at hl;exact Lm (els:=els) hk ho hr (by omega) ((hK _).fz H) hr (AH c) (by simp[hn])
theorem Py {f id n:Nat}{els xs:List AV}{c:List Ins}{H:List MB} (hk:pol1.keep f=false) (ho:pol1.own f=true) (hr:getRow H id=some (5,els,0)) (hn:c.length=n) (hx:xs=c.map insAV) (hK:∀ j,KeepL j els (c.map insAV)) :
 retPol pol1 f [] (.ms id 5 n 0 n) H=some (.ms 0 5 n 0 n,[.row 5 xs 0]):=hx ▸ Px hk ho hr hn hK
def copiesG (k:Re) (f i:Nat):List Ins:=(List.range i).flatMap fun i=>codeG k (f+i*lenG k)
theorem LC (k:Re) (f i:Nat):copiesG k f (i+1)=copiesG k f i++codeG k (f+i*lenG k):=by
 simp[copiesG,List.range_succ,List.flatMap_append]
theorem Hm {caps top:Int}{k:Re} (h:GoodC caps top k) (f i:Nat):(copiesG k f i).length=i*lenG k:=Dg _ _ _ (fun i _=>BH caps top k _ h)
def optsG (md:Int) (k:Re) (p e i:Nat):List Ins:=(List.range i).flatMap fun j=>insSplit md ((p+j*(lenG k+1)+1:Nat):Int) (e:Nat)::codeG k (p+j*(lenG k+1)+1)
def restG (md:Int) (k:Re) (f m e i:Nat):List Ins:=copiesG k f m++optsG md k (f+m*lenG k) e i
end
section
theorem Nj {P:Program}{pol:Pol}{f:Nat}{args l:List AV}{H H1:List MB} (hp:pol.pure f=true) (h:frzArgs pol f 0 args H=some (l,H1)) (ha:AV.plainL l=true) :
  call P pol f args H=call P pol f l H1:=by
 have hf:∀(l:List AV) (i:Nat),AV.plainL l=true->frzArgs pol f i l H1=some (l,H1):=by
  intro l
  induction l with
  | nil=>intro i _;rfl
  | cons x l ih=>
    intro i h;simp only[AV.plainL,and_eq_true]at h;simp only[frzArgs,Au H1 h.1,ih (i+1) h.2];split<;>simp_all
 rw[BO,BO];unfold evStep;simp only[hp,if_true,h,hf l 0 ha]
theorem EH:∀(a b:List Re) (f:Nat),codeCat (a++b) f=codeCat a f++codeCat b (f+lenL a)
 | [],b,f=>by simp[codeCat,lenL]
 | k::ks,b,f=>by simp[codeCat,lenL,EH ks b,Nat.add_assoc]
theorem Jw {l:List Re}{i:Nat}{k:Re} (h:l[i]?=some k) (f:Nat):codeCat (l.take (i+1)) f=codeCat (l.take i) f++codeG k (f+lenL (l.take i)):=by
 rw[List.take_add_one,h,EH];simp[codeCat]
theorem FS:∀(l:List Re) (i:Nat),lenL (l.take i)<=lenL l:=fun l i=>by
 have:=D7 (l.take i) (l.drop i);rw[List.take_append_drop]at this;omega
end
section
theorem f103 (b0 b3:MB) (pc tc:List AV) (hp:AV.plainL pc=true) (htc:AV.plainL tc=true) (caps top:Int) (ht:top<=1114111) (hpc:pc[8]?=some (I caps)) (htc2:tc=[I top]):∀(N:Nat) (r:Re),r.wt<=N->r.wt<=1000000 ->
  ∀(d s:Nat) (g:Bool),s<=256->d<=1000000 ->
  ∃(ok g':Bool) (s':Nat),call Pg pol1 85 [.pt (reC r),I d,.rf 1 1 0 0,.rf 2 1 0 0,.pt pc,.pt tc,.rf 4 1 0 0]
    [b0,.row 1 [I s] 0,.row 1 [.bool g] 0,b3,.row 1 [.clo 85 [.rf 1 1 0 0,.rf 2 1 0 0,.pt pc,.pt tc,.rf 4 1 0 0]] 0] =
   some (.bool ok,[b0,.row 1 [I s'] 0,.row 1 [.bool g'] 0,b3,.row 1 [.clo 85 [.rf 1 1 0 0,.rf 2 1 0 0,.pt pc,.pt tc,.rf 4 1 0 0]] 0]) /\
   ok=decide (s+r.size<=256/\d+r.depth<=25)/\(ok=true->s' = s+r.size/\g' = (g&&wholeG caps top r))
 | 0,r,h,_,_,_,_,_,_=>by have:=r.wt_pos;omega
 | N+1,.mk op set kids mn mx md n neg,h,hN,d,s,g,hs,hd=>by
   have hkl:=Re.wtL_len kids;have hwt:1+set.length+Re.wtL kids=(Re.mk op set kids mn mx md n neg).wt:=by simp[Re.wt]
   have ih:=fun k (hk:k∈kids)=>f103 b0 b3 pc tc hp htc caps top ht hpc htc2 N k (by have:=Re.wtL_mem hk;omega) (by have:=Re.wtL_mem hk;omega);have f104':=Sq caps top ht op set kids mn mx md n neg (by omega) (by omega);rw[show (.pt (reC (.mk op set kids mn mx md n neg)):AV)=.pt (nodeL op set kids mn mx md n neg) from congrArg AV.pt Bl];have hsz:(Re.mk op set kids mn mx md n neg).size=1+Re.sizeL kids:=by simp[Re.size]
   have hdz:(Re.mk op set kids mn mx md n neg).depth=1+Re.depthL kids:=by simp[Re.depth]
   have hwh:wholeG caps top (.mk op set kids mn mx md n neg)=(formedG caps top (.mk op set kids mn mx md n neg)&&wholeL caps top kids):=by rw[wholeG]
   have fr:∀(s:Int) (g:Bool),frzArgs pol1 85 0 [.pt (nodeL op set kids mn mx md n neg),I d,.rf 1 1 0 0,.rf 2 1 0 0,.pt pc,.pt tc,.rf 4 1 0 0]
     [b0,.row 1 [I s] 0,.row 1 [.bool g] 0,b3,.row 1 [.clo 85 [.rf 1 1 0 0,.rf 2 1 0 0,.pt pc,.pt tc,.rf 4 1 0 0]] 0] =
     some ([.pt (nodeL op set kids mn mx md n neg),I d,.rf 1 1 0 0,.rf 2 1 0 0,.pt pc,.pt tc,.rf 4 1 0 0],[b0,.row 1 [I s] 0,.row 1 [.bool g] 0,b3,.row 1 [.clo 85 [.rf 1 1 0 0,.rf 2 1 0 0,.pt pc,.pt tc,.rf 4 1 0 0]] 0]):=fun s g=>
    AL _ _ _ (by simp[mixOk,show pol1.byref 85 2=true from rfl,show pol1.byref 85 3=true from rfl,show pol1.byref 85 4=true from rfl,show pol1.byref 85 5=true from rfl,show pol1.byref 85 6=true from rfl,AV.plain,AV.plainL,AG,AN])
   have rt:∀(x:Bool) (s s':Int) (g g':Bool),retPol pol1 85 [b0,.row 1 [I s] 0,.row 1 [.bool g] 0,b3,.row 1 [.clo 85 [.rf 1 1 0 0,.rf 2 1 0 0,.pt pc,.pt tc,.rf 4 1 0 0]] 0] (.bool x) [b0,.row 1 [I s'] 0,.row 1 [.bool g'] 0,b3,.row 1 [.clo 85 [.rf 1 1 0 0,.rf 2 1 0 0,.pt pc,.pt tc,.rf 4 1 0 0]] 0] =
     some (.bool x,[b0,.row 1 [I s'] 0,.row 1 [.bool g'] 0,b3,.row 1 [.clo 85 [.rf 1 1 0 0,.rf 2 1 0 0,.pt pc,.pt tc,.rf 4 1 0 0]] 0]):=fun x s s' g g'=>
    Bg rfl rfl rfl (by simp[keptOk,MB.beq_refl,MB.under,AV.underL,AV.under]) rfl
   have hs1:((s:Int)+1)=((s+1:Nat):Int):=rfl;subst htc2;by_cases hc:256<s+1∨24<d
   ·refine⟨false,g,s+1,?_,?_,fun h=>by cases h⟩
    ·refine AP (pol:=pol1) Tryz.func85 rfl rfl rfl rfl (fr s g) ?_;have hc':256<s+1∨(¬ 256<s+1/\24<d):=by omega
     rcases hc' with h1|⟨h1,h2⟩
     all_goals (
      simp +contextual (disch:=omega) only[Tryz.f85,dd85,go_sem,simprocAttr,mu85,↓AD,↓AC,↓AB,↓AA,hs1,rt];repeat' (first|intro _|apply And.intro|(unfold dOk;kernel_rfl)|(show (_||_)=true;kernel_rfl)|(show (_&&_)=true;kernel_rfl)))
    ·rw[hsz,hdz]
     symm;rw[decide_eq_false_iff_not]
     omega
   ·have key:∃ r:AV×List MB,(∃(ok g':Bool) (s':Nat),r=(.bool ok,[b0,.row 1 [I s'] 0,.row 1 [.bool g'] 0,b3,.row 1 [.clo 85 [.rf 1 1 0 0,.rf 2 1 0 0,.pt pc,.pt [I top],.rf 4 1 0 0]] 0]) /\
      ok=decide (s+(Re.mk op set kids mn mx md n neg).size<=256/\d+(Re.mk op set kids mn mx md n neg).depth<=25)/\(ok=true->s' = s+(Re.mk op set kids mn mx md n neg).size/\g' = (g&&wholeG caps top (.mk op set kids mn mx md n neg)))) /\
      call Pg pol1 85 [.pt (nodeL op set kids mn mx md n neg),I d,.rf 1 1 0 0,.rf 2 1 0 0,.pt pc,.pt [I top],.rf 4 1 0 0]
       [b0,.row 1 [I s] 0,.row 1 [.bool g] 0,b3,.row 1 [.clo 85 [.rf 1 1 0 0,.rf 2 1 0 0,.pt pc,.pt [I top],.rf 4 1 0 0]] 0]=some r:=by
     rw[hsz,hdz,hwh];refine Hs (pol:=pol1) Tryz.func85 rfl rfl rfl rfl (fr s g) ?_;generalize formedG caps top (.mk op set kids mn mx md n neg)=fg at *;clear hwh hsz hdz;have hd0:d<=24:=by omega
     have hs0:s+1<=256:=by omega
     cases g
     ·simp +contextual (disch:=omega) only[Tryz.f85,dd85,go_sem,simprocAttr,mu85,↓AD,↓AC,↓AB,↓AA,hs1]
      refine Af (M:=(mskOf (pol1.mask 85) (pol1.gc 85) (pol1.acts 85) 0 6)) rfl kids.length (fun i=>(⟨47,[(32,I i),(31,I kids.length),(6,.rf 4 1 0 0),(1,I d),(0,.pt (nodeL op set kids mn mx md n neg))],[b0,.row 1 [I ((s+1+Re.sizeL (kids.take i):Nat):Int)] 0,.row 1 [.bool (false&&wholeL caps top (kids.take i))] 0,b3,.row 1 [.clo 85 [.rf 1 1 0 0,.rf 2 1 0 0,.pt pc,.pt [I top],.rf 4 1 0 0]] 0]⟩:St))
       (fun i=>s+1+Re.sizeL (kids.take i)<=256/\d+1+Re.depthL (kids.take i)<=25) ?_ ?_ ⟨by simp[Re.sizeL];omega,by simp[Re.depthL];omega⟩ _ ?_
      ·rintro i hi ⟨hb1,hb2⟩;obtain⟨k,hk⟩:∃ k,kids[i]?=some k:=⟨_,List.getElem?_eq_getElem hi⟩;obtain⟨ok,g2,s2,hcall,hok,himp⟩:=ih k (List.mem_of_getElem? hk) (d+1) (s+1+Re.sizeL (kids.take i)) (false&&wholeL caps top (kids.take i)) (by omega) (by omega);have e1:=Re.sizeL_take hk;have e2:=Re.depthL_take hk;have e3:=Dz (caps:=caps) (top:=top) hk;have e4:=Re.sizeL_le (l:=kids) (i:=i+1);have e5:=Re.depthL_le (l:=kids) (i:=i+1);have hl8:=AM k;have ht8:=AZ k;have hd1:((d:Int)+1)=((d+1:Nat):Int):=rfl;cases ok with
       | false=>
         have hcf:=of_decide_eq_false hok.symm;simp +contextual (disch:=omega) only[Tryz.f85,dd85,go_sem,simprocAttr,mu85,↓AD,↓AC,↓AB,↓AA,hk,hl8,ht8,hd1,hcall];repeat' (first|intro _|apply And.intro|(unfold dOk;kernel_rfl)|(show (_||_)=true;kernel_rfl)|(show (_&&_)=true;kernel_rfl))
         refine⟨_,⟨false,g2,s2,rfl,?_,fun h=>by cases h⟩,rt false _ _ _ _⟩
         symm;rw[decide_eq_false_iff_not];omega
       | true=>
         have hct:=of_decide_eq_true hok.symm;obtain⟨rfl,rfl⟩:=himp rfl;rw[e1,e2,e3,<- Bool.and_assoc];simp +contextual (disch:=omega) only[Tryz.f85,dd85,go_sem,simprocAttr,mu85,↓AD,↓AC,↓AB,↓AA,hk,hl8,ht8,hd1,hcall];repeat' (first|intro _|apply And.intro|(unfold dOk;kernel_rfl)|(show (_||_)=true;kernel_rfl)|(show (_&&_)=true;kernel_rfl))
         rw[Nat.add_assoc (s+1)];rfl
      ·rintro⟨hb1,hb2⟩;rw[List.take_length]at hb1 hb2 |-;simp +contextual (disch:=omega) only[Tryz.f85,dd85,go_sem,simprocAttr,mu85,↓AD,↓AC,↓AB,↓AA];refine⟨_,⟨true,(false&&wholeL caps top kids),s+1+Re.sizeL kids,rfl,?_,fun _=>⟨by omega,by simp⟩⟩,rt true _ _ _ _⟩;rfl
      ·rfl
     ·simp +contextual (disch:=omega) only[Tryz.f85,dd85,go_sem,simprocAttr,mu85,↓AD,↓AC,↓AB,↓AA,hs1,f104',hpc]
      refine Af (M:=(mskOf (pol1.mask 85) (pol1.gc 85) (pol1.acts 85) 0 6)) rfl kids.length (fun i=>(⟨47,[(32,I i),(31,I kids.length),(6,.rf 4 1 0 0),(1,I d),(0,.pt (nodeL op set kids mn mx md n neg))],[b0,.row 1 [I ((s+1+Re.sizeL (kids.take i):Nat):Int)] 0,.row 1 [.bool (fg&&wholeL caps top (kids.take i))] 0,b3,.row 1 [.clo 85 [.rf 1 1 0 0,.rf 2 1 0 0,.pt pc,.pt [I top],.rf 4 1 0 0]] 0]⟩:St))
       (fun i=>s+1+Re.sizeL (kids.take i)<=256/\d+1+Re.depthL (kids.take i)<=25) ?_ ?_ ⟨by simp[Re.sizeL];omega,by simp[Re.depthL];omega⟩ _ ?_
      ·rintro i hi ⟨hb1,hb2⟩;obtain⟨k,hk⟩:∃ k,kids[i]?=some k:=⟨_,List.getElem?_eq_getElem hi⟩;obtain⟨ok,g2,s2,hcall,hok,himp⟩:=ih k (List.mem_of_getElem? hk) (d+1) (s+1+Re.sizeL (kids.take i)) (fg&&wholeL caps top (kids.take i)) (by omega) (by omega);have e1:=Re.sizeL_take hk;have e2:=Re.depthL_take hk;have e3:=Dz (caps:=caps) (top:=top) hk;have e4:=Re.sizeL_le (l:=kids) (i:=i+1);have e5:=Re.depthL_le (l:=kids) (i:=i+1);have hl8:=AM k;have ht8:=AZ k;have hd1:((d:Int)+1)=((d+1:Nat):Int):=rfl;cases ok with
       | false=>
         have hcf:=of_decide_eq_false hok.symm;simp +contextual (disch:=omega) only[Tryz.f85,dd85,go_sem,simprocAttr,mu85,↓AD,↓AC,↓AB,↓AA,hk,hl8,ht8,hd1,hcall];repeat' (first|intro _|apply And.intro|(unfold dOk;kernel_rfl)|(show (_||_)=true;kernel_rfl)|(show (_&&_)=true;kernel_rfl))
         refine⟨_,⟨false,g2,s2,rfl,?_,fun h=>by cases h⟩,rt false _ _ _ _⟩
         symm;rw[decide_eq_false_iff_not];omega
       | true=>
         have hct:=of_decide_eq_true hok.symm;obtain⟨rfl,rfl⟩:=himp rfl;rw[e1,e2,e3,<- Bool.and_assoc];simp +contextual (disch:=omega) only[Tryz.f85,dd85,go_sem,simprocAttr,mu85,↓AD,↓AC,↓AB,↓AA,hk,hl8,ht8,hd1,hcall];repeat' (first|intro _|apply And.intro|(unfold dOk;kernel_rfl)|(show (_||_)=true;kernel_rfl)|(show (_&&_)=true;kernel_rfl))
         rw[Nat.add_assoc (s+1)];rfl
      ·rintro⟨hb1,hb2⟩;rw[List.take_length]at hb1 hb2 |-;simp +contextual (disch:=omega) only[Tryz.f85,dd85,go_sem,simprocAttr,mu85,↓AD,↓AC,↓AB,↓AA];refine⟨_,⟨true,(fg&&wholeL caps top kids),s+1+Re.sizeL kids,rfl,?_,fun _=>⟨by omega,by simp⟩⟩,rt true _ _ _ _⟩;rfl
      ·rw[show (fg&&wholeL caps top (List.take 0 kids))=fg by simp[wholeL]];rfl
    obtain⟨r,⟨ok,g',s',rfl,h1,h2⟩,h3⟩:=key;exact⟨ok,g',s',h3,h1,h2⟩
structure Pat where
 re:Re
 caps:Int
 runes:Bool
abbrev patC (p:Pat):List AV:=reC p.re++[I p.caps,.bool p.runes]
abbrev patAV (p:Pat):AV:=.agg (patC p)
theorem Az (p:Pat):AV.plainL (patC p)=true:=by
 rw[Ep];intro x hx;rcases mem_append.1 hx with h|h
 ·exact(Ep _).1 (Ad p.re) x h
 ·simp at h;rcases h with rfl|rfl<;>rfl
def topI (r:Bool):Int:=if r then 1114111 else 255
theorem JO (r:Bool):topI r<=1114111:=by cases r<;>simp[topI]
def validP (p:Pat):Int:=if 256<p.re.size∨24<p.re.depth then 4 else if p.caps<0∨9<p.caps∨wholeG p.caps (topI p.runes) p.re=false then 1 else 0
theorem f48 (p:Pat) (hw:p.re.wt<=1000000) (H:List MB):call Pg pol1 53 [patAV p] H=some (I (validP p),H):=by
 obtain⟨re,caps,runes⟩:=p;simp only at hw;refine AT Tryz.func53 rfl rfl rfl rfl rfl rfl (fun _=>rfl) (by simp[AV.plainL,AV.plain];exact Az _) rfl ?_ H;have hl8:=AM re;have hpl:=Az ⟨re,caps,runes⟩;have hget8:(reC re++[I caps,.bool runes])[8]?=some (I caps):=by rw[List.getElem?_append_right (by omega),hl8];rfl
 have hget9:(reC re++[I caps,.bool runes])[9]?=some (.bool runes):=by rw[List.getElem?_append_right (by omega),hl8];rfl
 have hz:fz (.rf 0 1 0 0) [.row 10 [.agg (reC re++[I caps,.bool runes])] 0]=some (.pt (reC re++[I caps,.bool runes]),[.row 10 [.agg (reC re++[I caps,.bool runes])] 1]):=
  HV (x:=.agg (reC re++[I caps,.bool runes])) (k:=10) (z:=0) rfl rfl rfl hpl
 have hlen:(reC re).length+(0+1+1)=10:=by omega
 have h102:=f102 runes;have hall:=Ay re;have hz2:∀(b0 b1 b2:MB) (t:Int),fz (.rf 3 1 0 0) [b0,b1,b2,.row 1 [I t] 0]=some (.pt [I t],[b0,b1,b2,.row 1 [I t] 1]):=fun b0 b1 b2 t=>HV (x:=I t) (k:=1) (z:=0) rfl rfl rfl rfl;have htk8:∀ l,List.take 8 (reC re++l)=reC re:=fun l=>by
  rw[List.take_append_of_le_length (by omega)];exact List.take_of_length_le (by omega)
 rw[show (if runes=true then(1114111:Int) else 255)=topI runes from rfl]at h102;have ht:=JO runes;have h103:=fun(b0 b3:MB) (g:Bool)=>f103 b0 b3 (reC re++[I caps,.bool runes]) [I (topI runes)] hpl rfl caps (topI runes) ht hget8 rfl re.wt re (Nat.le_refl _) hw 1 0 g (by omega) (by omega);unfold validP;simp only;have hcp:(0<=caps/\caps<=9)∨(0<=caps/\¬ caps<=9)∨¬ 0<=caps:=by omega
 generalize topI runes=top at *;rcases hcp with ⟨hc1,hc2⟩|⟨hc1,hc2⟩|hc1
 ·obtain⟨ok,g',s',hcall,hok,himp⟩:=h103 (.row 10 [.agg (reC re++[I caps,.bool runes])] 1) (.row 1 [I top] 1) true;rw[show ((1:Nat):Int)=1 from rfl,show ((0:Nat):Int)=0 from rfl]at hcall;cases ok with
  | false=>
    have hcf:=of_decide_eq_false hok.symm;rw[if_pos (by omega)];simp +contextual (disch:=omega) only[Tryz.f53,dd53,go_sem,simprocAttr,mu53,↓AD,↓AC,↓AB,↓AA,hl8,hget8,hget9,hz,hz2,h102,hall,htk8,hcall,all_append,lookD,look];exact fzEq rfl rfl
  | true=>
    have hct:=of_decide_eq_true hok.symm;obtain⟨_,hg'⟩:=himp rfl;rw[if_neg (by omega)];cases hwg:wholeG caps top re with
    | true=>
      rw[if_neg (by simp;omega)];rw[hwg]at hg';simp only[Bool.and_true]at hg';subst hg';simp +contextual (disch:=omega) only[Tryz.f53,dd53,go_sem,simprocAttr,mu53,↓AD,↓AC,↓AB,↓AA,hl8,hget8,hget9,hz,hz2,h102,hall,htk8,hcall,all_append,lookD,look];exact fzEq rfl rfl
    | false=>
      rw[if_pos (by simp)];rw[hwg]at hg';simp only[Bool.and_false]at hg';subst hg';simp +contextual (disch:=omega) only[Tryz.f53,dd53,go_sem,simprocAttr,mu53,↓AD,↓AC,↓AB,↓AA,hl8,hget8,hget9,hz,hz2,h102,hall,htk8,hcall,all_append,lookD,look];exact fzEq rfl rfl
 ·obtain⟨ok,g',s',hcall,hok,himp⟩:=h103 (.row 10 [.agg (reC re++[I caps,.bool runes])] 1) (.row 1 [I top] 1) false;rw[show ((1:Nat):Int)=1 from rfl,show ((0:Nat):Int)=0 from rfl]at hcall;cases ok with
  | false=>
    have hcf:=of_decide_eq_false hok.symm;rw[if_pos (by omega)];simp +contextual (disch:=omega) only[Tryz.f53,dd53,go_sem,simprocAttr,mu53,↓AD,↓AC,↓AB,↓AA,hl8,hget8,hget9,hz,hz2,h102,hall,htk8,hcall,all_append,lookD,look];exact fzEq rfl rfl
  | true=>
    have hct:=of_decide_eq_true hok.symm;obtain⟨_,hg'⟩:=himp rfl;rw[if_neg (by omega)];rw[if_pos (by omega)];simp only[Bool.false_and]at hg';subst hg';simp +contextual (disch:=omega) only[Tryz.f53,dd53,go_sem,simprocAttr,mu53,↓AD,↓AC,↓AB,↓AA,hl8,hget8,hget9,hz,hz2,h102,hall,htk8,hcall,all_append,lookD,look];exact fzEq rfl rfl
 ·obtain⟨ok,g',s',hcall,hok,himp⟩:=h103 (.row 10 [.agg (reC re++[I caps,.bool runes])] 1) (.row 1 [I top] 1) false;rw[show ((1:Nat):Int)=1 from rfl,show ((0:Nat):Int)=0 from rfl]at hcall;cases ok with
  | false=>
    have hcf:=of_decide_eq_false hok.symm;rw[if_pos (by omega)];simp +contextual (disch:=omega) only[Tryz.f53,dd53,go_sem,simprocAttr,mu53,↓AD,↓AC,↓AB,↓AA,hl8,hget8,hget9,hz,hz2,h102,hall,htk8,hcall,all_append,lookD,look];exact fzEq rfl rfl
  | true=>
    have hct:=of_decide_eq_true hok.symm;obtain⟨_,hg'⟩:=himp rfl;rw[if_neg (by omega)];rw[if_pos (by omega)];simp only[Bool.false_and]at hg';subst hg';simp +contextual (disch:=omega) only[Tryz.f53,dd53,go_sem,simprocAttr,mu53,↓AD,↓AC,↓AB,↓AA,hl8,hget8,hget9,hz,hz2,h102,hall,htk8,hcall,all_append,lookD,look];exact fzEq rfl rfl
end
end Go.Ev
