/- What least answers is the least automaton: plain. -/
import Derived.Test.YtdklnlnbemogbaaGreatK22
set_option linter.unusedVariables false
set_option linter.unusedSimpArgs false
open List (getElem?_map getElem_mem map_id map_map mem_cons mem_map pairwise_cons)
open Option (getD_some map_some)
open Go.Proofs Go.RowKit Go.IntWalk
set_option maxHeartbeats 4000000
set_option maxRecDepth 100000
namespace Go.Ev
structure Agree (A B:DA) (top:Int):Prop where
 n:B.n=A.n
 m:B.m=A.m
 nx:∀ s c,s<A.n->c<A.m->B.nx s c=A.nx s c
 ac:∀ s,s<A.n->B.ac s=A.ac s
 cl:∀ x,Sy top x->B.cl x=A.cl x
section
variable {A B:DA}{top:Int}
theorem Agree.run (h:Agree A B top) (ho:A.Ok top):∀(w:List Int) (s:Nat),Tx top w->s<A.n->B.run s w=A.run s w
 | [],_,_,_=>rfl
 | x::w,s,hw,hs=>by
   have hx:=hw x (by simp);have hc:=ho.cllt x hx;show B.run (B.nx s (B.cl x)) w=A.run (A.nx s (A.cl x)) w;rw[h.cl x hx,h.nx s _ hs hc];exact h.run ho w _ (fun y hy=>hw y (by simp[hy])) (ho.lt _ _ hs hc)
theorem Agree.ok (h:Agree A B top) (ho:A.Ok top):B.Ok top where
 pos:=by rw[h.n];exact ho.pos
 lt:=fun s c hs hc=>by
  rw[h.n]at hs |-;rw[h.m]at hc;rw[h.nx s c hs hc];exact ho.lt s c hs hc
 cllt:=fun x hx=>by rw[h.m,h.cl x hx];exact ho.cllt x hx
 surj:=fun c hc=>by
  rw[h.m]at hc;obtain⟨x,hx,e⟩:=ho.surj c hc;exact⟨x,hx,by rw[h.cl x hx];exact e⟩
theorem Agree.sameTo (h:Agree A B top) (ho:A.Ok top) {C:DA} (hs:A.Same C top):B.Same C top:=fun t ht=>by
 rw[h.run ho t 0 ht ho.pos,h.ac _ (ho.run_lt t 0 ht ho.pos)];exact hs t ht
theorem Agree.min (h:Agree A B top) (hm:A.Min top):B.Min top where
 ok:=h.ok hm.ok
 reach:=fun s h0 hs=>by
  rw[h.n]at hs;obtain⟨s',c',a1,a2,a3⟩:=hm.reach s h0 hs;exact⟨s',c',a1,by rw[h.m];exact a2,by rw[h.nx s' c' (by omega) a2];exact a3⟩
 grow:=fun s c hs hc u h0 hu=>by
  rw[h.n]at hs;rw[h.m]at hc;rw[h.nx s c hs hc]at hu;obtain⟨s',c',a1,a2,a3,a4⟩:=hm.grow s c hs hc u h0 hu;exact⟨s',c',by rw[h.n];exact a1,by rw[h.m];exact a2,a3,by rw[h.nx s' c' a1 a2];exact a4⟩
 dist:=fun s t hs ht hst=>by
  rw[h.n]at hs ht;obtain⟨w,hw,hne⟩:=hm.dist s t hs ht hst;refine⟨w,hw,?_⟩;rw[h.run hm.ok w s hw hs,h.run hm.ok w t hw ht,h.ac _ (hm.ok.run_lt w s hw hs),h.ac _ (hm.ok.run_lt w t hw ht)];exact hne
 cdist:=fun c d hc hd hcd=>by
  rw[h.m]at hc hd;obtain⟨s,hs,hne⟩:=hm.cdist c d hc hd hcd;exact⟨s,by rw[h.n];exact hs,by rw[h.nx s c hs hc,h.nx s d hs hd];exact hne⟩
 order:=fun c hc=>by
  rw[h.m]at hc;obtain⟨x,hx,e,hy⟩:=hm.order c hc;exact⟨x,hx,by rw[h.cl x hx];exact e,fun y hy2 hlt=>hy y hy2 (by rwa [h.cl y hy2]at hlt)⟩
end
theorem G8:∀ {S:List (Int×Int)}{n top:Int},S.Pairwise (fun p q=>p.1<=q.1)->S.Pairwise apartZ->(∀ p∈S,p.1<=p.2/\n<=p.1/\p.2<=top)->n<=top+1 ->
  (∀ x,n<=x->x<=top->∃ p∈S,p.1<=x/\x<=p.2)->chainA S n=some (top+1)
 | [],n,top,_,_,_,hn,hc=>by
   rcases Int.lt_or_le n (top+1) with h|h
   ·obtain⟨p,hp,_⟩:=hc n (Int.le_refl _) (by omega);simp at hp
   ·simp only[chainA,Option.some.injEq];omega
 | p::S,n,top,h1,h2,h3,hn,hc=>by
   obtain⟨a1,a2⟩:=pairwise_cons.1 h1;obtain⟨b1,b2⟩:=pairwise_cons.1 h2;have hp:=h3 p (by simp);obtain⟨q,hq,g1,g2⟩:=hc n (Int.le_refl _) (by omega);have hqv:=h3 q hq;have hpn:p.1=n:=by
    rcases mem_cons.1 hq with e|e
    ·subst e;omega
    ·have:=a1 q e;omega
   have hrest:∀ q∈S,p.2+1<=q.1:=fun q hq=>by
    have c1:=a1 q hq;have c3:=h3 q (by simp[hq]);rcases b1 q hq with h|h<;>omega
   rw[chainA,if_pos hpn];refine G8 a2 b2 (fun q hq=>⟨(h3 q (by simp[hq])).1,hrest q hq,(h3 q (by simp[hq])).2.2⟩) (by omega) fun x hx1 hx2=>?_;obtain⟨r,hr,k1,k2⟩:=hc x (by omega) hx2;rcases mem_cons.1 hr with e|e
   ·subst e;omega
   ·exact⟨r,e,k1,k2⟩
theorem Lo:∀(L:Cls) (i:Nat),(placesL i L).map spanOf=L.flatten:=by
 intro L
 induction L with
 | nil=>intro i;rfl
 | cons s L ih=>
   intro i;rw[placesL,List.map_append,ih,List.flatten_cons];congr 1;simp[plcs,Function.comp_def]
theorem Q9 {cl:Cls}{top:Int} (ht:top=255∨top=1114111) (hset:∀ s∈cl,refSpans s=0/\s≠[])
  (hord:∀(i:Nat) (s t:List (Int×Int)),cl[i]?=some s->cl[i+1]?=some t->headLo s<headLo t)
  (hin:∀ s∈cl,∀ x,hasSpan s x=true->Sy top x) (hcov:∀ x,Sy top x->∃ s∈cl,hasSpan s x=true)
  (huniq:∀(i j:Nat) (s t:List (Int×Int)) (x:Int),cl[i]?=some s->cl[j]?=some t->hasSpan s x=true->hasSpan t x=true->i=j):DivOk cl top:=by
 have hperm:((sortP (placesL 0 cl)).map spanOf).Perm cl.flatten:=by
  rw[<- Lo cl 0];exact(Ba _).map spanOf
 have hmem:∀ p,p∈(sortP (placesL 0 cl)).map spanOf↔∃ s∈cl,p∈s:=fun p=>by
  rw[hperm.mem_iff,List.mem_flatten]
 have hv:∀ p∈(sortP (placesL 0 cl)).map spanOf,0<=p.1/\p.1<=p.2/\p.2<=top:=fun p hp=>by
  obtain⟨s,hs,hps⟩:=(hmem p).1 hp;have h1:=At (hset s hs).1 p hps;have h2:=hin s hs p.2 (Ab.2 ⟨p,hps,h1.2.1,Int.le_refl _⟩);exact⟨h1.1,h1.2.1,h2.2⟩
 refine⟨ht,fun p hp=>⟨(hv p hp).1,(hv p hp).2.1⟩,?_,hset,hord⟩;have hsort:((sortP (placesL 0 cl)).map spanOf).Pairwise fun p q=>p.1<=q.1:=by
  rw[List.pairwise_map];exact Fl _
 have hap:((sortP (placesL 0 cl)).map spanOf).Pairwise apartZ:=by
  rw[(hperm.pairwise_iff DO),FM (fun s hs=>(BN (hset s hs).1).imp fun h=>by omega),List.pairwise_iff_getElem];intro i j hi hj hij p hp q hq;have hpv:=At (hset _ (getElem_mem hi)).1 p hp;have hqv:=At (hset _ (getElem_mem hj)).1 q hq;by_cases h1:p.2<q.1
  ·exact .inl h1
  ·by_cases h2:q.2<p.1
   ·exact .inr h2
   ·exfalso;have:=huniq i j _ _ (max p.1 q.1) (zga hi) (zga hj) (Ab.2 ⟨p,hp,by omega,by omega⟩) (Ab.2 ⟨q,hq,by omega,by omega⟩);omega
 refine G8 hsort hap (fun p hp=>⟨(hv p hp).2.1,(hv p hp).1,(hv p hp).2.2⟩) (by omega) fun x h1 h2=>?_;obtain⟨s,hs,hx⟩:=hcov x ⟨h1,h2⟩;obtain⟨p,hp,h3⟩:=Ab.1 hx;exact⟨p,(hmem p).2 ⟨s,hs,hp⟩,h3⟩
def natA (cl:Cls) (N:List (List Nat)) (ac:List Bool):AutoL:=⟨cl,N.map fun r=>r.map fun(n:Nat)=>(n:Int),ac⟩
theorem Es (cl:Cls) (N:List (List Nat)) (ac:List Bool):autoAV (natA cl N ac)=autoN cl N ac:=by
 have e:(rowAV ∘ fun r:List Nat=>r.map fun(n:Nat)=>(n:Int))=nsAV:=by
  funext r
  show AV.sl false ((r.map fun(n:Nat)=>(n:Int)).map I)=.sl false (r.map NV);rw[map_map];rfl
 unfold autoAV natA autoN;simp only[map_map,e]
theorem PW {a:AutoL} (h:∀ r∈a.nx,∀ t∈r,0<=t):natA a.cl (nxN a.nx) a.ac=a:=by
 obtain⟨cl,nx,ac⟩:=a;unfold natA nxN;simp only[AutoL.mk.injEq,true_and,and_true,map_map];have:nx.map ((fun r=>r.map fun(n:Nat)=>(n:Int)) ∘ fun r=>r.map Int.toNat)=nx.map id:=by
  apply List.map_congr_left;intro r hr;simp only[Function.comp,map_map,id];have:r.map ((fun(n:Nat)=>(n:Int)) ∘ Int.toNat)=r.map id:=by
   apply List.map_congr_left;intro t ht;have:=h r hr t ht;simp only[Function.comp,id];omega
  rw[this,map_id]
 rw[this,map_id]
theorem Ck {a:AutoL} (hg:GoodA a):autoAV a=autoN a.cl (nxN a.nx) a.ac:=by
 rw[<- Es,PW fun r hr t ht=>((hg.rows r hr).2 t ht).1]
theorem BT (nx:List (List Int)) (s c:Nat):nxf (nxN nx) s c=stepC nx s c:=by
 unfold nxf nxN stepC;rw[getElem?_map];cases nx[s]? with
 | none=>simp
 | some r=>
   simp only[map_some,getD_some,getElem?_map];cases r[c]?<;>simp
theorem Dn (a:AutoL):autoDA a=daOf (nxN a.nx) a.ac a.cl.length (clIx a.cl):=by
 unfold autoDA daOf;congr 1
 ·simp[nxN]
 ·funext s c
  exact(BT a.nx s c).symm
theorem A7 {a:AutoL} (hg:GoodA a):RowsN (nxN a.nx) a.cl.length (nxN a.nx).length:=by
 have hl:(nxN a.nx).length=a.nx.length:=by simp[nxN]
 refine⟨fun r hr=>?_,fun r hr t ht=>?_⟩
 ·obtain⟨r',hr',rfl⟩:=mem_map.1 hr;rw[List.length_map];exact(hg.rows r' hr').1
 ·obtain⟨r',hr',rfl⟩:=mem_map.1 hr;obtain⟨t',ht',rfl⟩:=mem_map.1 ht;have:=(hg.rows r' hr').2 t' ht';rw[hl];omega
end Go.Ev
namespace Go.Ev
theorem MI {s:List (Int×Int)} (h:refSpans s=0):∀ p∈s,goodS p:=At h
theorem NN {s:List (Int×Int)} (hg:∀ p∈s,goodS p) (h:¬ 64<(normL s).length):refSpans (normL s)=0:=by
 obtain⟨h1,_,_⟩:=F0 hg;exact Gx h1.sep h1.good (by omega)
theorem NW {a:AutoL} (hg:GoodA a) {top:Int} (hd:DivOk a.cl top):LeastIn a.cl (nxN a.nx) a.ac:=by
 have hl:(nxN a.nx).length=a.nx.length:=by simp[nxN]
 refine⟨A7 hg,by rw[hl];exact hg.ac,by rw[hl];exact hg.nx,hg.cl,fun s hs=>?_⟩;have:=hd.set s hs;exact⟨this.2,(Az this.1).2,MI this.1⟩
section
variable {a:AutoL}{top:Int}
def lstA (a:AutoL):AutoL:=natA (clsL a.cl (nxN a.nx) a.ac) (rowsL (nxN a.nx) a.ac a.cl.length) (acL (nxN a.nx) a.ac a.cl.length)
theorem Kj (hg:GoodA a) (hd:DivOk a.cl top):Quo (autoDA a) top (statesA (nxN a.nx) a.cl.length) (chosenA (nxN a.nx) a.ac a.cl.length) (keptA (nxN a.nx) a.ac a.cl.length) (fun s=>(renA (nxN a.nx) a.ac a.cl.length)[s]?.getD 0) (fun c=>(kindsA (nxN a.nx) a.ac a.cl.length)[c]?.getD 0):=by
 rw[Dn];refine Pb ?_ ?_
 ·rw[<- Dn];exact EB hg hd
 ·rw[<- Dn];exact M0 hd
theorem EV (a:AutoL):(keptA (nxN a.nx) a.ac a.cl.length).length=widthL (nxN a.nx) a.ac a.cl.length:=B4 _
theorem Dl (a:AutoL):(clsL a.cl (nxN a.nx) a.ac).length=widthL (nxN a.nx) a.ac a.cl.length:=by simp[clsL]
theorem GC {a:AutoL}{k:Nat}{s:List (Int×Int)} (h:(clsL a.cl (nxN a.nx) a.ac)[k]?=some s):k<widthL (nxN a.nx) a.ac a.cl.length/\s=normL (spansK a.cl (kindsA (nxN a.nx) a.ac a.cl.length) k):=by
 have hk:=(zgb.1 h).1;rw[Dl]at hk;refine⟨hk,?_⟩;simp only[clsL,classL,getElem?_map,List.getElem?_range hk,map_some,Option.some.injEq]at h;exact h.symm
theorem GU (a:AutoL):(kindsA (nxN a.nx) a.ac a.cl.length).length=a.cl.length:=by rw[kindsA,Af,BX]
theorem Dr (hd:DivOk a.cl top) {k:Nat}{x:Int}:hasSpan (spansK a.cl (kindsA (nxN a.nx) a.ac a.cl.length) k) x=true↔Sy top x/\(kindsA (nxN a.nx) a.ac a.cl.length)[clIx a.cl x]?=some k:=by
 rw[Ab];constructor
 ·rintro⟨p,hp,hx⟩;obtain⟨c,s,h1,h2,h3⟩:=CA.1 hp;obtain⟨g1,g2⟩:=(hd.symb h1).1 (Ab.2 ⟨p,h3,hx⟩);exact⟨g1,by rw[g2];exact h2⟩
 ·rintro⟨h1,h2⟩;obtain⟨g1,g2⟩:=hd.clIx_lt h1.1 h1.2;have e:=zga g1;rw[e,getD_some]at g2;obtain⟨p,hp,hx⟩:=Ab.1 g2;exact⟨p,CA.2 ⟨_,_,e,h2,hp⟩,hx⟩
theorem C7 (hd:DivOk a.cl top) (k:Nat):∀ p∈spansK a.cl (kindsA (nxN a.nx) a.ac a.cl.length) k,goodS p:=fun p hp=>by
 obtain⟨c,s,h1,_,h3⟩:=CA.1 hp;exact MI (hd.set s (zgc h1)).1 p h3
theorem HL (hg:GoodA a) (hd:DivOk a.cl top) (hsm:∀ s∈clsL a.cl (nxN a.nx) a.ac,s.length<=64):DivOk (clsL a.cl (nxN a.nx) a.ac) top/\∀ x,Sy top x->clIx (clsL a.cl (nxN a.nx) a.ac) x=(kindsA (nxN a.nx) a.ac a.cl.length)[clIx a.cl x]?.getD 0:=by
 have hq:=Kj hg hd;have hkl:=GU a;have hkd:∀ x,Sy top x->∃ k,(kindsA (nxN a.nx) a.ac a.cl.length)[clIx a.cl x]?=some k/\k<widthL (nxN a.nx) a.ac a.cl.length:=fun x hx=>by
  obtain⟨g1,_⟩:=hd.clIx_lt hx.1 hx.2;obtain⟨k,hk⟩:∃ k,(kindsA (nxN a.nx) a.ac a.cl.length)[clIx a.cl x]?=some k:=⟨_,zga (by omega)⟩;have:=hq.keptall _ (show clIx a.cl x<(autoDA a).m from g1);rw[hk,EV]at this;exact⟨k,hk,this⟩
 have hhas:∀(k:Nat) (s:List (Int×Int)) (x:Int),(clsL a.cl (nxN a.nx) a.ac)[k]?=some s->(hasSpan s x=true↔Sy top x/\(kindsA (nxN a.nx) a.ac a.cl.length)[clIx a.cl x]?=some k):=fun k s x hk=>by
  obtain⟨_,rfl⟩:=GC hk;rw[(F0 (C7 hd k)).2.1 x];exact Dr hd
 have hget:∀ k,k<widthL (nxN a.nx) a.ac a.cl.length->∃ s,(clsL a.cl (nxN a.nx) a.ac)[k]?=some s:=fun k hk=>⟨_,zga (by rw[Dl];exact hk)⟩;have hset:∀ s∈clsL a.cl (nxN a.nx) a.ac,refSpans s=0/\s≠[]:=fun s hs=>by
  obtain⟨k,hk,e⟩:=List.getElem_of_mem hs;have hk':(clsL a.cl (nxN a.nx) a.ac)[k]?=some s:=by rw[zga hk,e]
  obtain⟨hkw,es⟩:=GC hk';refine⟨by rw[es];exact NN (C7 hd k) (by rw[<- es];have:=hsm s hs;omega),fun e0=>?_⟩;obtain⟨c,b1,b2,b3,_⟩:=hq.kget (k:=k) (by rw[EV];exact hkw);obtain⟨x,hx,ex⟩:=hq.ok.surj c b2;have ex:clIx a.cl x=c:=ex;have b2':c<a.cl.length:=b2;have:hasSpan s x=true:=(hhas k s x hk').2 ⟨hx,by
   rw[ex];have b3:(kindsA (nxN a.nx) a.ac a.cl.length)[c]?.getD 0=k:=b3;rw[zga (by omega)]at b3 |-;rw[<- b3];rfl⟩
  rw[e0]at this;cases this
 have hdiv:DivOk (clsL a.cl (nxN a.nx) a.ac) top:=by
  refine Q9 hd.top_ hset (fun i s t hs ht=>?_) (fun s hs x hx=>?_) (fun x hx=>?_) (fun i j s t x hi hj h1 h2=>?_)
  ·obtain⟨hiw,_⟩:=GC hs;have hs1:=hset s (zgc hs);have ht1:=hset t (zgc ht);obtain⟨k1,k2⟩:=(hhas _ _ _ ht).1 (D5 ht1.1 ht1.2);obtain⟨c,b1,b2,b3,b4⟩:=hq.kget (k:=i) (by rw[EV];exact hiw);have b2':c<a.cl.length:=b2;have b3:(kindsA (nxN a.nx) a.ac a.cl.length)[c]?.getD 0=i:=b3;have hc0:=zga b2';have hhc:=hd.head hc0;have h5:hasSpan s (headLo a.cl[c])=true:=(hhas _ _ _ hs).2 ⟨⟨hhc.1,hhc.2.1⟩,by
    rw[hhc.2.2];rw[zga (by omega)]at b3 |-;rw[<- b3];rfl⟩
   have h6:=Eu hs1.1 h5;obtain⟨g1,g2⟩:=hd.clIx_lt k1.1 k1.2;have hge:c<clIx a.cl (headLo t):=by
    rcases Nat.lt_trichotomy (clIx a.cl (headLo t)) c with e|e|e
    ·have h7:(kindsA (nxN a.nx) a.ac a.cl.length)[clIx a.cl (headLo t)]?.getD 0<i:=b4 _ e;rw[k2]at h7;simp at h7;omega
    ·rw[e]at k2;rw[k2]at b3;simp at b3
    ·exact e
   have e1:=zga g1;rw[e1,getD_some]at g2;have h8:=Eu (hd.set _ (getElem_mem g1)).1 g2;have h9:=hd.head_lt (clIx a.cl (headLo t)-(c+1)) c _ _ hc0 (by rw[show c+1+(clIx a.cl (headLo t)-(c+1))=clIx a.cl (headLo t) by omega];exact e1);omega
  ·obtain⟨k,hk,e⟩:=List.getElem_of_mem hs;exact((hhas k s x (by rw[zga hk,e])).1 hx).1
  ·obtain⟨k,hk,hkw⟩:=hkd x hx;obtain⟨s,hs⟩:=hget k hkw;exact⟨s,zgc hs,(hhas k s x hs).2 ⟨hx,hk⟩⟩
  ·have e1:=((hhas _ _ _ hi).1 h1).2;have e2:=((hhas _ _ _ hj).1 h2).2;rw[e1]at e2;exact Option.some.inj e2
 refine⟨hdiv,fun x hx=>?_⟩;obtain⟨k,hk,hkw⟩:=hkd x hx;obtain⟨s,hs⟩:=hget k hkw;rw[hk];exact hdiv.clIx_eq hs ((hhas k s x hs).2 ⟨hx,hk⟩)
theorem GT (hg:GoodA a) (hd:DivOk a.cl top) (hsm:∀ s∈clsL a.cl (nxN a.nx) a.ac,s.length<=64):LeastOf (autoDA a) top (lstA a):=by
 have hq:=Kj hg hd;obtain⟨hdiv,hcl⟩:=HL hg hd hsm;have hnl:(nxN a.nx).length=a.nx.length:=by simp[nxN]
 have hwm:widthL (nxN a.nx) a.ac a.cl.length<=a.cl.length:=by
  have:=Bl (colsA (nxN a.nx) a.cl.length (chosenA (nxN a.nx) a.ac a.cl.length) (renA (nxN a.nx) a.ac a.cl.length));rw[BX]at this;exact this
 have hkl:=EV a;have hcll:=Dl a;have hmin:=hq.min;have hsame:=hq.same;generalize hCH:chosenA (nxN a.nx) a.ac a.cl.length=ch at *;generalize hKE:keptA (nxN a.nx) a.ac a.cl.length=ke at *;have hnx:(lstA a).nx.length=ch.length:=by simp[lstA,natA,rowsL,hCH]
 have hac:(lstA a).ac.length=ch.length:=by simp[lstA,natA,acL,hCH]
 have hcl2:(lstA a).cl.length=ke.length:=by rw[hkl,<- hcll];rfl
 have hchn:ch.length<=a.nx.length:=by
  have h1:ch.Nodup:=by
   rw[List.nodup_iff_pairwise_ne,List.pairwise_iff_getElem];intro i j hi hj hij e;obtain⟨_,_,e1,_⟩:=hq.ch i _ (zga hi);obtain⟨_,_,f1,_⟩:=hq.ch j _ (zga hj);rw[e]at e1;omega
  have h2:=Ay ch (List.range a.nx.length) h1 (fun s hs=>by
   obtain⟨k,hk,e⟩:=List.getElem_of_mem hs;obtain⟨j,g1,_⟩:=hq.ch k s (by rw[zga hk,e]);have hsl:s∈statesA (nxN a.nx) a.cl.length:=zgc g1;have hok:=EB hg hd;rw[Dn]at hok;obtain⟨_,_,h3⟩:=Bv (nx:=nxN a.nx) (cs:=List.range a.cl.length) hok.pos (fun s hs c hc=>hok.lt s c hs (List.mem_range.1 hc));have:=h3 s hsl;rw[hnl]at this;exact List.mem_range.2 this)
  simpa using h2
 have hpos:0<ch.length:=hmin.ok.pos;have hag:Agree (quo (autoDA a) ch ke (fun s=>(renA (nxN a.nx) a.ac a.cl.length)[s]?.getD 0) (fun c=>(kindsA (nxN a.nx) a.ac a.cl.length)[c]?.getD 0)) (autoDA (lstA a)) top:=by
  refine⟨hnx,hcl2,fun s c hs hc=>?_,fun s hs=>?_,fun x hx=>?_⟩
  ·have hs:s<ch.length:=hs;have hc:c<ke.length:=hc;show stepC (lstA a).nx s c=(renA (nxN a.nx) a.ac a.cl.length)[(autoDA a).nx (ch[s]?.getD 0) (ke[c]?.getD 0)]?.getD 0;rw[<- BT];have e1:nxN (lstA a).nx=rowsL (nxN a.nx) a.ac a.cl.length:=by
    simp only[nxN,lstA,natA,map_map];have:((fun r:List Int=>r.map Int.toNat) ∘ fun r:List Nat=>r.map fun(n:Nat)=>(n:Int))=id:=by
     funext r
     simp[Function.comp_def]
    rw[this,map_id]
   rw[e1];have e2:(autoDA a).nx (ch[s]?.getD 0) (ke[c]?.getD 0)=nxf (nxN a.nx) (ch[s]?.getD 0) (ke[c]?.getD 0):=(BT _ _ _).symm;rw[e2];unfold nxf rowsL;rw[hCH,hKE];simp[zga hs,zga hc];rfl
  ·have hs:s<ch.length:=hs;show (lstA a).ac[s]?.getD false=a.ac[ch[s]?.getD 0]?.getD false;simp[lstA,natA,acL,hCH,zga hs]
  ·exact hcl x hx
 refine⟨⟨by rw[hcl2,hkl];have:=hg.cl;omega,by rw[hnx];exact hpos,by rw[hnx];have:=hg.nx;omega,by rw[hac,hnx],fun row hr=>?_⟩,hdiv,hag.min hmin,hag.sameTo hmin.ok hsame⟩;have hokB:=hag.ok hmin.ok;obtain⟨s,hs,e⟩:=List.getElem_of_mem hr;have hsn:s<ch.length:=by rw[<- hnx];exact hs
 have hrl:row.length=ke.length/\∀ t∈row,0<=t:=by
  have h1:row∈(rowsL (nxN a.nx) a.ac a.cl.length).map fun r=>r.map fun(n:Nat)=>(n:Int):=hr;obtain⟨r,h2,rfl⟩:=mem_map.1 h1;unfold rowsL at h2;rw[hCH,hKE]at h2;obtain⟨t,_,rfl⟩:=mem_map.1 h2;refine⟨by simp,fun t ht=>?_⟩;obtain⟨u,_,rfl⟩:=mem_map.1 ht;omega
 refine⟨by rw[hrl.1,hcl2],fun t ht=>⟨hrl.2 t ht,?_⟩⟩;obtain⟨c,hc,e3⟩:=List.getElem_of_mem ht;have h1:=hokB.lt s c (by rw[show (autoDA (lstA a)).n=(lstA a).nx.length from rfl];exact hs) (by rw[show (autoDA (lstA a)).m=(lstA a).cl.length from rfl,hcl2,<- hrl.1];exact hc);have h2:stepC (lstA a).nx s c<(lstA a).nx.length:=h1;simp only[stepC,zga hs,getD_some]at h2;subst e;simp only[zga hc,getD_some,e3]at h2;have:=hrl.2 t ht;omega
end
def loOf (cl:Cls) (c:Nat):Int:=headLo (cl[c]?.getD [])
end Go.Ev
namespace Go.Ev
attribute [local go_sem] evAppend evBin AV.cells strOf An As bndO bnd evEq eqCells not_false_eq_true not_true_eq_false toList_some Array.size_empty List.length_append List.map_append tySzE List.head?_drop Nat.mul_one Ac Aj Aa Ad Ae AW
section
theorem f180 (x:Int) (H:List MB):call Pg pol1 180 [I x] H=some (.bool false,H):=by
 refine AQ Tryz.func180 rfl rfl rfl rfl rfl rfl (fun _=>rfl) (by simp[AV.plain,AV.plainL]) (by simp[AV.plain]) ?_ H;simp +contextual (disch:=omega) only[Tryz.f180,Un,go_sem,simprocAttr,T9];exact fzEq rfl rfl
theorem f133 (x y:Int) (H:List MB):call Pg pol1 133 [I x,I y] H=some (I (cmpZ x y),H):=by
 refine AQ Tryz.func133 rfl rfl rfl rfl rfl rfl (fun _=>rfl) (by simp[AV.plain,AV.plainL]) (by simp[AV.plain]) ?_ H;have h1:=f180 x;have h2:=f180 y;by_cases c1:x<y
 ·have e:cmpZ x y = -1:=by simp[cmpZ,c1]
  rw[e];simp +contextual (disch:=omega) only[Tryz.f133,RG,go_sem,simprocAttr,Qr,h1,h2,c1];exact fzEq rfl rfl
 ·by_cases c2:x > y
  ·have e:cmpZ x y=1:=by unfold cmpZ;rw[if_neg c1,if_pos (by omega)]
   rw[e];simp +contextual (disch:=omega) only[Tryz.f133,RG,go_sem,simprocAttr,Qr,h1,h2,c1,c2];exact fzEq rfl rfl
  ·have e:cmpZ x y=0:=by unfold cmpZ;rw[if_neg c1,if_neg (by omega)]
   rw[e];simp +contextual (disch:=omega) only[Tryz.f133,RG,go_sem,simprocAttr,Qr,h1,h2,c1,c2];exact fzEq rfl rfl
theorem f132 (p:Pl) (x:Int) (H:List MB):call Pg pol1 132 [el3 p,I x] H=some (I (cmpZ p.2.1 x),H):=by
 refine AQ Tryz.func132 rfl rfl rfl rfl rfl rfl (fun _=>rfl) (by simp[AV.plain,AV.plainL,el3]) (by simp[AV.plain]) ?_ H;have h1:=f133 p.2.1 x;simp +contextual (disch:=omega) only[Tryz.f132,Uq,go_sem,simprocAttr,UC,h1,el3];exact fzEq rfl rfl
structure FindAt (S:List Pl) (x:Int) (k:Nat):Prop where
 le:k<=S.length
 lo:∀(j:Nat) (p:Pl),j<k->S[j]?=some p->p.2.1<x
 hi:∀(j:Nat) (p:Pl),k<=j->S[j]?=some p->x<=p.2.1
def foundB (S:List Pl) (x:Int) (k:Nat):Bool:=match S[k]? with
 | some p=>decide (p.2.1=x)
 | none=>false
structure BS where
 i:Nat
 j:Nat
theorem f131 (S:List Pl) (x:Int) (k:Nat) (hk:FindAt S x k) (hl:S.length<=1000000) (H:List MB) :
  call Pg pol1 131 [.sl false (S.map el3),I x,.clo 132 []] H=some (.tup [I k,.bool (foundB S x k)],H):=by
 have hpl:=BO S;refine AQ Tryz.func131 rfl rfl rfl rfl rfl rfl (fun _=>rfl) (by simp[AV.plain,AV.plainL,hpl]) (by simp[AV.plain,AV.plainL]) ?_ H;simp +contextual (disch:=omega) only[Tryz.f131,Mi,go_sem,simprocAttr,Lv];refine BR (σ:=BS) (M:=(Ms 131 3)) rfl (fun s=>(⟨49,[(10,I s.j),(9,I s.i),(8,I S.length),(2,.clo 132 []),(1,I x),(0,.sl false (S.map el3))],[]⟩:St)) (fun s=>s.i<=k/\k<=s.j/\s.j<=S.length) (fun s=>s.j-s.i) ⟨0,S.length⟩ ?_ ⟨Nat.zero_le _,hk.le,Nat.le_refl _⟩ _ rfl;rintro⟨i,j⟩ ⟨a1,a2,a3⟩;simp only at a1 a2 a3;by_cases c:i<j
 ·obtain⟨p,hp⟩:∃ p,S[(i+j) / 2]?=some p:=⟨_,zga (by omega)⟩;have hp':(S.map el3)[(i+j) / 2]?=some (.agg [I p.1,I p.2.1,I p.2.2]):=by simp[hp,el3]
  have h132:∀ H,call Pg pol1 132 [.agg [I p.1,I p.2.1,I p.2.2],I x] H=some (I (cmpZ p.2.1 x),H):=f132 p x;have w1:IntKind.i64.wrap ((i:Int)+(j:Int))=((i+j:Nat):Int):=by rw[i64_in]<;>omega
  have w2:IntKind.u64.wrap ((i+j:Nat):Int)=((i+j:Nat):Int):=by simp[IntKind.wrap,IntKind.bits,IntKind.signed];omega
  have w3:evShift .shr .u64 ((i+j:Nat):Int) 1=some (.int .u64 (((i+j) / 2:Nat):Int)):=by
   have:(((i+j:Nat):Int)).fdiv 2=(((i+j) / 2:Nat):Int):=by rw[Int.fdiv_eq_ediv_of_nonneg _ (by omega)];omega
   unfold evShift;rw[if_neg (by omega)];simp only[show min (Int.toNat 1) (IntKind.bits .u64)=1 from rfl,Int.pow_succ,Int.pow_zero,Int.one_mul,this]
  have w3':(((i+j:Nat):Int)).fdiv 2=(((i+j) / 2:Nat):Int):=by rw[Int.fdiv_eq_ediv_of_nonneg _ (by omega)];omega
  have w4:IntKind.i64.wrap ((((i+j) / 2:Nat):Int))=(((i+j) / 2:Nat):Int):=by rw[i64_in]<;>omega
  have hlt:(i+j) / 2<S.length:=by omega
  by_cases c2:p.2.1<x
  ·have e:cmpZ p.2.1 x = -1:=by simp[cmpZ,c2]
   rw[e]at h132;generalize hm:(i+j) / 2=m at *;simp +contextual (disch:=omega) only[Tryz.f131,Mi,go_sem,simprocAttr,Lv,w1,w2,w3,w4,hp',h132];refine⟨⟨m+1,j⟩,⟨?_,a2,a3⟩,?_,rfl⟩
   ·show m+1<=k;rcases Nat.lt_or_ge m k with g|g
    ·exact g
    ·have:=hk.hi m p g hp;omega
   ·show j-(m+1)<j-i;omega
  ·have e:¬ cmpZ p.2.1 x<0:=by unfold cmpZ;split<;>(try split)<;>omega
   generalize cmpZ p.2.1 x=z at *;generalize hm:(i+j) / 2=m at *;simp +contextual (disch:=omega) only[Tryz.f131,Mi,go_sem,simprocAttr,Lv,w1,w2,w3,w4,hp',h132,e];refine⟨⟨i,m⟩,⟨a1,?_,?_⟩,?_,rfl⟩
   ·show k<=m;rcases Nat.lt_or_ge m k with g|g
    ·have:=hk.lo m p g hp;omega
    ·exact g
   ·show m<=S.length;omega
   ·show m-i<j-i;omega
 ·obtain rfl:i=k:=by omega
  by_cases c2:i<S.length
  ·obtain⟨p,hp⟩:∃ p,S[i]?=some p:=⟨_,zga c2⟩;have hp':(S.map el3)[i]?=some (.agg [I p.1,I p.2.1,I p.2.2]):=by simp[hp,el3]
   have h132:∀ H,call Pg pol1 132 [.agg [I p.1,I p.2.1,I p.2.2],I x] H=some (I (cmpZ p.2.1 x),H):=f132 p x;have e:foundB S x i=(cmpZ p.2.1 x==0):=by
    simp only[foundB,hp,cmpZ];split
    ·simp;omega
    ·split
     ·simp;omega
     ·simp;omega
   rw[e];simp +contextual (disch:=omega) only[Tryz.f131,Mi,go_sem,simprocAttr,Lv,hp',h132];exact fzEq rfl rfl
  ·have e:foundB S x i=false:=by simp[foundB,List.getElem?_eq_none (Nat.le_of_not_lt c2)]
   rw[e];simp +contextual (disch:=omega) only[Tryz.f131,Mi,go_sem,simprocAttr,Lv];exact fzEq rfl rfl
def findK (S:List Pl) (x:Int):Nat:=S.findIdx fun p=>decide (x<=p.2.1)
theorem DivOk.findAt {cl:Cls}{top:Int} (h:DivOk cl top) (x:Int):FindAt (sortP (placesL 0 cl)) x (findK (sortP (placesL 0 cl)) x):=by
 have ho:=DL h.chain (fun p hp=>(h.val p hp).2);refine⟨List.findIdx_le_length,fun j p hj hp=>?_,fun j p hj hp=>?_⟩
 ·have hjl:=(zgb.1 hp).1;have:=List.not_of_lt_findIdx hj;have e:=(zgb.1 hp).2;simp only[e]at this
  simpa using this
 ·have hjl:=(zgb.1 hp).1;have hkl:findK (sortP (placesL 0 cl)) x<(sortP (placesL 0 cl)).length:=by omega
  have h1:decide (x<=((sortP (placesL 0 cl))[findK (sortP (placesL 0 cl)) x]'hkl).2.1)=true:=List.findIdx_getElem (p:=fun p:Pl=>decide (x<=p.2.1)) (w:=hkl);simp only[decide_eq_true_eq]at h1;rcases Nat.eq_or_lt_of_le hj with g|g
  ·obtain⟨_,e⟩:=zgb.1 hp;subst g;rw[<- e];exact h1
  ·have:=(Fx ho (fun p hp=>(h.val p hp).2) g (by simpa using hjl)).2;simp only[List.getElem_map,spanOf]at this;obtain⟨_,e⟩:=zgb.1 hp;rw[e]at this;omega
abbrev findAV (cl:Cls):AV:=.clo 130 [.pt [.sl false ((sortP (placesL 0 cl)).map el3)]]
theorem f130 {cl:Cls}{top:Int} (h:DivOk cl top) (hs:(cl.map List.length).sum<=1000000) {x:Int} (h0:0<=x) (h1:x<=top) (H:List MB) :
  call Pg pol1 130 [I x,.pt [.sl false ((sortP (placesL 0 cl)).map el3)]] H=some (I (clIx cl x),H):=by
 have hlen:(sortP (placesL 0 cl)).length<=1000000:=by rw[Ch,Bx];exact hs
 have hf:=h.findAt x;obtain⟨p,hp,hc⟩:=h.search h0 h1 hf.le hf.lo hf.hi;have h131:=f131 _ x _ hf hlen;generalize findK (sortP (placesL 0 cl)) x=k at *;generalize sortP (placesL 0 cl)=S at *;have hpl:=BO S;have hp':(S.map el3)[k]?=some (.agg [I p.1,I p.2.1,I p.2.2]):=by simp[hp,el3]
 have hkl:=(zgb.1 hp).1;refine CK Tryz.func130 rfl rfl rfl rfl (by rfl) ?_;simp +contextual (disch:=omega) only[Tryz.f130,Ur,go_sem,simprocAttr,UD,h131,hp',hc];have hko:=Bz H.length [] H;rw[List.append_nil]at hko;exact Lm rfl rfl rfl hko (List.take_of_length_le (Nat.le_refl _))
theorem f73 (cl:Cls) (hl:cl.length<=1000000) (hs:(cl.map List.length).sum<=1000000) (H:List MB):call Pg pol1 73 [.sl false (cl.map setAV9)] H=some (findAV cl,H):=by
 have hpl:=AP cl;have h129:=f129 cl hl hs;have hpe:=BO (sortP (placesL 0 cl));unfold findAV;generalize sortP (placesL 0 cl)=S at *;refine AQ Tryz.func73 rfl rfl rfl rfl rfl rfl (fun _=>rfl) (by simp[AV.plain,AV.plainL,hpl]) (by simp[AV.plain,AV.plainL,hpe]) ?_ H;have hz:fzS (.rf 0 1 0 0) [.row 1 [.sl false (S.map el3)] 0]=some (.pt [.sl false (S.map el3)],[.row 1 [.sl false (S.map el3)] 1]):=rfl;simp +contextual (disch:=omega) only[Tryz.f73,dd73,go_sem,simprocAttr,mu73,h129,hz];exact fzEq (by simp[AV.plain,AV.plainL,hpe]) rfl
def lastHi (s:List (Int×Int)):Int:=((s[s.length-1]?).map (·.2)).getD 0
def topL (cl:Cls):Int:=cl.foldl (fun o s=>max o (lastHi s)) 0
theorem O6 {cl:Cls}{i:Nat}{s:List (Int×Int)} (h:cl[i]?=some s):topL (cl.take (i+1))=max (topL (cl.take i)) (lastHi s):=by
 unfold topL;rw[List.take_add_one,h,Option.toList_some,List.foldl_append];rfl
theorem f72 (a:AutoL) (hb:AutoB a) (hne:∀ s∈a.cl,s≠[]) (H:List MB):call Pg pol1 72 [autoAV a] H=some (I (topL a.cl),H):=by
 have hpl:=AX a;have b1:=hb.cl;have hsl:∀ s∈a.cl,s.length<=1000000:=fun s hm=>by
  have:s.length<=(a.cl.map List.length).sum:=CB (mem_map.2 ⟨s,hm,rfl⟩);have:=hb.sum;omega
 obtain⟨cl,nx,ac⟩:=a;simp only at b1 hsl hne |-;refine AQ Tryz.func72 rfl rfl rfl rfl rfl rfl (fun _=>rfl) (by simp only[AV.plainL,hpl];rfl) (by simp[AV.plain]) ?_ H;simp +contextual (disch:=omega) only[Tryz.f72,dd72,go_sem,simprocAttr,mu72];refine AS (M:=(Ms 72 3)) rfl cl.length (fun i=>(⟨24,[(9,I i),(8,I cl.length),(7,.sl false (cl.map setAV9)),(3,I (topL (cl.take i)))],[.row 3 [autoAV ⟨cl,nx,ac⟩] 0]⟩:St)) (fun i=>True) ?_ ?_ trivial _ rfl
 ·intro i hi _;obtain⟨s,hsi⟩:∃ s,cl[i]?=some s:=⟨_,zga hi⟩;have hsi':(cl.map setAV9)[i]?=some (setAV9 s):=by simp[hsi]
  have hs0:=hne s (zgc hsi);have hs1:=hsl s (zgc hsi);have hpos:=List.length_pos_iff.2 hs0;obtain⟨p,hp⟩:∃ p,s[s.length-1]?=some p:=⟨_,zga (by omega)⟩;have hp':(s.map spanAV)[s.length-1]?=some (spanAV p):=by simp[hp]
  have e:lastHi s=p.2:=by simp[lastHi,hp]
  rw[O6 hsi,e];simp +contextual (disch:=omega) only[Tryz.f72,dd72,go_sem,simprocAttr,mu72,hsi',hp',Gg];rfl
 ·intro _;rw[List.take_length];simp +contextual (disch:=omega) only[Tryz.f72,dd72,go_sem,simprocAttr,mu72];exact fzEq rfl rfl
theorem LV:∀(A B:List (Int×Int)),topZ (A++B)=max (topZ A) (topZ B)
 | [],B=>by have:=Fk B;simp only[List.nil_append,topZ];omega
 | p::A,B=>by rw[List.cons_append,topZ,topZ,LV A B];omega
theorem J1:∀(s:List (Int×Int)),s.Pairwise (fun p q=>p.2+1<q.1)->(∀ p∈s,0<=p.1/\p.1<=p.2)->s≠[]->lastHi s=topZ s
 | [],_,_,h=>absurd rfl h
 | [p],_,h,_=>by have:=h p (by simp);simp[lastHi,topZ];omega
 | p::q::s,h1,h2,_=>by
   have ih:=J1 (q::s) (pairwise_cons.1 h1).2 (fun r hr=>h2 r (by simp at hr |-;right;exact hr)) (by simp);have e:lastHi (p::q::s)=lastHi (q::s):=by simp[lastHi]
   have h3:=(pairwise_cons.1 h1).1 q (by simp);have h4:=h2 q (by simp);have h5:=KZ (l:=q::s) (p:=q) (by simp);rw[e,ih];show topZ (q::s)=max p.2 (topZ (q::s));omega
theorem OC:∀(cl:Cls) (o:Int),-1<=o->(∀ s∈cl,lastHi s=topZ s)->cl.foldl (fun o s=>max o (lastHi s)) o=max o (topZ cl.flatten)
 | [],o,ho,_=>by simp only[List.foldl_nil,List.flatten_nil,topZ];omega
 | s::cl,o,ho,h=>by
   have:=Fk s;rw[List.foldl_cons,h s (by simp),OC cl _ (by omega) (fun t ht=>h t (by simp[ht])),List.flatten_cons,LV];omega
theorem DivOk.topL_eq {cl:Cls}{top:Int} (h:DivOk cl top):topL cl=topZ cl.flatten/\topZ cl.flatten=top:=by
 have h1:∀ s∈cl,lastHi s=topZ s:=fun s hs=>by
  have:=h.set s hs;exact J1 s (BN this.1) (fun p hp=>by have:=At this.1 p hp;omega) this.2
 have hne:(sortP (placesL 0 cl)).map spanOf≠[]:=by
  intro e0;have hc:=h.chain;rw[e0]at hc;simp only[chainA,Option.some.injEq]at hc;have:=h.top_;omega
 have ht:=E1 h.chain (fun p hp=>(h.val p hp).2) hne;rw[Jh]at ht;have:=h.top_;have e:topZ cl.flatten=top:=by omega
 refine⟨?_,e⟩;rw[topL,OC cl 0 (by omega) h1];omega
end
section
abbrev zA:AutoL:=⟨[],[],[]⟩
def lstW (a:AutoL):AutoL×Int:=if(clsL a.cl (nxN a.nx) a.ac).any (fun s=>decide (64<s.length)) then(zA,4) else(lstA a,0)
def pairAV (r:AutoL×Int):AV:=.tup [autoAV r.1,I r.2]
theorem Am (r:AutoL×Int):AV.plain (pairAV r)=true:=by
 simp[pairAV,AV.plain,AV.plainL,AP,AT,AN]
theorem f60L {a:AutoL} (hg:GoodA a) {top:Int} (hd:DivOk a.cl top) (H:List MB):call Pg pol1 60 [autoAV a] H=some (pairAV (lstW a),H):=by
 have hok:=EB hg hd;rw[Dn]at hok;rw[Ck hg,f60 a.cl (nxN a.nx) a.ac (clIx a.cl) top hok (NW hg hd) H];unfold leastW lstW pairAV;split
 ·rfl
 ·simp only[lstA,Es]
def ofValid (a:AutoL) (f:AutoL->AutoL×Int):AutoL×Int:=if validW (dividesA a.cl) a≠0 then(zA,validW (dividesA a.cl) a) else f a
theorem f26 (a:AutoL) (hb:AutoB a) (H:List MB):call Pg pol1 26 [autoAV a] H=some (pairAV (ofValid a lstW),H):=by
 have hpl:=AX a;have h18:=f18 a hb;have hpp:=Am (ofValid a lstW);refine AQ Tryz.func26 rfl rfl rfl rfl rfl rfl (fun _=>rfl) (by simp only[AV.plainL,hpl];rfl) hpp ?_ H;unfold ofValid;by_cases hv:validW (dividesA a.cl) a=0
 ·rw[if_neg (by simp[hv])];obtain⟨hg,hd⟩:=A0 hv;have h60:=f60L hg (B7 hd);rw[hv]at h18;have hpw:=Am (lstW a);unfold pairAV at h60 hpw |-;generalize lstW a=r at *;obtain⟨r,e⟩:=r;simp only at h60 hpw |-;obtain⟨cl,nx,ac⟩:=a;simp +contextual (disch:=omega) only[Tryz.f26,dd26,go_sem,simprocAttr,mu26,h18,h60];exact fzEq hpw rfl
 ·rw[if_pos hv];unfold pairAV;obtain⟨cl,nx,ac⟩:=a;simp +contextual (disch:=omega) only[Tryz.f26,dd26,go_sem,simprocAttr,mu26,h18,hv];exact⟨_,rfl⟩
def notA (a:AutoL):AutoL:=⟨a.cl,a.nx,a.ac.map fun b=>!b⟩
theorem Er {a:AutoL} (h:GoodA a):GoodA (notA a):=⟨h.cl,h.pos,h.nx,by simp only[notA,List.length_map];exact h.ac,h.rows⟩
theorem f28 (a:AutoL) (hb:AutoB a) (H:List MB):call Pg pol1 28 [autoAV a] H=some (pairAV (ofValid a fun a=>lstW (notA a)),H):=by
 have hpl:=AX a;have h18:=f18 a hb;have hpp:=Am (ofValid a fun a=>lstW (notA a));have hb3:=hb.ac;refine AQ Tryz.func28 rfl rfl rfl rfl rfl rfl (fun _=>rfl) (by simp only[AV.plainL,hpl];rfl) hpp ?_ H;unfold ofValid;by_cases hv:validW (dividesA a.cl) a=0
 ·rw[if_neg (by simp[hv])];obtain⟨hg,hd⟩:=A0 hv;have h60:=f60L (Er hg) (B7 hd);rw[hv]at h18;have hpw:=Am (lstW (notA a))
  dsimp only
  unfold pairAV at h60 hpw |-;generalize lstW (notA a)=r at *;obtain⟨r,e⟩:=r;simp only at h60 hpw |-;obtain⟨cl,nx,ac⟩:=a;unfold notA at h60;simp only at h60 hb3;have hroom:roomFor (ac.length:Int).toNat 1=true:=AW (by omega) (by omega);have hnl:(ac.map fun b=>!b).length=ac.length:=by simp
  have hng:∀(i:Nat) (b:Bool),ac[i]?=some b->(ac.map fun b=>!b)[i]?=some (!b):=fun i b h=>by simp[h]
  generalize ac.map (fun b=>!b)=nac at *;simp +contextual (disch:=omega) only[Tryz.f28,dd28,go_sem,simprocAttr,mu28,h18,hroom];refine AS (M:=(Ms 28 6)) rfl ac.length (fun i=>(⟨41,[(21,I i),(20,I ac.length),(19,.sl false (ac.map AV.bool)),(5,.ms 2 1 ac.length 0 ac.length),(2,.rf 1 1 0 0),(1,.rf 0 1 0 0)],[.row 3 [autoAV ⟨cl,nx,ac⟩] 0,.row 3 [E3] 0,.row 1 ((nac.take i++List.replicate (ac.length-i) false).map AV.bool) 0]⟩:St)) (fun i=>True) ?_ ?_ trivial _ ?_
  ·intro i hi _;obtain⟨b,hbi⟩:∃ b,ac[i]?=some b:=⟨_,zga hi⟩;have hbi':(ac.map AV.bool)[i]?=some (.bool b):=by simp[hbi]
   have hfs:=Bd (z:=false) hnl (hng i b hbi);have hfl:=Be (A:=nac) (z:=false) hnl (i:=i) (by omega);rw[<- hfs];generalize nac.take i++List.replicate (ac.length-i) false=A at *;obtain⟨y,hy⟩:∃ y,A[i]?=some y:=⟨_,zga (by omega)⟩;have hy':(A.map AV.bool)[i]?=some (.bool y):=by simp[hy]
   have hset:(A.map AV.bool).set i (.bool (!b))=(A.set i (!b)).map AV.bool:=by rw[List.map_set]
   simp +contextual (disch:=omega) only[Tryz.f28,dd28,go_sem,simprocAttr,mu28,hbi',hfl,hy',hset];rfl
  ·intro _;rw[B5 hnl];have hz:∀ b0 b1:MB,fz (.agg [.sl false (cl.map setAV9),.sl false (nx.map rowAV),.ms 2 1 ac.length 0 ac.length]) [b0,b1,.row 1 (nac.map AV.bool) 0]=some (autoAV ⟨cl,nx,nac⟩,[b0,b1,.row 1 (nac.map AV.bool) ac.length]):=fun b0 b1=>by
    have h3:=Av (id:=2) (k:=1) (z:=0) (tot:=ac.length) (H:=[b0,b1,.row 1 (nac.map AV.bool) 0]) rfl (by simp[hnl]) (AN nac);have hm:mark [b0,b1,.row 1 (nac.map AV.bool) 0] 2 ac.length=[b0,b1,.row 1 (nac.map AV.bool) ac.length]:=by simp[mark,getRow]
    rw[hm]at h3;exact CR (AY _ (by simp[AV.plain,AP])) (AY _ (by simp[AV.plain,AT])) h3
   have c60:=fun b0 b1:MB=>A5 (P:=Pg) (pol:=pol1) (f:=60) (args:=[.agg [.sl false (cl.map setAV9),.sl false (nx.map rowAV),.ms 2 1 ac.length 0 ac.length]]) (l:=[autoAV ⟨cl,nx,nac⟩]) (H:=[b0,b1,.row 1 (nac.map AV.bool) 0]) (H1:=[b0,b1,.row 1 (nac.map AV.bool) ac.length]) rfl (by simp only[frzArgs,show pol1.byref 60 0=false from rfl,Bool.false_eq_true,if_false,hz]) (by simp[AV.plainL,AV.plain,AP,AT,AN]);simp only[h60]at c60;simp +contextual (disch:=omega) only[Tryz.f28,dd28,go_sem,simprocAttr,mu28,c60];exact fzEq hpw rfl
  ·rw[List.take_zero,List.nil_append,List.map_replicate];rfl
 ·rw[if_pos hv];unfold pairAV;obtain⟨cl,nx,ac⟩:=a;simp +contextual (disch:=omega) only[Tryz.f28,dd28,go_sem,simprocAttr,mu28,h18,hv];exact⟨_,rfl⟩
end
end Go.Ev
