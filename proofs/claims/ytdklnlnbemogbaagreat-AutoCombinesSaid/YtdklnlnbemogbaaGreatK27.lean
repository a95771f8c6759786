/- The reference's least automaton is the program's: plain. -/
import Derived.Test.YtdklnlnbemogbaaGreatK26
set_option linter.unusedVariables false
set_option linter.unusedSimpArgs false
open List (append_assoc append_nil cons_append map_append map_map map_set map_take mem_filter mem_map mem_range nil_append)
open Option (getD_some)
open Nat (zero_le)
open Go.Proofs Go.RowKit Go.IntWalk
set_option maxHeartbeats 8000000
set_option maxRecDepth 100000
namespace Go.Ev
section
variable {a:AutoL}{top:Int}
def expR (a:AutoL):List Nat:=bfs (fun s=>(List.range a.cl.length).map (stepC a.nx s)) ((List.range a.nx.length).length+1) 0 [0]
def expl (a:AutoL):AutoL:=exA a.cl a.cl.length (stepC a.nx) (fun s=>a.ac[s]?.getD false) (expR a)
theorem Cd (hg:GoodA a) {s c:Nat} (hs:s<a.nx.length) (hc:c<a.cl.length):stepC a.nx s c<a.nx.length:=by
 obtain⟨r,t,_,_,e,h⟩:=(A7 hg).nxf_lt (s:=s) (c:=c) (by simp[nxN];exact hs) hc;rw[BT]at e;rw[e];simpa [nxN] using h
theorem Nl (hg:GoodA a):∀ s∈List.range a.nx.length,∀ c,c<a.cl.length->stepC a.nx s c∈List.range a.nx.length:=fun s hs c hc=>mem_range.2 (Cd hg (mem_range.1 hs) hc)
theorem SK (hg:GoodA a):∀ x∈List.range a.nx.length,∀ y∈(List.range a.cl.length).map (stepC a.nx x),y∈List.range a.nx.length:=fun x hx y hy=>by
 obtain⟨c,hc,rfl⟩:=mem_map.1 hy;exact Nl hg x hx c (mem_range.1 hc)
theorem Co (hg:GoodA a):Expl a.cl.length (stepC a.nx) 0 (expR a):=HO (U:=List.range a.nx.length) (Nl hg) (mem_range.2 hg.pos) rfl
theorem Q6 (hg:GoodA a):∀ s∈expR a,s<a.nx.length:=fun s hs=>mem_range.1 (IZ (SK hg) (mem_range.2 hg.pos) s hs)
theorem MW (hg:GoodA a):(expR a).length<=a.nx.length:=by
 have:=Ay (expR a) (List.range a.nx.length) F8 fun s hs=>mem_range.2 (Q6 hg s hs)
 simpa using this
theorem Gc (hg:GoodA a):GoodA (expl a):=Cy (Co hg) rfl hg.cl (by have:=MW hg;have:=hg.nx;omega)
theorem Kw:(expl a).nx.length=(expR a).length:=by simp[expl,exA,natA]
theorem Jn:∀(w:List Int) (s:Nat),runT (stepC a.nx) (clIx a.cl) s w=(autoDA a).run s w
 | [],_=>rfl
 | x::w,s=>Jn w _
theorem hclD (hd:DivOk a.cl top):∀ x,Sy top x->clIx a.cl x<a.cl.length:=fun x hx=>(hd.clIx_lt hx.1 hx.2).1
theorem Kv (hg:GoodA a) (hd:DivOk a.cl top):(exDA a.cl.length (stepC a.nx) (fun s=>a.ac[s]?.getD false) (clIx a.cl) (expR a)).Ok top:=(Co hg).ok (hclD hd) (Dk hd)
theorem MV (hg:GoodA a) (hd:DivOk a.cl top) {w:List Int} (hw:Tx top w) {i:Nat} (hi:i<(expR a).length) :
  (autoDA (expl a)).run i w=(exDA a.cl.length (stepC a.nx) (fun s=>a.ac[s]?.getD false) (clIx a.cl) (expR a)).run i w:=
 (Ex (step:=stepC a.nx) (acc:=fun s=>a.ac[s]?.getD false) (R:=expR a) (top:=top) (C:=a.cl) rfl).run (Kv hg hd) w i hw hi
theorem Kx (hg:GoodA a) (hd:DivOk a.cl top) {i s:Nat} (hi:(expR a)[i]?=some s) {w:List Int} (hw:Tx top w):(autoDA (expl a)).ac ((autoDA (expl a)).run i w)=(autoDA a).ac ((autoDA a).run s w):=by
 have hil:=getElem?_ne_none hi;have ho:=Kv hg hd;have hlt:=ho.run_lt w i hw hil;have e2:=(Ex (step:=stepC a.nx) (acc:=fun s=>a.ac[s]?.getD false) (R:=expR a) (top:=top) (C:=a.cl) rfl).ac _ hlt;have e3:=(Co hg).run (acc:=fun s=>a.ac[s]?.getD false) (hclD hd) w i s hw hi;rw[MV hg hd hw hil];refine e2.trans ?_;have e4:∀ k s,(expR a)[k]?=some s->(exDA a.cl.length (stepC a.nx) (fun s=>a.ac[s]?.getD false) (clIx a.cl) (expR a)).ac k=a.ac[s]?.getD false:=fun k s h=>by simp only[exDA,h]
 rw[e4 _ _ e3,Jn];rfl
theorem Nk (hg:GoodA a) (hd:DivOk a.cl top) {i:Nat} (hi:i<(expR a).length):∃ u,Tx top u/\(autoDA (expl a)).run 0 u=i:=by
 obtain⟨u,hu,e⟩:=FS (Kv hg hd) ((Co hg).reach (acc:=fun s=>a.ac[s]?.getD false) (cl:=clIx a.cl)) _ i (Nat.lt_succ_self i) hi;exact⟨u,hu,by rw[MV hg hd hu (by omega)];exact e⟩
theorem KF (hg:GoodA a) (hd:DivOk a.cl top):(autoDA (expl a)).Same (autoDA a) top:=fun w hw=>Kx hg hd (Co hg).l0 hw
def repD (D:List (List Bool)) (n t:Nat):Nat:=(List.range n).findIdx fun k=>!get2 D k t
def Tab (b:AutoL) (top:Int) (D:List (List Bool)):Prop:=∀ i k,i<b.nx.length->k<b.nx.length->(get2 D i k=true↔¬ (autoDA b).Eqv top i k)
variable {b:AutoL}{D:List (List Bool)}
theorem Di (A:DA) (s:Nat):A.Eqv top s s:=fun _ _=>rfl
theorem DA.Eqv.sym {A:DA}{s t:Nat} (h:A.Eqv top s t):A.Eqv top t s:=fun w hw=>(h w hw).symm
theorem DA.Eqv.tr {A:DA}{s t u:Nat} (h:A.Eqv top s t) (g:A.Eqv top t u):A.Eqv top s u:=fun w hw=>(h w hw).trans (g w hw)
theorem EN (ht:Tab b top D) {t:Nat} (h:t<b.nx.length):repD D b.nx.length t<b.nx.length/\(autoDA b).Eqv top (repD D b.nx.length t) t/\∀ k,k<repD D b.nx.length t->get2 D k t=true:=by
 have hex:∃ x∈List.range b.nx.length,(!get2 D x t)=true:=⟨t,mem_range.2 h,by
  cases hv:get2 D t t with
  | false=>rfl
  | true=>exact absurd (Di _ _) ((ht t t h h).1 hv)⟩
 have h1:repD D b.nx.length t<(List.range b.nx.length).length:=List.findIdx_lt_length.2 hex;have h2:(fun k=>!get2 D k t) ((List.range b.nx.length)[repD D b.nx.length t]'h1)=true:=List.findIdx_getElem (w:=h1);have e0:(List.range b.nx.length)[repD D b.nx.length t]'h1=repD D b.nx.length t:=List.getElem_range _;rw[e0]at h2;have h3:repD D b.nx.length t<b.nx.length:=by simpa using h1
 refine⟨h3,?_,fun k hk=>?_⟩
 ·have h4:get2 D (repD D b.nx.length t) t=false:=by simpa using h2
  apply Classical.byContradiction;intro g;rw[(ht _ _ h3 h).2 g]at h4;cases h4
 ·have:=List.not_of_lt_findIdx (p:=fun k=>!get2 D k t) (xs:=List.range b.nx.length) hk
  simpa using this
theorem QW (ht:Tab b top D) {s t:Nat} (hs:s<b.nx.length) (h:t<b.nx.length):repD D b.nx.length s=repD D b.nx.length t↔(autoDA b).Eqv top s t:=by
 obtain⟨a1,a2,a3⟩:=EN ht hs;obtain⟨b1,b2,b3⟩:=EN ht h;constructor
 ·intro e;rw[e]at a2;exact a2.sym.tr b2
 ·intro g;rcases Nat.lt_trichotomy (repD D b.nx.length s) (repD D b.nx.length t) with e|e|e
  ·exact absurd (a2.tr g) ((ht _ _ a1 h).1 (b3 _ e))
  ·exact e
  ·exact absurd (b2.tr g.sym) ((ht _ _ b1 hs).1 (a3 _ e))
theorem Ro (ht:Tab b top D) {t:Nat} (h:t<b.nx.length):repD D b.nx.length (repD D b.nx.length t)=repD D b.nx.length t:=by
 obtain⟨b1,b2,_⟩:=EN ht h;exact(QW ht b1 h).2 b2
def clpA (b:AutoL) (D:List (List Bool)):AutoL:=natA b.cl ((nxN b.nx).map fun r=>r.map (repD D b.nx.length)) b.ac
theorem Mq:(clpA b D).nx.length=b.nx.length:=by simp[clpA,natA,nxN]
theorem Mo (hg:GoodA b) {s c:Nat} (hs:s<b.nx.length) (hc:c<b.cl.length):stepC (clpA b D).nx s c=repD D b.nx.length (stepC b.nx s c):=by
 obtain⟨r,t,h1,h2,e,h⟩:=(A7 hg).nxf_lt (s:=s) (c:=c) (by simp[nxN];exact hs) hc;rw[BT]at e;rw[e];simp[clpA,natA,stepC,List.getElem?_map,h1,h2]
theorem Iv (hg:GoodA b) (ht:Tab b top D):GoodA (clpA b D):=by
 refine⟨hg.cl,by rw[Mq];exact hg.pos,by rw[Mq];exact hg.nx,by rw[Mq];exact hg.ac,fun row hr=>?_⟩;rw[Mq];simp only[clpA,natA,map_map,mem_map]at hr;obtain⟨r,hr,rfl⟩:=hr;have hl:=(A7 hg).len r hr;refine⟨by simp[hl,clpA,natA],fun t htm=>?_⟩;simp only[Function.comp,map_map,mem_map]at htm;obtain⟨u,hu,rfl⟩:=htm;have hlt:u<b.nx.length:=by simpa [nxN] using (A7 hg).lt r hr u hu
 have:=(EN ht hlt).1;omega
theorem HQ (hg:GoodA b) (hd:DivOk b.cl top) (ht:Tab b top D):∀(w:List Int) (i j:Nat),Tx top w->i<b.nx.length->j<b.nx.length->(autoDA b).Eqv top i j->(autoDA (clpA b D)).ac ((autoDA (clpA b D)).run i w)=(autoDA b).ac ((autoDA b).run j w)
 | [],i,j,_,_,_,h=>h [] DQ
 | x::w,i,j,hw,hi,hj,h=>by
   have hx:Sy top x:=hw x (by simp);have hc:=(hd.clIx_lt hx.1 hx.2).1;have si:=Cd hg hi hc;have sj:=Cd hg hj hc;obtain⟨r1,r2,_⟩:=EN ht si;have e:stepC (clpA b D).nx i (clIx b.cl x)=repD D b.nx.length (stepC b.nx i (clIx b.cl x)):=Mo hg hi hc;show (autoDA (clpA b D)).ac ((autoDA (clpA b D)).run (stepC (clpA b D).nx i (clIx b.cl x)) w)=(autoDA b).ac ((autoDA b).run (stepC b.nx j (clIx b.cl x)) w);rw[e];exact HQ hg hd ht w _ _ (fun y hy=>hw y (by simp[hy])) r1 sj (r2.tr (h.step hx))
theorem RN (hg:GoodA b) (hd:DivOk b.cl top) (ht:Tab b top D):(autoDA (clpA b D)).Same (autoDA b) top:=fun w hw=>HQ hg hd ht w 0 0 hw hg.pos hg.pos (Di _ _)
theorem Mp (hg:GoodA b) (ht:Tab b top D):∀ s∈expR (clpA b D),s<b.nx.length/\repD D b.nx.length s=s:=by
 have hgc:=Iv hg ht;have h0:repD D b.nx.length 0=0:=by
  obtain⟨b1,b2,b3⟩:=EN ht hg.pos;rcases Nat.eq_zero_or_pos (repD D b.nx.length 0) with h|h
  ·exact h
  ·have:=(ht 0 0 hg.pos hg.pos).1 (b3 0 h);exact absurd (Di _ _) this
 have:=IZ (f:=fun s=>(List.range (clpA b D).cl.length).map (stepC (clpA b D).nx s)) (U:=(List.range b.nx.length).filter fun s=>decide (repD D b.nx.length s=s)) (x:=0) (k:=(List.range (clpA b D).nx.length).length+1) (fun x hx y hy=>by
  rw[mem_filter,mem_range]at hx;obtain⟨c,hc,rfl⟩:=mem_map.1 hy;have hc:=mem_range.1 hc;have hc:c<b.cl.length:=hc;have hs:=Cd hg hx.1 hc;rw[Mo hg hx.1 hc,mem_filter,mem_range];exact⟨(EN ht hs).1,by simp[Ro ht hs]⟩) (by rw[mem_filter,mem_range];exact⟨hg.pos,by simp[h0]⟩)
 intro s hs;have h1:=this s hs;rw[mem_filter,mem_range]at h1;exact⟨h1.1,by simpa using h1.2⟩
structure Half (b:AutoL) (A:DA) (top:Int):Prop where
 good:GoodA b
 div:DivOk b.cl top
 same:(autoDA b).Same A top
 reach:∀ i,i<b.nx.length->∃ u,Tx top u/\(autoDA b).run 0 u=i
 dist:∀ i j,i<b.nx.length->j<b.nx.length->(autoDA b).Eqv top i j->i=j
theorem SE (hg:GoodA b) (hd:DivOk b.cl top) (ht:Tab b top D) {A:DA} (hs:(autoDA b).Same A top):Half (expl (clpA b D)) A top:=by
 have hgc:=Iv hg ht;have hdc:DivOk (clpA b D).cl top:=hd;refine⟨Gc hgc,hdc,((KF hgc hdc).trans (RN hg hd ht)).trans hs,fun i hi=>Nk hgc hdc (by rw[<- Kw];exact hi),fun i j hi hj h=>?_⟩;rw[Kw]at hi hj;obtain⟨s,es⟩:∃ s,(expR (clpA b D))[i]?=some s:=⟨_,zga hi⟩;obtain⟨t,et⟩:∃ t,(expR (clpA b D))[j]?=some t:=⟨_,zga hj⟩;obtain⟨s1,s2⟩:=Mp hg ht s (zgc es);obtain⟨t1,t2⟩:=Mp hg ht t (zgc et);have hst:(autoDA b).Eqv top s t:=fun w hw=>by
  have h1:=h w hw;rw[Kx hgc hdc es hw,Kx hgc hdc et hw,HQ hg hd ht w s s hw s1 s1 (Di _ _),HQ hg hd ht w t t hw t1 t1 (Di _ _)]at h1;exact h1
 have e:=(QW ht s1 t1).2 hst;rw[s2,t2]at e;subst e;exact(List.getElem?_inj hi (Co hgc).inv.nodup).1 (es.trans et.symm)
end
end Go.Ev
namespace Go.Ev
theorem Qm {α β:Type} [DecidableEq α] [DecidableEq β] {l:List α}{l':List β} (hl:l.length=l'.length)
  (h:∀(i j:Nat) (x y:α) (x' y':β),l[i]?=some x->l[j]?=some y->l'[i]?=some x'->l'[j]?=some y'->(x=y↔x' = y')):numA l=numA l':=by
 have key:∀(k i:Nat),i<k->∀ u u',(numA l)[i]?=some u->(numA l')[i]?=some u'->u=u':=by
  intro k
  induction k with
  | zero=>intro i hi;omega
  | succ k ih=>
    intro i hi u u' hu hu';have hil:i<l.length:=by rw[<- Af l];exact getElem?_ne_none hu
    obtain⟨x,hx⟩:∃ x,l[i]?=some x:=⟨_,zga hil⟩;obtain⟨x',hx'⟩:∃ x,l'[i]?=some x:=⟨_,zga (by omega)⟩;have eu:=Al l hx;rw[hu]at eu;have eu':=Al l' hx';rw[hu']at eu';have eu:=Option.some.inj eu;have eu':=Option.some.inj eu';rcases Nat.lt_trichotomy u u' with g|g|g
    ·obtain⟨j,hj,e⟩:=Ep hu' u g;obtain⟨y,hy⟩:∃ y,l[j]?=some y:=⟨_,zga (by omega)⟩;obtain⟨y',hy'⟩:∃ y,l'[j]?=some y:=⟨_,zga (by omega)⟩;have a1:=ih j (by omega) _ _ (Al l hy) e;have a2:x=y:=(DB hx hy).1 (by rw[<- eu,a1]);have a3:=(h i j x y x' y' hx hy hx' hy').1 a2;have a4:=Al l' hy';rw[e,<- a3,<- eu']at a4;have:=Option.some.inj a4;omega
    ·exact g
    ·obtain⟨j,hj,e⟩:=Ep hu u' g;obtain⟨y,hy⟩:∃ y,l[j]?=some y:=⟨_,zga (by omega)⟩;obtain⟨y',hy'⟩:∃ y,l'[j]?=some y:=⟨_,zga (by omega)⟩;have a1:=ih j (by omega) _ _ e (Al l' hy');have a2:x' = y':=(DB hx' hy').1 (by rw[<- eu',a1]);have a3:=(h i j x y x' y' hx hy hx' hy').2 a2;have a4:=Al l hy;rw[e,<- a3,<- eu]at a4;have:=Option.some.inj a4;omega
 apply List.ext_getElem (by rw[Af,Af,hl]);intro i h1 h2;exact key _ i (Nat.lt_succ_self i) _ _ (zga h1) (zga h2)
theorem Qn {α:Type} [DecidableEq α] {l:List α}{i j u v:Nat}{x y:α} (hi:l[i]?=some x) (hj:l[j]?=some y) (hu:(numA l)[i]?=some u) (hv:(numA l)[j]?=some v):x=y↔u=v:=by
 have h1:=Al l hi;have h2:=Al l hj;rw[hu]at h1;rw[hv]at h2;rw[<- DB hi hj,<- Option.some.inj h1,<- Option.some.inj h2]
section
variable {a b:AutoL}{top:Int}
def colR (b:AutoL) (c:Nat):List (Option Nat):=(nxN b.nx).map fun r=>r[c]?
def colsR (b:AutoL):List (List (Option Nat)):=(List.range b.cl.length).map (colR b)
theorem K8 (hg:GoodA b) {c d:Nat} (hc:c<b.cl.length) (hd:d<b.cl.length):colR b c=colR b d↔∀ s,s<b.nx.length->stepC b.nx s c=stepC b.nx s d:=by
 unfold colR;rw[List.map_inj_left];constructor
 ·intro h s hs;obtain⟨r,t,h1,h2,e,_⟩:=(A7 hg).nxf_lt (s:=s) (c:=c) (by simp[nxN];exact hs) hc;obtain⟨r',t',h1',h2',e',_⟩:=(A7 hg).nxf_lt (s:=s) (c:=d) (by simp[nxN];exact hs) hd;rw[h1]at h1';obtain rfl:=Option.some.inj h1';have:=h r (zgc h1);rw[h2,h2']at this;rw[BT]at e e';rw[e,e'];exact Option.some.inj this
 ·intro h r hr;obtain⟨s,hs,er⟩:=List.getElem_of_mem hr;have hs':s<b.nx.length:=by simpa [nxN] using hs
  obtain⟨r1,t,h1,h2,e,_⟩:=(A7 hg).nxf_lt (s:=s) (c:=c) hs hc;obtain⟨r2,t',h1',h2',e',_⟩:=(A7 hg).nxf_lt (s:=s) (c:=d) hs hd;rw[zga hs,er]at h1 h1';obtain rfl:=Option.some.inj h1;obtain rfl:=Option.some.inj h1';rw[BT]at e e';rw[h2,h2',<- e,<- e',h s hs']
theorem Mc {B:DA}{x y:Int} (hx:Sy top x) (hy:Sy top y):(∀ u,Tx top u->B.Eqv top (B.nx (B.run 0 u) (B.cl x)) (B.nx (B.run 0 u) (B.cl y)))↔∀ u w,Tx top u->Tx top w->Lg B (u++x::w)=Lg B (u++y::w):=by
 constructor
 ·intro h u w hu hw;unfold Lg;rw[DA.run_app,DA.run_app];exact h u hu w hw
 ·intro h u hu w hw;have:=h u w hu hw;unfold Lg at this;rw[DA.run_app,DA.run_app]at this;exact this
theorem OB {x:Int}{w:List Int} (hx:Sy top x) (hw:Tx top w):Tx top (x::w):=fun y hy=>by
 rcases List.mem_cons.1 hy with rfl|h
 ·exact hx
 ·exact hw y h
theorem Q0 {A:DA} (h:Half b A top) {x y:Int} (hx:Sy top x) (hy:Sy top y):colR b (clIx b.cl x)=colR b (clIx b.cl y)↔∀ u w,Tx top u->Tx top w->Lg A (u++x::w)=Lg A (u++y::w):=by
 have cx:=(h.div.clIx_lt hx.1 hx.2).1;have cy:=(h.div.clIx_lt hy.1 hy.2).1;have hok:=EB h.good h.div;have e:(∀ u w,Tx top u->Tx top w->Lg A (u++x::w)=Lg A (u++y::w))↔∀ u w,Tx top u->Tx top w->Lg (autoDA b) (u++x::w)=Lg (autoDA b) (u++y::w):=by
  have s1:=fun u w (hu:Tx top u) (hw:Tx top w)=>h.same (u++x::w) (Cr hu (OB hx hw));have s2:=fun u w (hu:Tx top u) (hw:Tx top w)=>h.same (u++y::w) (Cr hu (OB hy hw));constructor
  ·intro g u w hu hw;have:=g u w hu hw;unfold Lg at *;rw[s1 u w hu hw,s2 u w hu hw];exact this
  ·intro g u w hu hw;have:=g u w hu hw;unfold Lg at *;rw[<- s1 u w hu hw,<- s2 u w hu hw];exact this
 rw[e,<- Mc hx hy,K8 h.good cx cy];constructor
 ·intro g u hu;have hlt:=hok.run_lt u 0 hu hok.pos;have:(autoDA b).nx ((autoDA b).run 0 u) (clIx b.cl x)=(autoDA b).nx ((autoDA b).run 0 u) (clIx b.cl y):=g _ hlt;show (autoDA b).Eqv top ((autoDA b).nx ((autoDA b).run 0 u) (clIx b.cl x)) ((autoDA b).nx ((autoDA b).run 0 u) (clIx b.cl y));rw[this];exact Di _ _
 ·intro g s hs;obtain⟨u,hu,e⟩:=h.reach s hs;have:=g u hu;rw[e]at this;exact h.dist _ _ (Cd h.good hs cx) (Cd h.good hs cy) this
theorem PP {A:DA}{L chosen kept:List Nat}{q kinds:Nat->Nat} (h:Quo A top L chosen kept q kinds) {s:Nat} (hs:s∈L):∃ u,Tx top u/\A.run 0 u=s:=by
 have he:Expl A.m A.nx 0 L:=⟨h.inv,h.l0⟩;have ho:=he.ok (acc:=A.ac) h.ok.cllt h.ok.surj;obtain⟨i,hi,e⟩:=List.getElem_of_mem hs;obtain⟨u,hu,eu⟩:=FS ho (he.reach (acc:=A.ac) (cl:=A.cl)) _ i (Nat.lt_succ_self i) hi;have:=he.run (acc:=A.ac) h.ok.cllt u 0 0 hu h.l0;rw[eu,zga hi,e]at this;refine⟨u,hu,?_⟩;have hr:∀(w:List Int) (s:Nat),runT A.nx A.cl s w=A.run s w:=by
  intro w
  induction w with
  | nil=>intro s;rfl
  | cons x w ih=>intro s;exact ih _
 rw[hr]at this;exact(Option.some.inj this).symm
theorem PQ {A:DA}{L chosen kept:List Nat}{q kinds:Nat->Nat} (h:Quo A top L chosen kept q kinds) {x y:Int} (hx:Sy top x) (hy:Sy top y):kinds (A.cl x)=kinds (A.cl y)↔∀ u w,Tx top u->Tx top w->Lg A (u++x::w)=Lg A (u++y::w):=by
 have cx:=h.ok.cllt x hx;have cy:=h.ok.cllt y hy;rw[h.keq _ _ cx cy,<- Mc hx hy];constructor
 ·intro g u hu;have hm:=(h.run u 0 hu h.zero.1).2;obtain⟨s,e⟩:∃ s,chosen[q (A.run 0 u)]?=some s:=⟨_,zga (h.chall _ hm)⟩;obtain⟨j,h1,h2,_⟩:=h.ch _ _ e;have hsL:=zgc h1;have he:=(h.qeq _ _ hsL hm).1 h2;have hg:=g s (zgc e);have h3:=(h.qeq _ _ (h.step hsL cx) (h.step hsL cy)).1 hg;exact((he.cls h.ok cx).sym.tr h3).tr (he.cls h.ok cy)
 ·intro g s hs;obtain⟨k,hk⟩:=List.getElem?_of_mem hs;obtain⟨j,h1,_,_⟩:=h.ch _ _ hk;have hsL:=zgc h1;obtain⟨u,hu,e⟩:=PP h hsL;have:=g u hu;rw[e]at this;exact(h.qeq _ _ (h.step hsL cx) (h.step hsL cy)).2 this
theorem IK (hg:GoodA a) (hd:DivOk a.cl top) (h:Half b (autoDA a) top) (hc:b.cl=a.cl):numA (colsR b)=kindsA (nxN a.nx) a.ac a.cl.length:=by
 have hq:=Kj hg hd;have hkl:=GU a;unfold kindsA;refine Qm (by simp[colsR,colsA,hc]) fun i j x y x' y' hi hj hi' hj'=>?_;have hil:i<a.cl.length:=by have:=getElem?_ne_none hi;simpa [colsR,hc] using this
 have hjl:j<a.cl.length:=by have:=getElem?_ne_none hj;simpa [colsR,hc] using this
 obtain⟨p,hp,ep⟩:=Dk hd i hil;obtain⟨q,hqy,eq⟩:=Dk hd j hjl;have c1:=Q0 h hp hqy;have c2:=PQ hq hp hqy;have e1:x=colR b i:=by simpa [colsR,hc,hil] using hi.symm
 have e2:y=colR b j:=by simpa [colsR,hc,hjl] using hj.symm
 rw[hc,ep,eq]at c1;have k1:=Al _ hi';have k2:=Al _ hj';have c2:(kindsA (nxN a.nx) a.ac a.cl.length)[clIx a.cl p]?.getD 0=(kindsA (nxN a.nx) a.ac a.cl.length)[clIx a.cl q]?.getD 0↔_:=c2;rw[ep,eq]at c2;unfold kindsA at c2;rw[k1,k2,getD_some,getD_some,DB hi' hj']at c2;rw[e1,e2,c1,c2]
end
end Go.Ev
namespace Go.Ev
section
variable {a b:AutoL}{top:Int}{C:Cls}
def step3 (b:AutoL) (C:Cls) (s k:Nat):Nat:=stepC b.nx s (clIx b.cl (loOf C k))
def lastR (b:AutoL) (C:Cls):List Nat:=bfs (fun s=>(List.range C.length).map (step3 b C s)) ((List.range b.nx.length).length+1) 0 [0]
def lastA (b:AutoL) (C:Cls):AutoL:=exA C C.length (step3 b C) (fun s=>b.ac[s]?.getD false) (lastR b C)
theorem Jz (hC:DivOk C top) {k:Nat} (hk:k<C.length):Sy top (loOf C k)/\clIx C (loOf C k)=k:=by
 have e:=zga hk;obtain⟨q0,q1,q2⟩:=hC.head e;rw[loOf,e,getD_some];exact⟨⟨q0,q1⟩,q2⟩
theorem QK (hg:GoodA b) (hd:DivOk b.cl top) (hC:DivOk C top) {s k:Nat} (hs:s<b.nx.length) (hk:k<C.length):step3 b C s k<b.nx.length:=
 Cd hg hs (hd.clIx_lt (Jz hC hk).1.1 (Jz hC hk).1.2).1
theorem NY (hg:GoodA b) (hd:DivOk b.cl top) (hC:DivOk C top):∀ s∈List.range b.nx.length,∀ k,k<C.length->step3 b C s k∈List.range b.nx.length:=fun s hs k hk=>mem_range.2 (QK hg hd hC (mem_range.1 hs) hk)
theorem R8 (hg:GoodA b) (hd:DivOk b.cl top) (hC:DivOk C top):∀ x∈List.range b.nx.length,∀ y∈(List.range C.length).map (step3 b C x),y∈List.range b.nx.length:=fun x hx y hy=>by
 obtain⟨k,hk,rfl⟩:=mem_map.1 hy;exact NY hg hd hC x hx k (mem_range.1 hk)
theorem J0 (hg:GoodA b) (hd:DivOk b.cl top) (hC:DivOk C top):Expl C.length (step3 b C) 0 (lastR b C):=HO (U:=List.range b.nx.length) (NY hg hd hC) (mem_range.2 hg.pos) rfl
theorem L7 (hg:GoodA b) (hd:DivOk b.cl top) (hC:DivOk C top):∀ s∈lastR b C,s<b.nx.length:=fun s hs=>mem_range.1 (IZ (R8 hg hd hC) (mem_range.2 hg.pos) s hs)
theorem IJ (hg:GoodA b) (hd:DivOk b.cl top) (hC:DivOk C top):(lastR b C).length<=b.nx.length:=by
 have:=Ay (lastR b C) (List.range b.nx.length) F8 fun s hs=>mem_range.2 (L7 hg hd hC s hs)
 simpa using this
theorem NX (hg:GoodA a) (hd:DivOk a.cl top) (h:Half b (autoDA a) top) (hc:b.cl=a.cl) (hsm:∀ s∈clsL a.cl (nxN a.nx) a.ac,s.length<=64):lastA b (clsL a.cl (nxN a.nx) a.ac)=lstA a:=by
 have hls:=GT hg hd hsm;obtain⟨hC,hCk⟩:=HL hg hd hsm;have hks:=IK hg hd h hc;have hw:(clsL a.cl (nxN a.nx) a.ac).length<=1024:=hls.good.cl;generalize clsL a.cl (nxN a.nx) a.ac=C at *;rw[<- hks]at hCk;have hcolg:∀ x y,Sy top x->Sy top y->(clIx C x=clIx C y↔colR b (clIx b.cl x)=colR b (clIx b.cl y)):=fun x y hx hy=>by
  have cx:=(h.div.clIx_lt hx.1 hx.2).1;have cy:=(h.div.clIx_lt hy.1 hy.2).1;have g1:(colsR b)[clIx b.cl x]?=some (colR b (clIx b.cl x)):=by simp[colsR,cx]
  have g2:(colsR b)[clIx b.cl y]?=some (colR b (clIx b.cl y)):=by simp[colsR,cy]
  rw[hCk x hx,hCk y hy,<- hc,Al _ g1,Al _ g2,getD_some,getD_some,DB g1 g2]
 have hstep:∀ s x,s<b.nx.length->Sy top x->step3 b C s (clIx C x)=stepC b.nx s (clIx b.cl x):=fun s x hs hx=>by
  have hk:=(hC.clIx_lt hx.1 hx.2).1;obtain⟨l1,l2⟩:=Jz hC hk;have:=(hcolg _ x l1 hx).1 l2;exact(K8 h.good (h.div.clIx_lt l1.1 l1.2).1 (h.div.clIx_lt hx.1 hx.2).1).1 this s hs
 have hok:=EB h.good h.div;have hrun:∀(w:List Int) (s:Nat),Tx top w->s<b.nx.length->runT (step3 b C) (clIx C) s w=(autoDA b).run s w:=by
  intro w
  induction w with
  | nil=>intro s _ _;rfl
  | cons x w ih=>
    intro s hw hs;have hx:Sy top x:=hw x (by simp);show runT (step3 b C) (clIx C) (step3 b C s (clIx C x)) w=(autoDA b).run (stepC b.nx s (clIx b.cl x)) w;rw[hstep s x hs hx];exact ih _ (fun y hy=>hw y (by simp[hy])) (Cd h.good hs (h.div.clIx_lt hx.1 hx.2).1)
 have he:=J0 h.good h.div hC;have hm:=L7 h.good h.div hC;have hcl:∀ x,Sy top x->clIx C x<C.length:=fun x hx=>(hC.clIx_lt hx.1 hx.2).1;have hsj:∀ c,c<C.length->∃ x,Sy top x/\clIx C x=c:=Dk hC;have hlen:=IJ h.good h.div hC;have hlg:=h.good.nx;have hmin:=he.min (top:=top) (acc:=fun s=>b.ac[s]?.getD false) hcl hsj (fun x y hx hy hxy=>by
  apply Classical.byContradiction;intro hn;refine hxy (h.dist x y (hm x hx) (hm y hy) fun w hw=>?_);apply Classical.byContradiction;intro g;refine hn ⟨w,hw,?_⟩;rw[hrun w x hw (hm x hx),hrun w y hw (hm y hy)];exact g) (fun c d hcC hdC hcd=>by
  apply Classical.byContradiction;intro hn;obtain⟨l1,l2⟩:=Jz hC hcC;obtain⟨m1,m2⟩:=Jz hC hdC;have:colR b (clIx b.cl (loOf C c))=colR b (clIx b.cl (loOf C d)):=(K8 h.good (h.div.clIx_lt l1.1 l1.2).1 (h.div.clIx_lt m1.1 m1.2).1).2 fun s hs=>by
   obtain⟨u,hu,e⟩:=h.reach s hs;have h1:=he.run (acc:=fun s=>b.ac[s]?.getD false) hcl u 0 0 hu he.l0;rw[hrun u 0 hu h.good.pos,e]at h1;apply Classical.byContradiction;intro g;exact hn ⟨s,zgc h1,g⟩
  have:=(hcolg _ _ l1 m1).2 this;rw[l2,m2]at this;exact hcd this) (M0 (a:=⟨C,[],[]⟩) hC)
 have hag:=Ex (step:=step3 b C) (acc:=fun s=>b.ac[s]?.getD false) (R:=lastR b C) (top:=top) (C:=C) (m:=C.length) rfl;refine II (A:=autoDA a) (top:=top) ⟨Cy he rfl hw (by omega),hC,hag.min hmin,fun w hw=>?_⟩ hls;have h1:=Pk (acc:=fun s=>b.ac[s]?.getD false) he rfl hC hw;show (autoDA (exA C C.length (step3 b C) (fun s=>b.ac[s]?.getD false) (lastR b C))).ac _=_;rw[show lastA b C=exA C C.length (step3 b C) (fun s=>b.ac[s]?.getD false) (lastR b C) from rfl,h1,hrun w 0 hw h.good.pos];exact h.same w hw
end
end Go.Ev
namespace Go.Ev
attribute [local go_sem] evBin AV.cells strOf An As bndO bnd evEq eqCells not_false_eq_true not_true_eq_false toList_some Array.size_empty List.length_append tySzE List.head?_drop Nat.mul_one Ac Aj Aa Ad Ae AW
section
theorem EY {H:List MB}{i k z:Nat}{els:List AV} (h:getRow H i=some (k,els,z)):H[i]?=some (.row k els z):=by
 unfold getRow at h;split at h
 ·rename_i h1;cases h;exact h1
 ·cases h
theorem gL {H:List MB}{i:Nat}{x:MB} (h:H[i]?=some x) (l:List MB):(H++l)[i]?=some x:=by
 rw[List.getElem?_append_left (getElem?_ne_none h)];exact h
theorem P7 (H:List MB) (v:Bool) (t:Bool):evAppend Pg H 40 40 (.sl true []) (.sl t [.bool v])=some (.ms H.length 1 1 0 1,H++[.row 1 [.bool v] 0]):=by
 have h1:tyElem Pg 40=some 4:=by kernel_rfl
 have h2:tyNotInt Pg 40=true:=by kernel_rfl
 have h3:tySz Pg 4=some 1:=by kernel_rfl
 have h4:tyBytes Pg 4=some 1:=by kernel_rfl
 have h5:tyZero Pg 4=some (.bool false):=by kernel_rfl
 have hs:srcElems Pg H 4 (.sl t [.bool v])=some [.bool v]:=rfl;have hroom:roomFor 1 1=true:=AW (by omega) (by omega);unfold evAppend;simp only[h1,h2,h3,h4,h5,hs];simp[AV.cells,AV.ok,hroom]
def rowsB (D:List (List Bool)):List MB:=D.map fun d=>.row 1 (d.map AV.bool) 0
theorem PK (D:List (List Bool)):(rowsB D).length=D.length:=by simp[rowsB]
def dif0 (ac:List Bool) (n i:Nat):List Bool:=(List.range n).map fun k=>ac[i]?.getD false != ac[k]?.getD false
def dif (ac:List Bool) (n:Nat):List (List Bool):=(List.range n).map (dif0 ac n)
theorem Mf (ac:List Bool) (n i:Nat):(dif0 ac n i).length=n:=by simp[dif0]
theorem TJ (ac:List Bool) (n:Nat):Sq n (dif ac n):=⟨by simp[dif],fun d hd=>by
 obtain⟨i,_,rfl⟩:=mem_map.1 hd;exact Mf ac n i⟩
theorem QU (H:List MB) {n:Nat} (D:List (List Bool)) (hD:Sq n D) (x0:MB):retPol pol1 126 H (.ms (H.length+1) 1 n 0 n) (H++(x0::.row 1 (cm (H.length+2) n n) 0::rowsB D))=some (.sl false (D.map bsAV),H):=by
 have e1:H++(x0::.row 1 (cm (H.length+2) n n) 0::rowsB D)=(H++[x0])++.row 1 (cm (H.length+2) n n) 0::rowsB D:=by simp
 have hl:(H++[x0]).length=H.length+1:=by simp
 have hr:getRow (H++(x0::.row 1 (cm (H.length+2) n n) 0::rowsB D)) (H.length+1)=some (1,cm (H.length+2) n n,0):=by
  unfold getRow;rw[gA];rfl
 have hm:=D4 (pre:=H++[x0]) (post:=rowsB D) (k:=1) (z:=0) (n:=n) (els:=cm (H.length+2) n n);rw[<- e1,hl,Nat.max_eq_right (zero_le _)]at hm;have hpl:(H++[x0,MB.row 1 (cm (H.length+2) n n) n]).length=H.length+2:=by simp
 have hz:=Q2 (j:=4) (m:=n) (n:=n) (es:=D.map fun d=>d.map AV.bool) (pre:=H++[x0,.row 1 (cm (H.length+2) n n) n]) (post:=[]) (z:=0) (by simp[hD.len]) (fun e he=>by
  obtain⟨d,hd,rfl⟩:=mem_map.1 he;simp[hD.row d hd]) (fun e he=>by
  obtain⟨d,hd,rfl⟩:=mem_map.1 he;exact AN d) (by rw[hpl];exact hr) (by rw[hm];simp[rowsB,Function.comp_def])
 have hzz:fz (.ms (H.length+1) 1 n 0 n) (H++(x0::.row 1 (cm (H.length+2) n n) 0::rowsB D))=some (.sl false (D.map bsAV),H++([x0,.row 1 (cm (H.length+2) n n) n]++((D.map fun d=>d.map AV.bool).map (fun e=>MB.row 1 e e.length)++[]))):=by
  unfold fz;rw[hz,append_assoc,map_map];rfl
 have hk:=Bz H.length ([x0,.row 1 (cm (H.length+2) n n) n]++((D.map fun d=>d.map AV.bool).map (fun e=>MB.row 1 e e.length)++[])) H;have hu:AV.under H.length (.sl false (D.map bsAV))=true:=by
  simp only[AV.under];exact AG _ _ (Bw D)
 unfold retPol;simp only[show pol1.keep 126=false from rfl,show pol1.own 126=false from rfl,Bool.false_eq_true,if_false,hzz,hu,hk,and_self,if_true,List.take_left]
theorem f126 (cl:Cls) (N:List (List Nat)) (ac:List Bool) (H:List MB) (i1 i2 b n m:Nat) (hn:N.length=n) (hn1:n<=1024) (hac:ac.length=n) (hm:cl.length=m) (hm1:m<=1024) (hrow:RowsN N m n)
  (hH1:getRow H i1=some (1,cm b m n,0)) (hH2:getRow H i2=some (1,ac.map AV.bool,0)) (hH3:∀ i r,N[i]?=some r->getRow H (b+i)=some (1,r.map NV,0))
  (P:List (List Bool)->Prop) (hP0:P (dif ac n)) (hPs:∀ E i k c,P E->Sq n E->i<n->k<n->c<m->get2 E (nxf N i c) (nxf N k c)=true->P (set2 E i k)) :
  ∃ r,(∃ D,P D/\Sq n D/\Clsd n m (nxf N) D/\r=(.sl false (D.map bsAV),H))/\call Pg pol1 126 [.agg [.sl false (cl.map setAV9),.ms i1 1 n 0 n,.ms i2 1 n 0 n]] H=some r:=by
 have hfr:frzArgs pol1 126 0 [.agg [.sl false (cl.map setAV9),.ms i1 1 n 0 n,.ms i2 1 n 0 n]] H=some ([.agg [.sl false (cl.map setAV9),.ms i1 1 n 0 n,.ms i2 1 n 0 n]],H):=BQ H _ _ rfl;refine I4 (pol:=pol1) Tryz.func126 rfl rfl rfl rfl hfr ?_;have g1:=@gA H;have g2:=@gA0 H;have g3:=@sA H;have g4:=@sA0 H;have k1:=gL (EY hH1);have k2:=gL (EY hH2);have k3:=fun i r h=>gL (EY (hH3 i r h));have hcl:(cm b m n).length=n:=Ef _ _ _;have hacm:(ac.map AV.bool).length=n:=by simp[hac]
 have hroom:roomFor (n:Int).toNat 24=true:=AW (by omega) (by omega);simp +contextual (disch:=omega) only[Tryz.f126,Cg,go_sem,simprocAttr,Cf,append_assoc,cons_append,nil_append,g1,g2,g3,g4,k1,k2,hcl,hacm,hroom];have hdl:(dif ac n).length=n:=by simp[dif]
 have hdg:∀ i,i<n->(dif ac n)[i]?=some (dif0 ac n i):=fun i hi=>by simp[dif,hi]
 have hd0:dif ac n=(List.range n).map (dif0 ac n):=rfl;refine AS (M:=(Ms 126 4)) (by rfl) n (fun i=>(⟨102,[(5,I i),(4,.ms (H.length+1) 1 n 0 n),(3,I n),(1,.rf H.length 1 0 0)],H++(.row 3 [.agg [.sl false (cl.map setAV9),.ms i1 1 n 0 n,.ms i2 1 n 0 n]] 0::.row 1 (cm (H.length+2) n i++List.replicate (n-i) (.sl true [])) 0::rowsB ((dif ac n).take i))⟩:St)) (fun i=>True) ?_ ?_ trivial _ ?_
 ·intro i hi _;have hdi:=hdg i hi;have hdl0:=Mf ac n i;have hdk:∀ k,k<n->(dif0 ac n i)[k]?=some (ac[i]?.getD false != ac[k]?.getD false):=fun k hk=>by simp[dif0,hk]
  obtain⟨va,hva⟩:∃ v,ac[i]?=some v:=⟨_,zga (by omega)⟩;have hva':(ac.map AV.bool)[i]?=some (.bool va):=by simp[hva]
  rw[hva,getD_some]at hdk;have hRB:rowsB ((dif ac n).take (i+1))=rowsB ((dif ac n).take i)++[.row 1 ((dif0 ac n i).map AV.bool) 0]:=by
   rw[AZ hdi];simp[rowsB]
  have hRBl:(rowsB ((dif ac n).take i)).length=i:=by rw[PK,List.length_take];omega
  have hCS:cm (H.length+2) n (i+1)=cm (H.length+2) n i++[.ms (H.length+(i+1+1)) 1 n 0 n]:=by
   rw[Ov,show H.length+2+i=H.length+(i+1+1) by omega]
  have hCl:(cm (H.length+2) n i).length=i:=Ef _ _ _;have hrep:List.replicate (n-i) (AV.sl true [])=AV.sl true []::List.replicate (n-(i+1)) (AV.sl true []):=by
   rw[show n-i=(n-(i+1))+1 by omega,List.replicate_succ]
  rw[hRB,hCS,hrep];generalize rowsB ((dif ac n).take i)=RB at *;generalize cm (H.length+2) n i=CM at *;generalize dif0 ac n i=d at *;obtain⟨REP,hREP⟩:∃ L,List.replicate (n-(i+1)) (AV.sl true [])=L:=⟨_,rfl⟩;have hREPl:REP.length=n-(i+1):=by rw[<- hREP];simp
  rw[hREP];have hgC:∀ y,(CM++y::REP)[i]?=some y:=fun y=>by rw[List.getElem?_append_right (by omega),hCl];simp
  have hsC:∀ x y,(CM++x::REP).set i y=CM++y::REP:=fun x y=>by rw[List.set_append_right _ _ (by omega),hCl];simp
  have hlC:∀ y,(CM++y::REP).length=n:=fun y=>by simp;omega
  obtain⟨cK,cK0,cKs⟩:∃ f:Nat->AV,f 0=.sl true []/\∀ k,f (k+1)=.ms (H.length+(i+1+1)) 1 (k+1) 0 (k+1):=⟨fun k=>match k with
   | 0=>.sl true []
   | k+1=>.ms (H.length+(i+1+1)) 1 (k+1) 0 (k+1),rfl,fun _=>rfl⟩
  obtain⟨rK,rK0,rKs⟩:∃ f:Nat->List MB,f 0=[]/\∀ k,f (k+1)=[.row 1 ((d.take (k+1)).map AV.bool) 0]:=⟨fun k=>match k with
   | 0=>[]
   | k+1=>[.row 1 ((d.take (k+1)).map AV.bool) 0],rfl,fun _=>rfl⟩
  have hi2:(i:Int)<(n:Int):=by omega
  simp +contextual (disch:=omega) only[Tryz.f126,Cg,go_sem,simprocAttr,Cf,append_assoc,cons_append,nil_append,g1,g2,g3,g4,hi2];rw[<- cK0];refine AS (M:=(Ms 126 7)) (by rfl) n (fun k=>(⟨102,[(6,I k),(5,I i),(4,.ms (H.length+1) 1 n 0 n),(3,I n),(1,.rf H.length 1 0 0)],H++(.row 3 [.agg [.sl false (cl.map setAV9),.ms i1 1 n 0 n,.ms i2 1 n 0 n]] 0::.row 1 (CM++cK k::REP) 0::(RB++rK k))⟩:St)) (fun i=>True) ?_ ?_ trivial _ ?_
  ·intro k hk _;obtain⟨vb,hvb⟩:∃ v,ac[k]?=some v:=⟨_,zga (by omega)⟩;have hvb':(ac.map AV.bool)[k]?=some (.bool vb):=by simp[hvb]
   have hdk:=hdk k hk;rw[hvb,getD_some]at hdk;have hds:=AZ hdk;have hdtl:(d.take k).length=k:=by rw[List.length_take];omega
   have hk2:(k:Int)<(n:Int):=by omega
   rw[cKs,rKs,hds];obtain⟨w,hw⟩:∃ w,(va != vb)=w:=⟨_,rfl⟩;rw[hw]at hdk hds |-;have hw2:(!(va==vb))=w:=hw;have hw3:((!va)==vb)=w:=by rw[<- hw];cases va<;>cases vb<;>rfl
   cases k with
   | zero=>
     rw[cK0,rK0];have a0:∀(x0 x1:MB) (t:Bool),evAppend Pg (H++(x0::x1::RB)) 40 40 (.sl true []) (.sl t [.bool w])=some (.ms (H.length+(i+1+1)) 1 1 0 1,H++(x0::x1::(RB++[.row 1 [.bool w] 0]))):=fun x0 x1 t=>by
      rw[P7];simp[hRBl]
     simp +contextual (disch:=omega) only[Tryz.f126,Cg,go_sem,simprocAttr,Cf,append_assoc,cons_append,nil_append,append_nil,g1,g2,g3,g4,hk2,k1,k2,hva',hvb',hgC,hsC,hlC,hw,hw2,hw3,hac,a0];repeat' (first|intro _|apply And.intro|(unfold dOk;kernel_rfl)|exact St.beq_refl _|exact Ah|(show altO _ _ _ _=true;kernel_rfl)|(show (_||_)=true;kernel_rfl)|(show (_&&_)=true;kernel_rfl))
     rfl
   | succ k=>
     rw[cKs,rKs];have hgR:∀ y,(RB++[y])[i]?=some y:=fun y=>by rw[List.getElem?_append_right (by omega),hRBl];simp
     have hsR:∀ x y,(RB++[x]).set i y=RB++[y]:=fun x y=>by rw[List.set_append_right _ _ (by omega),hRBl];simp
     have a1:∀(x0 x1:MB) (t:Bool),evAppend Pg (H++(x0::x1::(RB++[.row 1 ((d.take (k+1)).map AV.bool) 0]))) 40 40 (.ms (H.length+(i+1+1)) 1 (k+1) 0 (k+1)) (.sl t [.bool w])=some (.ms (H.length+(i+1+1)) 1 (k+1+1) 0 (k+1+1),H++(x0::x1::(RB++[.row 1 ((d.take (k+1)++[w]).map AV.bool) 0]))):=fun x0 x1 t=>by
      rw[FL (rs:=d.take (k+1)) (z:=0) (by unfold getRow;rw[gA];simp only[List.getElem?_cons_succ,hgR]) (zero_le _) hdtl (by omega),sA];simp only[List.set_cons_succ,hsR]
     simp +contextual (disch:=omega) only[Tryz.f126,Cg,go_sem,simprocAttr,Cf,append_assoc,cons_append,nil_append,g1,g2,g3,g4,hk2,k1,k2,hva',hvb',hgC,hsC,hlC,hw,hw2,hw3,hac,a1];repeat' (first|intro _|apply And.intro|(unfold dOk;kernel_rfl)|exact St.beq_refl _|exact Ah|(show altO _ _ _ _=true;kernel_rfl)|(show (_||_)=true;kernel_rfl)|(show (_&&_)=true;kernel_rfl))
     rfl
  ·intro _;cases n with
   | zero=>omega
   | succ n=>
     rw[cKs,rKs,show d.take (n+1)=d from List.take_of_length_le (by omega)];have hk2:¬ ((n+1:Nat):Int)<((n+1:Nat):Int):=by omega
     simp +contextual (disch:=omega) only[Tryz.f126,Cg,go_sem,simprocAttr,Cf,append_assoc,cons_append,nil_append,g1,g2,g3,g4,hk2];rfl
  ·rw[rK0,append_nil];rfl
 ·intro _;rw[Nat.sub_self,List.replicate_zero,append_nil,List.take_of_length_le (by omega)];have hn2:¬ (n:Int)<(n:Int):=by omega
  simp +contextual (disch:=omega) only[Tryz.f126,Cg,go_sem,simprocAttr,Cf,append_assoc,cons_append,nil_append,g1,g2,g3,g4,hn2];have hCM:∀ i,i<n->(cm (H.length+2) n n)[i]?=some (.ms (H.length+(i+1+1)) 1 n 0 n):=fun i hi=>by
   rw[K9 hi,show H.length+2+i=H.length+(i+1+1) by omega]
  have hCMl:(cm (H.length+2) n n).length=n:=Ef _ _ _;have hNM:∀ i,i<n->(cm b m n)[i]?=some (.ms (b+i) 1 m 0 m):=fun i hi=>K9 hi;have hsq0:=TJ ac n;have hret:∀ D,Sq n D->∀ x0:MB,retPol pol1 126 H (.ms (H.length+1) 1 n 0 n) (H++(x0::.row 1 (cm (H.length+2) n n) 0::rowsB D))=some (.sl false (D.map bsAV),H):=fun D hD x0=>QU H D hD x0;generalize hCMd:cm (H.length+2) n n=CM at *;generalize dif ac n=D0 at *;clear hdg hd0 hdl;refine BR (σ:=List (List Bool)×Bool) (M:=(Ms 126 11)) (by rfl) (fun x=>(⟨102,[(7,.bool x.2),(4,.ms (H.length+1) 1 n 0 n),(3,I n),(1,.rf H.length 1 0 0)],H++(.row 3 [.agg [.sl false (cl.map setAV9),.ms i1 1 n 0 n,.ms i2 1 n 0 n]] 0::.row 1 CM 0::rowsB x.1)⟩:St)) (fun x=>P x.1/\Sq n x.1/\(x.2=false->Clsd n m (nxf N) x.1)) (fun x=>2*fls x.1+if x.2=true then 1 else 0) (D0,true) ?_ ⟨hP0,hsq0,fun h=>(by cases h)⟩ _ (by rfl);rintro⟨D,ch⟩ ⟨hPD,hsD,hcl2⟩;simp only at hPD hsD hcl2;cases ch with
  | false=>
    simp +contextual (disch:=omega) only[Tryz.f126,Cg,go_sem,simprocAttr,Cf,append_assoc,cons_append,nil_append,g1,g2,g3,g4];exact⟨_,⟨D,hPD,hsD,hcl2 rfl,rfl⟩,hret D hsD _⟩
  | true=>
    simp +contextual (disch:=omega) only[Tryz.f126,Cg,go_sem,simprocAttr,Cf,append_assoc,cons_append,nil_append,g1,g2,g3,g4];refine BR (σ:=Nat×List (List Bool)×Bool) (M:=(Ms 126 14)) (by rfl) (fun x=>(⟨102,[(8,I x.1),(7,.bool x.2.2),(4,.ms (H.length+1) 1 n 0 n),(3,I n),(1,.rf H.length 1 0 0)],H++(.row 3 [.agg [.sl false (cl.map setAV9),.ms i1 1 n 0 n,.ms i2 1 n 0 n]] 0::.row 1 CM 0::rowsB x.2.1)⟩:St)) (fun x=>x.1<=n/\AI n m (nxf N) P D x.1 0 0 x.2.1 x.2.2) (fun x=>n-x.1) (0,D,false) ?_ ⟨zero_le _,AI.start hPD hsD⟩ _ (by rfl);rintro⟨i,E,ch⟩ ⟨hi,hA⟩;simp only at hi hA;by_cases hin:i<n
    ·have hi2:(i:Int)<(n:Int):=by omega
     simp +contextual (disch:=omega) only[Tryz.f126,Cg,go_sem,simprocAttr,Cf,append_assoc,cons_append,nil_append,g1,g2,g3,g4,hi2];refine BR (σ:=Nat×List (List Bool)×Bool) (M:=(Ms 126 17)) (by rfl) (fun x=>(⟨102,[(9,I x.1),(8,I i),(7,.bool x.2.2),(4,.ms (H.length+1) 1 n 0 n),(3,I n),(1,.rf H.length 1 0 0)],H++(.row 3 [.agg [.sl false (cl.map setAV9),.ms i1 1 n 0 n,.ms i2 1 n 0 n]] 0::.row 1 CM 0::rowsB x.2.1)⟩:St)) (fun x=>x.1<=n/\AI n m (nxf N) P D i x.1 0 x.2.1 x.2.2) (fun x=>n-x.1) (0,E,ch) ?_ ⟨zero_le _,hA⟩ _ (by rfl);clear hA;rintro⟨k,E,ch⟩ ⟨hk,hA⟩;simp only at hk hA;by_cases hkn:k<n
     ·have hk2:(k:Int)<(n:Int):=by omega
      simp +contextual (disch:=omega) only[Tryz.f126,Cg,go_sem,simprocAttr,Cf,append_assoc,cons_append,nil_append,g1,g2,g3,g4,hk2];refine BR (σ:=Nat×List (List Bool)×Bool) (M:=(Ms 126 20)) (by rfl) (fun x=>(⟨102,[(10,I x.1),(9,I k),(8,I i),(7,.bool x.2.2),(4,.ms (H.length+1) 1 n 0 n),(3,I n),(1,.rf H.length 1 0 0)],H++(.row 3 [.agg [.sl false (cl.map setAV9),.ms i1 1 n 0 n,.ms i2 1 n 0 n]] 0::.row 1 CM 0::rowsB x.2.1)⟩:St)) (fun x=>x.1<=m/\AI n m (nxf N) P D i k x.1 x.2.1 x.2.2) (fun x=>m-x.1) (0,E,ch) ?_ ⟨zero_le _,hA⟩ _ (by rfl);clear hA;rintro⟨c,E,ch⟩ ⟨hc,hA⟩;simp only at hc hA;by_cases hcm:c<m
      ·have hc2:(c:Int)<(m:Int):=by omega
       have hsE:=hA.sq;obtain⟨d,hd,hdl⟩:=hsE.at hin;obtain⟨v,hv⟩:∃ v,d[k]?=some v:=⟨_,zga (by omega)⟩;have hgv:get2 E i k=v:=by unfold get2;rw[hd,getD_some,hv];rfl
       have hCi:=hCM i hin;have hRi:(rowsB E)[i]?=some (.row 1 (d.map AV.bool) 0):=by simp[rowsB,hd]
       have hv':(d.map AV.bool)[k]?=some (.bool v):=by simp[hv]
       cases v with
       | true=>
         simp +contextual (disch:=omega) only[Tryz.f126,Cg,go_sem,simprocAttr,Cf,append_assoc,cons_append,nil_append,g1,g2,g3,g4,hm,hc2,hCi,hRi,hdl,hv',hCMl];exact⟨(k+1,E,ch),⟨by simp only;omega,hA.nextK (.inr hgv)⟩,by simp only;omega,by rfl⟩
       | false=>
         obtain⟨r1,t1,a1,a2,a3,a4⟩:=hrow.nxf_lt (s:=i) (c:=c) (by omega) hcm;obtain⟨r2,t2,b1,b2,b3,b4⟩:=hrow.nxf_lt (s:=k) (c:=c) (by omega) hcm;have a2':(r1.map NV)[c]?=some (NV t1):=by simp[a2]
         have b2':(r2.map NV)[c]?=some (NV t2):=by simp[b2]
         have hr1l:r1.length=m:=hrow.len r1 (zgc a1);have hr2l:r2.length=m:=hrow.len r2 (zgc b1);have m1:=hNM i hin;have m2:=hNM k hkn;have n1:=k3 i r1 a1;have n2:=k3 k r2 b1;have hCt:=hCM t1 a4;obtain⟨d1,hd1,hd1l⟩:=hsE.at a4;obtain⟨w,hw⟩:∃ w,d1[t2]?=some w:=⟨_,zga (by omega)⟩;have hRt:(rowsB E)[t1]?=some (.row 1 (d1.map AV.bool) 0):=by simp[rowsB,hd1]
         have hw':(d1.map AV.bool)[t2]?=some (.bool w):=by simp[hw]
         have hgw:get2 E (nxf N i c) (nxf N k c)=w:=by
          unfold get2;rw[a3,b3,hd1,getD_some,hw];rfl
         cases w with
         | false=>
           simp +contextual (disch:=omega) only[Tryz.f126,Cg,go_sem,simprocAttr,Cf,append_assoc,cons_append,nil_append,g1,g2,g3,g4,hm,hc2,hCi,hRi,hdl,hv',hCMl,k1,m1,m2,n1,n2,a2',b2',hr1l,hr2l,hCt,hRt,hd1l,hw',hcl];repeat' (first|intro _|apply And.intro|(unfold dOk;kernel_rfl)|exact St.beq_refl _|exact Ah|(show altO _ _ _ _=true;kernel_rfl)|(show (_||_)=true;kernel_rfl)|(show (_&&_)=true;kernel_rfl))
           exact⟨(c+1,E,ch),⟨by simp only;omega,hA.skip hgw⟩,by simp only;omega,by rfl⟩
         | true=>
           have hset:(d.map AV.bool).set k (.bool true)=(d.set k true).map AV.bool:=by rw[map_set]
           have hRs:(rowsB E).set i (.row 1 ((d.set k true).map AV.bool) 0)=rowsB (set2 E i k):=by
            unfold set2 rowsB;rw[hd,getD_some];exact map_set.symm
           simp +contextual (disch:=omega) only[Tryz.f126,Cg,go_sem,simprocAttr,Cf,append_assoc,cons_append,nil_append,g1,g2,g3,g4,hm,hc2,hCi,hRi,hdl,hv',hCMl,k1,m1,m2,n1,n2,a2',b2',hr1l,hr2l,hCt,hRt,hd1l,hw',hcl,hset,hRs];repeat' (first|intro _|apply And.intro|(unfold dOk;kernel_rfl)|exact St.beq_refl _|exact Ah|(show altO _ _ _ _=true;kernel_rfl)|(show (_||_)=true;kernel_rfl)|(show (_&&_)=true;kernel_rfl))
           exact⟨(c+1,set2 E i k,true),⟨by simp only;omega,hA.put hPs hin hkn hcm hgv hgw⟩,by simp only;omega,by rfl⟩
      ·have hc2:¬ (c:Int)<(m:Int):=by omega
       obtain rfl:c=m:=by omega
       simp +contextual (disch:=omega) only[Tryz.f126,Cg,go_sem,simprocAttr,Cf,append_assoc,cons_append,nil_append,g1,g2,g3,g4,hm,hc2];exact⟨(k+1,E,ch),⟨by simp only;omega,hA.nextK (.inl rfl)⟩,by simp only;omega,by rfl⟩
     ·have hk2:¬ (k:Int)<(n:Int):=by omega
      obtain rfl:k=n:=by omega
      simp +contextual (disch:=omega) only[Tryz.f126,Cg,go_sem,simprocAttr,Cf,append_assoc,cons_append,nil_append,g1,g2,g3,g4,hk2];exact⟨(i+1,E,ch),⟨by simp only;omega,hA.nextI⟩,by simp only;omega,by rfl⟩
    ·have hi2:¬ (i:Int)<(n:Int):=by omega
     obtain rfl:i=n:=by omega
     simp +contextual (disch:=omega) only[Tryz.f126,Cg,go_sem,simprocAttr,Cf,append_assoc,cons_append,nil_append,g1,g2,g3,g4,hi2];refine⟨(E,ch),⟨hA.inv,hA.sq,fun h=>?_⟩,?_,by rfl⟩
     ·simp only at h;subst h;exact hA.done
     ·have h1:=hA.le;have h2:=hA.lt;cases ch with
      | false=>simp only[Bool.false_eq_true,if_false];omega
      | true=>have:=h2 rfl;simp only[if_true];omega
 ·rfl
end
section
section
variable {l:Spans}
theorem Ks (hg:∀ p∈l,goodS p):∀ p∈l,0<=p.1/\p.1<=p.2:=fun p hp=>⟨(hg p hp).1,(hg p hp).2.1⟩
def endsL (l:Spans):List Int:=putS 1114111 [0] l
theorem Ij (hg:∀ p∈l,goodS p):EndsOk 1114111 (endsL l):=(C8 (KJ (by omega)) (Ks hg)).1
theorem Pp (hg:∀ p∈l,goodS p):(endsL l).length<=1+2*l.length:=(C8 (KJ (by omega)) (Ks hg)).2.1
theorem KI (hg:∀ p∈l,goodS p) {p:Int×Int} (hp:p∈l) {x:Int} (hx:x=p.1∨x=p.2+1) (ht:x<=1114111):x∈endsL l:=((C8 (KJ (by omega)) (Ks hg)).2.2 x).2 (.inr ⟨p,hp,hx,ht⟩)
theorem J7 (hg:∀ p∈l,goodS p) {k:Nat}{x:Int} (hxt:x<=1114111) (h1:lastP (endsL l) 1114111 k<=x) (h2:x<lastP (endsL l) 1114111 (k+1)):hasSpan l x=hasSpan l (lastP (endsL l) 1114111 k):=by
 have hE:=Ij hg;rw[Bool.eq_iff_iff,Ab,Ab];constructor
 ·rintro⟨p,hp,a1,a2⟩;refine⟨p,hp,?_,by omega⟩;rcases Int.lt_or_le (lastP (endsL l) 1114111 k) p.1 with g|g
  ·have:=F9 hE (KI hg hp (.inl rfl) (by omega)) g;omega
  ·exact g
 ·rintro⟨p,hp,a1,a2⟩;refine⟨p,hp,by omega,?_⟩;rcases Int.lt_or_le p.2 x with g|g
  ·have:=F9 hE (KI hg hp (.inr rfl) (by omega)) (show lastP (endsL l) 1114111 k<p.2+1 by omega);omega
  ·exact g
theorem H7 {pc:Nat->Int×Int}{b b':Nat->Bool}:∀ {n:Nat},(∀ k,k<n->b k=b' k)->ofL pc b n=ofL pc b' n
 | 0,_=>rfl
 | n+1,h=>by
   simp only[ofL];rw[h n (by omega),H7 fun k hk=>h k (by omega)]
theorem Qh (hg:∀ p∈l,goodS p):ofL (pieceA (endsL l) 1114111) (fun k=>((endsL l).map (hasSpan l)).getD k false) (endsL l).length=normL l:=by
 have hE:=Ij hg;have hb:∀ k,k<(endsL l).length->((endsL l).map (hasSpan l)).getD k false=decide ([hasSpan l (lastP (endsL l) 1114111 k)]=[true]):=fun k hk=>by
  have e:=zga hk;rw[BD e];simp[List.getD_eq_getElem?_getD,e]
 rw[H7 hb,Kh (pieceA (endsL l) 1114111) (fun k=>[hasSpan l (lastP (endsL l) 1114111 k)]) [true]];have hso:=HP hE (Int.le_refl _) (fun k=>[hasSpan l (lastP (endsL l) 1114111 k)]) [true] (endsL l).length (Nat.le_refl _);obtain⟨n1,n2,_⟩:=F0 hg;refine GQ (GR hso.sep fun p hp=>(hso.good p hp).2.1) (GR n1.sep fun p hp=>(n1.good p hp).2.1) fun x=>?_;rw[hso.has x,n2 x,Ab];constructor
 ·rintro⟨p,hp,a1,a2⟩;obtain⟨k,hk,hck,rfl⟩:=Cm.1 hp;have hst:=hE.step (k:=k) (by omega);simp only[pieceA]at a1 a2;have hck:hasSpan l (lastP (endsL l) 1114111 k)=true:=by simpa using hck
  rw[J7 hg (by omega) a1 (by omega)];exact hck
 ·intro hx;obtain⟨p,hp,b1,b2⟩:=Ab.1 hx;have hgp:=hg p hp;unfold goodS at hgp;obtain⟨k,hk,a1,a2⟩:=Fv hE (x:=x) ⟨by omega,by omega⟩;refine⟨pieceA (endsL l) 1114111 k,Cm.2 ⟨k,by omega,?_,rfl⟩,a1,by simp only[pieceA];omega⟩;rw[<- J7 hg (by omega) a1 a2,hx]
end
theorem UX (l:Spans) (hg:∀ p∈l,goodS p) (hl:l.length<=1000000) (H:List MB):call Pg pol1 120 [.sl false [setAV l],I 1114111] H=some (.sl false ((endsL l).map I),H):=by
 have hpl:AV.plainL [setAV l]=true:=by simp[AV.plainL,AV.plain,AH]
 refine AQ Tryz.func120 rfl rfl rfl rfl rfl rfl (fun _=>rfl) (by simp[AV.plain,AV.plainL,AH]) (by simp[AV.plain,AF]) ?_ H;simp +contextual (disch:=omega) only[Tryz.f120,FI,go_sem,simprocAttr,evAppend,map_append,FD];refine BR (σ:=EK) (M:=(Ms 120 3)) rfl (fun x=>(⟨48,[(6,I x.i),(5,.sl x.t ((if x.i=0 then [0] else endsL l).map I)),(1,I 1114111),(0,.sl false [setAV l])],[]⟩:St)) (fun x=>x.i<=1) (fun x=>1-x.i) ⟨0,true⟩ ?_ (zero_le _) _ (by first|rfl|(refine AO rfl (by rfl) (by rfl) (by rfl) ?_ ?_<;>simp[AV.underL,AV.under,MB.under,AG,AJ,AF,AH,AK,AM,-map_take]));rintro⟨i,t⟩ hi;simp only at hi |-;rcases(by omega:i=0∨i=1) with rfl|rfl
 ·rw[if_pos rfl];simp +contextual (disch:=omega) only[Tryz.f120,FI,go_sem,simprocAttr,evAppend,map_append,FD];refine BR (σ:=EK) (M:=(Ms 120 6)) rfl (fun x=>(⟨48,[(7,I x.i),(6,I 0),(5,.sl x.t ((putS 1114111 [0] (l.take x.i)).map I)),(1,I 1114111),(0,.sl false [setAV l])],[]⟩:St)) (fun x=>x.i<=l.length) (fun x=>l.length-x.i) ⟨0,t⟩ ?_ (zero_le _) _ (by first|rfl|(refine AO rfl (by rfl) (by rfl) (by rfl) ?_ ?_<;>simp[AV.underL,AV.under,MB.under,AG,AJ,AF,AH,AK,AM,-map_take]));rintro⟨k,t⟩ hk;simp only at hk |-;obtain⟨e1,l2,_⟩:=C8 (s:=l.take k) (KJ (top:=1114111) (by omega)) (fun p hp=>Ks hg p (List.mem_of_mem_take hp));have l3:=List.length_take_le k l;by_cases hkl:k<l.length
  ·obtain⟨p,hp⟩:∃ p,l[k]?=some p:=⟨_,zga hkl⟩;have hp':(l.map spanAV)[k]?=some (spanAV p):=by simp[hp]
   have hgp:=hg p (zgc hp);unfold goodS at hgp;simp only[List.length_cons,List.length_nil]at l2;have l4:=Fq (putS 1114111 [0] (l.take k)) p.1 1114111;have h1:=QP t (putS 1114111 [0] (l.take k)) p.1 1114111 e1.sorted (by omega);have h2:=QQ (putL (putS 1114111 [0] (l.take k)) p.1 1114111) (p.2+1) 1114111 (e1.put hgp.1).sorted (by omega);have hw:IntKind.i64.wrap (p.2+1)=p.2+1:=by rw[i64_in];omega
   have hst:=Jp (top:=1114111) (l:=[0]) hp;have hkl2:(k:Int)<(l.length:Int):=by omega
   simp +contextual (disch:=omega) only[Tryz.f120,FI,go_sem,simprocAttr,evAppend,map_append,FD,hp',h1,h2,hw,hkl2];exact⟨⟨k+1,false⟩,hkl,by show l.length-(k+1)<l.length-k;omega,by simp only[hst];exact(by first|rfl|(refine AO rfl (by rfl) (by rfl) (by rfl) ?_ ?_<;>simp[AV.underL,AV.under,MB.under,AG,AJ,AF,AH,AK,AM,-map_take]))⟩
  ·obtain rfl:k=l.length:=by omega
   rw[List.take_length];have hkl2:¬ (l.length:Int)<(l.length:Int):=by omega
   simp +contextual (disch:=omega) only[Tryz.f120,FI,go_sem,simprocAttr,evAppend,map_append,FD,hkl2];exact⟨⟨1,t⟩,Nat.le_refl _,by show 1-1<1-0;omega,by simp only[show ¬ (1:Nat)=0 by omega,if_false];exact(by first|rfl|(refine AO rfl (by rfl) (by rfl) (by rfl) ?_ ?_<;>simp[AV.underL,AV.under,MB.under,AG,AJ,AF,AH,AK,AM,-map_take]))⟩
 ·rw[if_neg (by omega)];simp +contextual (disch:=omega) only[Tryz.f120,FI,go_sem,simprocAttr,evAppend,map_append,FD];exact⟨_,FX (AF _) _⟩
def normR (l:Spans):AV:=if 64<(normL l).length then .tup [.sl false [],I 4] else .tup [.sl false ((normL l).map spanAV),I 0]
theorem f128 (l:Spans) (hg:∀ p∈l,goodS p) (hl:l.length<=400000) (H:List MB):call Pg pol1 128 [.sl false (l.map spanAV)] H=some (normR l,H):=by
 have hEl:=Pp hg;have h120:=UX l hg (by omega);have c120:=fun H:List MB=>A5 (P:=Pg) (pol:=pol1) (f:=120) (args:=[.sl true [setAV l],I 1114111]) (l:=[.sl false [setAV l],I 1114111]) (H:=H) (H1:=H) rfl (by
  have hz:fz (.sl true [setAV l]) H=some (.sl false [setAV l],H):=FX (by simp[AV.plainL,AV.plain,AH]) H;simp only[frzArgs,show pol1.byref 120 0=false from rfl,show pol1.byref 120 (0+1)=false from rfl,Bool.false_eq_true,if_false,hz,AY H (show AV.plain (I 1114111)=true from rfl)]) (by simp[AV.plainL,AV.plain,AH])
 simp only[h120]at c120;have h122:=sf74 (Ij hg) (Int.le_refl _) ((endsL l).map (hasSpan l)) (by simp) (by omega);rw[Qh hg]at h122;have h136:=fun(p:Int×Int) (hp:p∈l)=>f136 p.1 p.2;have hdec:∀ p∈l,decide (0<=p.1/\p.1<=p.2/\p.2<=1114111)=true:=fun p hp=>decide_eq_true (hg p hp);have h175:=fun x=>OY l x (by omega);have hpn:AV.plain (normR l)=true:=by unfold normR;split<;>simp[AV.plain,AV.plainL,AH]
 refine AQ Tryz.func128 rfl rfl rfl rfl rfl rfl (fun _=>rfl) (by simp[AV.plain,AV.plainL,AH]) hpn ?_ H;generalize endsL l=E at *;simp +contextual (disch:=omega) only[Tryz.f128,KM,go_sem,simprocAttr,evAppend,map_append,Ju];refine AS (M:=(Ms 128 2)) rfl l.length (fun i=>(⟨45,[(4,I i),(0,.sl false (l.map spanAV))],[]⟩:St)) (fun i=>True) ?_ ?_ trivial _ (by first|rfl|(refine AO rfl (by rfl) (by rfl) (by rfl) ?_ ?_<;>simp[AV.underL,AV.under,MB.under,AG,AJ,AF,AH,AK,AM,-map_take,AH]))
 ·intro i hi _;obtain⟨p,hp⟩:∃ p,l[i]?=some p:=⟨_,zga hi⟩;have hp':(l.map spanAV)[i]?=some (spanAV p):=by simp[hp]
  have h173:=h136 p (zgc hp);rw[hdec p (zgc hp)]at h173;simp +contextual (disch:=omega) only[Tryz.f128,KM,go_sem,simprocAttr,evAppend,map_append,Ju,hp',h173,spanAV];exact(by first|rfl|(refine AO rfl (by rfl) (by rfl) (by rfl) ?_ ?_<;>simp[AV.underL,AV.under,MB.under,AG,AJ,AF,AH,AK,AM,-map_take,AH]))
 ·intro _;simp +contextual (disch:=omega) only[Tryz.f128,KM,go_sem,simprocAttr,evAppend,map_append,Ju,c120];refine AS (M:=(Ms 128 10)) rfl E.length (fun i=>(⟨45,[(8,I i),(7,.ms 0 1 i 0 i),(6,.sl false (E.map I)),(0,.sl false (l.map spanAV))],[.row 1 (((E.take i).map (hasSpan l)).map AV.bool) 0]⟩:St)) (fun i=>True) ?_ ?_ trivial _ (by first|rfl|(refine AO rfl (by rfl) (by rfl) (by rfl) ?_ ?_<;>simp[AV.underL,AV.under,MB.under,AG,AJ,AF,AH,AK,AM,-map_take,AH,AF]))
  ·intro i hi _;obtain⟨x,hx⟩:∃ x,E[i]?=some x:=⟨_,zga hi⟩;have hx':(E.map I)[i]?=some (I x):=by simp[hx]
   have hX:=h175 x;have hst:(E.take (i+1)).map (hasSpan l)=(E.take i).map (hasSpan l)++[hasSpan l x]:=by rw[AZ hx,map_append];rfl
   have hXl:((E.take i).map (hasSpan l)).length=i:=by rw[List.length_map,List.length_take];omega
   rw[hst];generalize (E.take i).map (hasSpan l)=X at *;generalize hasSpan l x=v at *;have a1:=fun(t:Bool)=>FL (H:=[.row 1 (X.map AV.bool) 0]) (i:=0) (n:=i) (x:=v) (t:=t) rfl (zero_le _) hXl (by omega);simp only[List.set_cons_zero]at a1;simp +contextual (disch:=omega) only[Tryz.f128,KM,go_sem,simprocAttr,Ju,hx',hX,a1];generalize X++[v]=X2;exact(by first|rfl|(refine AO rfl (by rfl) (by rfl) (by rfl) ?_ ?_<;>simp[AV.underL,AV.under,MB.under,AG,AJ,AF,AH,AK,AM,-map_take,AH,AF,AN]))
  ·intro _;rw[List.take_length];have hXl:(E.map (hasSpan l)).length=E.length:=by simp
   have hz:fz (.ms 0 1 E.length 0 E.length) [.row 1 ((E.map (hasSpan l)).map AV.bool) 0]=some (.sl false ((E.map (hasSpan l)).map AV.bool),[.row 1 ((E.map (hasSpan l)).map AV.bool) E.length]):=by
    rw[Av (z:=0) rfl (by simp) (AN _)];simp[mark,getRow]
   generalize E.map (hasSpan l)=X at *;have c122:=(A5 (P:=Pg) (pol:=pol1) (f:=122) (args:=[.sl false (E.map I),.ms 0 1 E.length 0 E.length,I 1114111]) (l:=[.sl false (E.map I),.sl false (X.map AV.bool),I 1114111]) (H:=[.row 1 (X.map AV.bool) 0]) (H1:=[.row 1 (X.map AV.bool) E.length]) rfl (by
    simp only[frzArgs,show pol1.byref 122 0=false from rfl,show pol1.byref 122 (0+1)=false from rfl,show pol1.byref 122 (0+1+1)=false from rfl,Bool.false_eq_true,if_false,hz,AY _ (show AV.plain (I 1114111)=true from rfl),FX (AF E)]) (by simp[AV.plainL,AV.plain,AF,AN])).trans (h122 _)
   have hN:normR l=(if 64<(normL l).length then AV.tup [.sl false [],I 4] else AV.tup [.sl false ((normL l).map spanAV),I 0]):=rfl;rw[<- hN]at c122;unfold normR at c122 hpn |-;split at c122
   ·rename_i h64;rw[if_pos h64];simp +contextual (disch:=omega) only[Tryz.f128,KM,go_sem,simprocAttr,evAppend,map_append,Ju,c122];exact fzEq rfl rfl
   ·rename_i h64;rw[if_neg h64];generalize normL l=O at *;simp +contextual (disch:=omega) only[Tryz.f128,KM,go_sem,simprocAttr,evAppend,map_append,Ju,c122];exact fzEq (by simp[AV.plain,AV.plainL,AH]) rfl
end
end Go.Ev
namespace Go.Ev
section
variable {b:AutoL}{top:Int}
def TabP (b:AutoL) (top:Int) (D:List (List Bool)):Prop:=
 (∀ i k,i<b.nx.length->k<b.nx.length->get2 D i k=true->¬ (autoDA b).Eqv top i k)/\∀ i k,get2 (dif b.ac b.nx.length) i k=true->get2 D i k=true
theorem Oj {ac:List Bool}{n i k:Nat} (hi:i<n) (hk:k<n):get2 (dif ac n) i k=(ac[i]?.getD false != ac[k]?.getD false):=by
 simp[get2,dif,dif0,hi,hk]
theorem NB:TabP b top (dif b.ac b.nx.length):=by
 refine⟨fun i k hi hk h e=>?_,fun i k h=>h⟩;rw[Oj hi hk]at h;have:=e [] DQ;have this:b.ac[i]?.getD false=b.ac[k]?.getD false:=this;rw[this]at h;simp at h
theorem QI (hg:GoodA b) (hd:DivOk b.cl top) {E:List (List Bool)}{i k c:Nat} (h:TabP b top E) (hs:Sq b.nx.length E) (hi:i<b.nx.length) (hk:k<b.nx.length) (hc:c<b.cl.length)
  (ht:get2 E (nxf (nxN b.nx) i c) (nxf (nxN b.nx) k c)=true):TabP b top (set2 E i k):=by
 rw[BT,BT]at ht;refine⟨fun i' k' hi' hk' h1 e=>?_,fun i' k' h1=>?_⟩
 ·rw[ML hs hi hk]at h1;split at h1
  ·rename_i h2;obtain⟨rfl,rfl⟩:=h2;have e2:=e.cls (EB hg hd) (c:=c) hc;exact h.1 _ _ (Cd hg hi hc) (Cd hg hk hc) ht e2
  ·exact h.1 _ _ hi' hk' h1 e
 ·rw[ML hs hi hk];split
  ·rfl
  ·exact h.2 _ _ h1
theorem Sz (hg:GoodA b) (hd:DivOk b.cl top) {D:List (List Bool)} (h:TabP b top D) (hc:Clsd b.nx.length b.cl.length (nxf (nxN b.nx)) D):Tab b top D:=by
 have key:∀(w:List Int) (i k:Nat),Tx top w->i<b.nx.length->k<b.nx.length->get2 D i k=false->(autoDA b).ac ((autoDA b).run i w)=(autoDA b).ac ((autoDA b).run k w):=by
  intro w
  induction w with
  | nil=>
    intro i k _ hi hk hf;have h1:=h.2 i k;rw[Oj hi hk,hf]at h1;show b.ac[i]?.getD false=b.ac[k]?.getD false;cases h2:b.ac[i]?.getD false<;>cases h3:b.ac[k]?.getD false<;>simp[h2,h3]at h1 |-
  | cons x w ih=>
    intro i k hw hi hk hf;have hx:Sy top x:=hw x (by simp);have hcl:=(hd.clIx_lt hx.1 hx.2).1;show (autoDA b).ac ((autoDA b).run (stepC b.nx i (clIx b.cl x)) w)=(autoDA b).ac ((autoDA b).run (stepC b.nx k (clIx b.cl x)) w);refine ih _ _ (fun y hy=>hw y (by simp[hy])) (Cd hg hi hcl) (Cd hg hk hcl) ?_;cases hv:get2 D (stepC b.nx i (clIx b.cl x)) (stepC b.nx k (clIx b.cl x)) with
    | false=>rfl
    | true=>
      have:=hc i k (clIx b.cl x) hi hk hcl (by rw[BT,BT];exact hv);rw[hf]at this;cases this
 intro i k hi hk;constructor
 ·exact h.1 i k hi hk
 ·intro g;cases hv:get2 D i k with
  | true=>rfl
  | false=>exact absurd (fun w hw=>key w i k hw hi hk hv) g
end
def rowsVz (L:List (List Nat)):List MB:=L.map fun r=>.row 1 (r.map NV) r.length
theorem Ku {H:List MB}{x0 x1 x2 x3 x5:MB}{rows:List (List Nat)}{m n j:Nat} (hn:rows.length=n) (hm:∀ r∈rows,r.length=m) :
  fzA (fzJ (j+2)) (.ms (H.length+4) 1 n 0 n) (H++(x0::x1::x2::x3::.row 1 (cm (H.length+6) m n) 0::x5::rowsV rows))=some (.sl false (rows.map nsAV),H++(x0::x1::x2::x3::.row 1 (cm (H.length+6) m n) n::x5::rowsVz rows)):=by
 have e1:H++(x0::x1::x2::x3::.row 1 (cm (H.length+6) m n) 0::x5::rowsV rows)=(H++[x0,x1,x2,x3])++.row 1 (cm (H.length+6) m n) 0::(x5::rowsV rows):=by simp
 have hl:(H++[x0,x1,x2,x3]).length=H.length+4:=by simp
 have hr:getRow (H++(x0::x1::x2::x3::.row 1 (cm (H.length+6) m n) 0::x5::rowsV rows)) (H.length+4)=some (1,cm (H.length+6) m n,0):=by
  unfold getRow;rw[gA];rfl
 have hmk:=D4 (pre:=H++[x0,x1,x2,x3]) (post:=x5::rowsV rows) (k:=1) (z:=0) (n:=n) (els:=cm (H.length+6) m n);rw[<- e1,hl,Nat.max_eq_right (zero_le _)]at hmk;have hpl:(H++[x0,x1,x2,x3,.row 1 (cm (H.length+6) m n) n,x5]).length=H.length+6:=by simp
 have hz:=Q2 (j:=j) (m:=m) (n:=n) (es:=rows.map fun r=>r.map NV) (pre:=H++[x0,x1,x2,x3,.row 1 (cm (H.length+6) m n) n,x5]) (post:=[]) (z:=0) (by simp[hn]) (fun e he=>by
  obtain⟨d,hd,rfl⟩:=mem_map.1 he;simp[hm d hd]) (fun e he=>by
  obtain⟨d,hd,rfl⟩:=mem_map.1 he;exact AR d) (by rw[hpl];exact hr) (by rw[hmk];simp[rowsV,Function.comp_def])
 rw[hz];simp[rowsVz,Function.comp_def]
theorem HN {H:List MB}{x0 x1 x2 x3 x4:MB}{T:List MB}{acs:List Bool}{n j:Nat} (hn:acs.length=n) :
  fzA (fzJ (j+1)) (.ms (H.length+5) 1 n 0 n) (H++(x0::x1::x2::x3::x4::.row 1 (acs.map AV.bool) 0::T))=some (.sl false (acs.map AV.bool),H++(x0::x1::x2::x3::x4::.row 1 (acs.map AV.bool) n::T)):=by
 have e1:H++(x0::x1::x2::x3::x4::.row 1 (acs.map AV.bool) 0::T)=(H++[x0,x1,x2,x3,x4])++.row 1 (acs.map AV.bool) 0::T:=by simp
 have hl:(H++[x0,x1,x2,x3,x4]).length=H.length+5:=by simp
 have hr:getRow (H++(x0::x1::x2::x3::x4::.row 1 (acs.map AV.bool) 0::T)) (H.length+5)=some (1,acs.map AV.bool,0):=by
  unfold getRow;rw[gA];rfl
 have hmk:=D4 (pre:=H++[x0,x1,x2,x3,x4]) (post:=T) (k:=1) (z:=0) (n:=n) (els:=acs.map AV.bool);rw[<- e1,hl,Nat.max_eq_right (zero_le _)]at hmk;have:=D6 (n:=j) (tot:=n) hr (by simp[hn]) (AN acs);rw[this,hmk];simp
theorem Dm {P:Program}{pol:Pol}{f:Nat}{args l:List AV}{H H1:List MB} (hp:pol.pure f=false) (he:pol.ext f=none) (hy:f≠yldF) (h:frzArgs pol f 0 args H=some (l,H1)) (ha:AV.plainL l=true) :
  call P pol f args H=call P pol f l H1:=by
 have hf:∀(l:List AV) (i:Nat),AV.plainL l=true->frzArgs pol f i l H1=some (l,H1):=by
  intro l
  induction l with
  | nil=>intro i _;rfl
  | cons x l ih=>
    intro i h;simp only[AV.plainL,Bool.and_eq_true]at h;simp only[frzArgs,AY H1 h.1,ih (i+1) h.2];split<;>simp_all
 rw[BL,BL];unfold evStep;rw[if_neg (by simp[hp]),if_neg hy,if_neg (by simp[hp]),if_neg hy];unfold evBody;simp only[he,h,hf l 0 ha]
end Go.Ev
