/- Automata of what is reached by a step; a product's language. Plain. -/
import Derived.Test.YtdklnlnbemogbaaGreatG23
set_option linter.unusedVariables false
set_option linter.unusedSimpArgs false
open List (all_eq_true getElem?_eq_getElem getElem?_map head?_drop length_append length_map map_append map_cons map_map map_replicate map_set map_take mem_append mem_map mem_of_getElem? mem_range take_of_length_le)
open Option (getD_some map_some)
open Go.Proofs Go.RowKit Go.IntWalk
set_option maxHeartbeats 8000000
set_option maxRecDepth 100000
namespace Go.Ev
section
variable {σ:Type} [DecidableEq σ] {m:Nat}{step:σ->Nat->σ}{first:σ}{R:List σ}{acc:σ->Bool}{C:Cls}{top:Int}
def exA (C:Cls) (m:Nat) (step:σ->Nat->σ) (acc:σ->Bool) (R:List σ):AutoL:=natA C (R.map (exRow m step R)) (R.map acc)
theorem Gx (h:Expl m step first R) (hm:C.length=m) (hC:C.length<=1024) (hR:R.length<=1024):GoodA (exA C m step acc R):=by
 have hpos:=getElem?_ne_none h.l0;refine⟨hC,by simp[exA,natA];exact hpos,by simp[exA,natA];exact hR,by simp[exA,natA],fun row hrow=>?_⟩;simp only[exA,natA,map_map,mem_map]at hrow;obtain⟨x,hx,rfl⟩:=hrow;refine⟨by simp[exRow,exA,natA,hm],fun t ht=>?_⟩;simp only[Function.comp,exRow,map_map,mem_map,mem_range]at ht;obtain⟨c,hc,rfl⟩:=ht;have:=List.idxOf_lt_length_of_mem (h.closed hx hc);simp only[Function.comp,exA,natA,length_map];omega
theorem NG (hm:C.length=m):Agree (exDA m step acc (clIx C) R) (autoDA (exA C m step acc R)) top where
 n:=by simp[autoDA,exA,natA,exDA]
 m:=by simp[autoDA,exA,natA,exDA,hm]
 nx:=fun s c hs hc=>by
  have hs':s<R.length:=hs;have hc':c<m:=hc;have e:=getElem?_eq_getElem hs';simp only[autoDA,exA,natA,exDA,stepC,getElem?_map,e,map_some,getD_some,exRow,List.getElem?_range hc',Int.toNat_natCast]
 ac:=fun s hs=>by
  have hs':s<R.length:=hs;have e:=getElem?_eq_getElem hs';simp only[autoDA,exA,natA,exDA,getElem?_map,e,map_some,getD_some]
 cl:=fun x _=>rfl
theorem G7 (hd:DivOk C top):∀ c,c<C.length->∃ x,Sy top x/\clIx C x=c:=fun c hc=>by
 obtain⟨a,b,e⟩:=hd.head (getElem?_eq_getElem hc);exact⟨_,⟨a,b⟩,e⟩
theorem Ia (h:Expl m step first R) (hm:C.length=m) (hd:DivOk C top) {w:List Int} (hw:Tx top w):(autoDA (exA C m step acc R)).ac ((autoDA (exA C m step acc R)).run 0 w)=acc (runT step (clIx C) first w):=by
 have hcl:∀ x,Sy top x->clIx C x<m:=fun x hx=>by rw[<- hm];exact(hd.clIx_lt hx.1 hx.2).1
 have hsj:∀ c,c<m->∃ x,Sy top x/\clIx C x=c:=fun c hc=>G7 hd c (by omega);have ho:=h.ok (acc:=acc) hcl hsj;have hag:=NG (step:=step) (acc:=acc) (R:=R) (top:=top) hm;have hlt:=ho.run_lt w 0 hw ho.pos;rw[hag.run ho w 0 hw ho.pos,hag.ac _ hlt];exact h.texts hcl hw
end
section
variable {a b:AutoL}{C:Cls}{top:Int}
theorem OJ {a:AutoL} (hda:DivOk a.cl top) (hC:DivOk C top):∀ c t:Nat,(inC a.cl C)[c]?=some t->t<a.cl.length:=fun c t h=>by
 simp only[inC,getElem?_map,Option.map_eq_some_iff]at h;obtain⟨S,h1,rfl⟩:=h;obtain⟨q0,q1,_⟩:=hC.head h1;exact(hda.clIx_lt q0 q1).1
theorem FK (hga:GoodA a) (hgb:GoodA b) (hda:DivOk a.cl top) (hdb:DivOk b.cl top) (hC:DivOk C top) :
  Expl C.length (stepP (nxN a.nx) (nxN b.nx) (inC a.cl C) (inC b.cl C)) (0,0) (prodR a b C)/\(prodR a b C).length<=a.nx.length*b.nx.length:=by
 have hst:=fun {p:Nat×Nat} (hp:p∈pairsU a.nx.length b.nx.length) {c:Nat} (hc:c<C.length)=>Jm hga hgb (OJ hda hC) (OJ hdb hC) (m:=C.length) (by simp[inC]) (by simp[inC]) hp hc;have hU:∀ x∈pairsU a.nx.length b.nx.length,∀ c,c<C.length->stepP (nxN a.nx) (nxN b.nx) (inC a.cl C) (inC b.cl C) x c∈pairsU a.nx.length b.nx.length:=fun x hx c hc=>by
  obtain⟨_,_,_,_,_,_,_,_,_,_,_,_,e,h⟩:=hst hx hc;rw[e];exact h
 have h0:((0,0):Nat×Nat)∈pairsU a.nx.length b.nx.length:=CJ.2 ⟨hga.pos,hgb.pos⟩;refine⟨MV hU h0 rfl,?_⟩;have hU':∀ x∈pairsU a.nx.length b.nx.length,∀ y∈(List.range C.length).map (stepP (nxN a.nx) (nxN b.nx) (inC a.cl C) (inC b.cl C) x),y∈pairsU a.nx.length b.nx.length:=fun x hx y hy=>by
  obtain⟨c,hc,rfl⟩:=mem_map.1 hy;exact hU x hx c (mem_range.1 hc)
 have hl:=Ar (prodR a b C) (pairsU a.nx.length b.nx.length) Gw (JF hU' h0);have:(pairsU a.nx.length b.nx.length).length=a.nx.length*b.nx.length:=by
  have hsum:∀ n k:Nat,((List.range n).map fun _=>k).sum=n*k:=fun n k=>by
   induction n with
   | zero=>simp
   | succ n ih=>rw[List.range_succ,map_append,List.sum_append,ih];simp[Nat.succ_mul]
  simp[pairsU,List.length_flatMap,hsum]
 omega
theorem J0 (op:Bool->Bool->Bool):prodA op a b C=exA C C.length (stepP (nxN a.nx) (nxN b.nx) (inC a.cl C) (inC b.cl C)) (fun p=>op (a.ac[p.1]?.getD false) (b.ac[p.2]?.getD false)) (prodR a b C):=rfl
theorem Fs {cl L:Cls} (hs:∀ s∈cl,s∈L) {x y:Int} (h:colA L x=colA L y):clIx cl x=clIx cl y:=by
 have hx:∀ s∈cl,hasSpan s x=hasSpan s y:=fun s hsm=>by
  obtain⟨i,hi⟩:=List.getElem?_of_mem (hs s hsm);have:=congrArg (fun l:List Bool=>l[i]?) h;simp only[colA,getElem?_map,hi,map_some,Option.some.injEq]at this;exact this
 clear hs h;unfold clIx
 induction cl with
 | nil=>rfl
 | cons s cl ih=>
   rw[List.findIdx_cons,List.findIdx_cons,hx s (by simp),ih (fun t ht=>hx t (by simp[ht]))]
structure Refines (cl C:Cls) (top:Int):Prop where
 of:∀ x y,Sy top x->Sy top y->clIx C x=clIx C y->clIx cl x=clIx cl y
theorem Refines.at {cl:Cls} (h:Refines cl C top) (hC:DivOk C top) {x:Int} (hx:Sy top x):(inC cl C)[clIx C x]?=some (clIx cl x):=by
 obtain⟨g1,_⟩:=hC.clIx_lt hx.1 hx.2;have e:=getElem?_eq_getElem g1;obtain⟨q0,q1,q2⟩:=hC.head e;simp only[inC,getElem?_map,e,map_some];rw[h.of _ x ⟨q0,q1⟩ hx q2]
theorem runP (hra:Refines a.cl C top) (hrb:Refines b.cl C top) (hC:DivOk C top):∀(w:List Int) (p:Nat×Nat),Tx top w ->
  runT (stepP (nxN a.nx) (nxN b.nx) (inC a.cl C) (inC b.cl C)) (clIx C) p w=((autoDA a).run p.1 w,(autoDA b).run p.2 w)
 | [],p,_=>rfl
 | x::w,p,hw=>by
   have hx:=hw x (by simp);have e:stepP (nxN a.nx) (nxN b.nx) (inC a.cl C) (inC b.cl C) p (clIx C x)=((autoDA a).nx p.1 ((autoDA a).cl x),(autoDA b).nx p.2 ((autoDA b).cl x)):=by
    unfold stepP;rw[hra.at hC hx,hrb.at hC hx,getD_some,getD_some,Dy,Dy];rfl
   show runT _ _ (stepP (nxN a.nx) (nxN b.nx) (inC a.cl C) (inC b.cl C) p (clIx C x)) w=_;rw[e];exact runP hra hrb hC w _ (fun y hy=>hw y (by simp[hy]))
def Lg (A:DA) (w:List Int):Bool:=A.ac (A.run 0 w)
theorem Mx (op:Bool->Bool->Bool) (hga:GoodA a) (hgb:GoodA b) (hda:DivOk a.cl top) (hdb:DivOk b.cl top) (hC:DivOk C top) (hra:Refines a.cl C top) (hrb:Refines b.cl C top) {w:List Int} (hw:Tx top w) :
  Lg (autoDA (prodA op a b C)) w=op (Lg (autoDA a) w) (Lg (autoDA b) w):=by
 rw[J0];unfold Lg;rw[Ia (FK hga hgb hda hdb hC).1 rfl hC hw,runP hra hrb hC w (0,0) hw];rfl
theorem IB (op:Bool->Bool->Bool) (hga:GoodA a) (hgb:GoodA b) (hda:DivOk a.cl top) (hdb:DivOk b.cl top) (hC:DivOk C top) (hCl:C.length<=1024) (hR:(prodR a b C).length<=1024):GoodA (prodA op a b C):=by
 rw[J0];exact Gx (FK hga hgb hda hdb hC).1 rfl hCl hR
end
end Go.Ev
namespace Go.Ev
attribute [local go_sem] evBin AV.cells strOf Ah Ao bndO bnd evEq eqCells not_false_eq_true not_true_eq_false toList_some Array.size_empty length_append tySzE head?_drop Nat.mul_one AY Ae AU AZ Aa AS
section
attribute [local go_sem] evAppend map_append
theorem Ij {a b:AutoL} (hbw:bothW a b=0):∀ s∈a.cl++b.cl,refSpans s=0:=fun s hs=>by
 obtain⟨hga,hgb,hda,hdb⟩:=GA hbw;rcases mem_append.1 hs with h|h
 ·exact(hda.set s h).1
 ·exact(hdb.set s h).1
theorem GL {a b:AutoL} (hbw:bothW a b=0) {C:Cls} (h:splitW a b=some C):DivOk C (topZ a.cl.flatten)/\C.length<=1024/\Refines a.cl C (topZ a.cl.flatten)/\Refines b.cl C (topZ a.cl.flatten):=by
 obtain⟨hga,hgb,hda,hdb⟩:=GA hbw;have hsp:=FI hda.top_ (fun s hs=>(Ep (Ij hbw s hs)).1) (show splitA (a.cl++b.cl) (endsR (a.cl++b.cl) (topZ a.cl.flatten)) (topZ a.cl.flatten)=some C by
  unfold splitW at h;split at h
  ·cases h
  ·exact h)
 refine⟨hsp.1,hsp.2.1,⟨fun x y hx hy e=>?_⟩,⟨fun x y hx hy e=>?_⟩⟩
 ·exact Fs (fun s hs=>List.mem_append_left _ hs) ((hsp.2.2.2 x y hx hy).1 e)
 ·exact Fs (fun s hs=>List.mem_append_right _ hs) ((hsp.2.2.2 x y hx hy).1 e)
theorem LH {op:Bool->Bool->Bool}{a b:AutoL} (h:(prodW op a b).2=0):GoodA (prodW op a b).1/\DivOk (prodW op a b).1.cl (topZ a.cl.flatten):=by
 unfold prodW at h |-;by_cases hbw:bothW a b=0
 ·rw[if_neg (by simp[hbw])]at h |-;obtain⟨hga,hgb,hda,hdb⟩:=GA hbw;cases hsp:splitW a b with
  | none=>rw[hsp]at h;cases h
  | some C=>
    rw[hsp]at h;obtain⟨hC,hCl,hra,hrb⟩:=GL hbw hsp;simp only[]at h |-;split at h
    ·rename_i hR;rw[if_pos hR];exact⟨IB op hga hgb hda hdb hC hCl hR,hC⟩
    ·cases h
 ·rw[if_pos hbw]at h;exact absurd h hbw
theorem f77 (g:Nat) (op:Bool->Bool->Bool) (hop:∀ x y H,call Pg pol1 g [.bool x,.bool y] H=some (.bool (op x y),H)) (hy:g≠yldF) (a b:AutoL) (hba:AutoB a) (hbb:AutoB b) (H:List MB) :
  call Pg pol1 77 [autoAV a,autoAV b,.clo g []] H=some (pairAV (combW op a b),H):=by
 have h92:=f92W g op hop hy a b hba hbb;have hg:=@LH op a b;have hpp:=Ax (combW op a b);have hpl:=Ac a;have hpl2:=Ac b;refine AQ Tryz.func77 rfl rfl rfl rfl rfl rfl (fun _=>rfl) (by simp[AV.plainL,AV.plain,AM,AT,AJ]) hpp ?_ H;unfold combW at hpp |-;generalize prodW op a b=r at *;obtain⟨r,e⟩:=r;simp only at hg hpp |-;by_cases he:e=0
 ·subst he;rw[if_neg (by simp)]at hpp |-;obtain⟨g1,g2⟩:=hg rfl;have h60:=f60L g1 g2;have hplr:=Ac r;unfold pairAV at h60 hpp |- h92;generalize lstW r=q at *;obtain⟨q,e⟩:=q;simp only at h60 hpp |- h92;obtain⟨cl,nx,ac⟩:=r;simp +contextual (disch:=omega) only[Tryz.f77,dd77,go_sem,simprocAttr,mu77,↓AE,↓AD,↓AC,↓AA,h92,h60];exact fzEq hpp rfl
 ·rw[if_pos he]at hpp |-;unfold pairAV at hpp |- h92;simp only at hpp |- h92;obtain⟨cl,nx,ac⟩:=r;simp +contextual (disch:=omega) only[Tryz.f77,dd77,go_sem,simprocAttr,mu77,↓AE,↓AD,↓AC,↓AA,h92,he];exact⟨_,rfl⟩
noncomputable def meetW (a b:AutoL):AutoL×Int:=combW (fun x y=>x&&y) a b
noncomputable def unionW (a b:AutoL):AutoL×Int:=combW (fun x y=>x||y) a b
theorem f33 (a b:AutoL) (hba:AutoB a) (hbb:AutoB b) (H:List MB):call Pg pol1 33 [autoAV a,autoAV b] H=some (pairAV (meetW a b),H):=by
 have h77:=f77 78 (fun x y=>x&&y) f78 (by decide) a b hba hbb;have hpp:=Ax (meetW a b);refine AQ Tryz.func33 rfl rfl rfl rfl rfl rfl (fun _=>rfl) (by simp[AV.plainL,AV.plain,AM,AT,AJ]) hpp ?_ H
 change ∀ H,call _ _ _ _ H=some (pairAV (meetW a b),H) at h77
 unfold pairAV at h77 hpp |-;generalize meetW a b=q at *;obtain⟨q,e⟩:=q;simp only at hpp |- h77;obtain⟨cl,nx,ac⟩:=q;simp +contextual (disch:=omega) only[Tryz.f33,dd33,go_sem,simprocAttr,mu33,↓AE,↓AD,↓AC,↓AA,h77];exact fzEq hpp rfl
theorem f35 (a b:AutoL) (hba:AutoB a) (hbb:AutoB b) (H:List MB):call Pg pol1 35 [autoAV a,autoAV b] H=some (pairAV (unionW a b),H):=by
 have h77:=f77 80 (fun x y=>x||y) f80 (by decide) a b hba hbb;have hpp:=Ax (unionW a b);refine AQ Tryz.func35 rfl rfl rfl rfl rfl rfl (fun _=>rfl) (by simp[AV.plainL,AV.plain,AM,AT,AJ]) hpp ?_ H
 change ∀ H,call _ _ _ _ H=some (pairAV (unionW a b),H) at h77
 unfold pairAV at h77 hpp |-;generalize unionW a b=q at *;obtain⟨q,e⟩:=q;simp only at hpp |- h77;obtain⟨cl,nx,ac⟩:=q;simp +contextual (disch:=omega) only[Tryz.f35,dd35,go_sem,simprocAttr,mu35,↓AE,↓AD,↓AC,↓AA,h77];exact fzEq hpp rfl
end
end Go.Ev
namespace Go.Ev
theorem OP {cl:Cls}{top:Int} (h:DivOk cl top):dividesA cl=true:=by
 simp only[dividesA,Bool.and_eq_true];refine⟨MH fun k hk=>?_,?_⟩
 ·have h1:=h.set _ (List.getElem_mem hk);have e0:(decide (refSpans cl[k]≠0))=false:=by simp[h1.1]
  have e1:cl[k].isEmpty=false:=by
   cases hc:cl[k] with
   | nil=>exact absurd hc h1.2
   | cons p s=>rfl
  simp only[badC,getElem?_eq_getElem hk,e0,e1];cases k with
  | zero=>rfl
  | succ k=>
    have hk':k<cl.length:=by omega
    have:=h.ord k _ _ (getElem?_eq_getElem hk') (getElem?_eq_getElem hk);simp only[getElem?_eq_getElem hk',Bool.false_or,decide_eq_false_iff_not];omega
 ·unfold endC;rw[h.chain];rcases h.top_ with rfl|rfl<;>rfl
section
variable {a b:AutoL}{top:Int}
theorem CW (hg:GoodA a) (hd:DivOk a.cl top):validW (dividesA a.cl) a=0:=by
 have h1:=hg.cl;have h2:=hg.nx;have h3:=hg.ac;have h4:=hg.pos;rw[OP hd];unfold validW;rw[if_neg (by omega),if_neg (by rintro(h|h|h)<;>first|omega|cases h),if_pos];rw[all_eq_true];intro r hr;obtain⟨r1,r2⟩:=hg.rows r hr;simp only[okRow,r1,decide_true,Bool.true_and,all_eq_true];intro t ht;have:=r2 t ht;simp only[okSt,Bool.and_eq_true,decide_eq_true_eq];exact this
theorem Pn (L:List (List (Int×Int))) (h:∀ s∈L,s.length<=64):(L.map List.length).sum<=64*L.length:=by
 induction L with
 | nil=>simp
 | cons s L ih=>
   have:=h s (by simp);have:=ih fun t ht=>h t (by simp[ht]);simp only[map_cons,List.sum_cons,List.length_cons];omega
theorem L6 (hg:GoodA a) (hd:DivOk a.cl top):AutoB a:=by
 have h1:=hg.cl;have h2:=hg.nx;have h3:=hg.ac;have:=Pn a.cl fun s hs=>(BN (hd.set s hs).1).2;refine⟨by omega,by omega,by omega,by omega,fun r hr=>?_⟩;rw[(hg.rows r hr).1];omega
theorem Ma (hg:GoodA a) (hd:DivOk a.cl top) (hg':GoodA b) (hd':DivOk b.cl top):bothW a b=0:=by
 unfold bothW;rw[if_neg (by simp[CW hg hd]),if_neg (by simp[CW hg' hd']),if_neg (by rw[hd.topL_eq.2,hd'.topL_eq.2];simp)]
end
def Alike (x y:Int):Prop:=(0<=x/\x<=96/\0<=y/\y<=96)∨(101<=x/\x<=255/\101<=y/\y<=255)
def Fine (cl:Cls):Prop:=∀ x y,Alike x y->clIx cl x=clIx cl y
def brks:List Int:=[0,97,98,99,100,101]
theorem Gl {x:Int}:x∈brks↔x=0∨x=97∨x=98∨x=99∨x=100∨x=101:=by simp[brks]
theorem NormS.edge {s:Spans} (h:NormS s) {p:Int×Int} (hp:p∈s):hasSpan s (p.1-1)=false/\hasSpan s (p.2+1)=false:=by
 obtain⟨l,r,rfl⟩:=List.append_of_mem hp;obtain⟨_,g2,g3⟩:=List.pairwise_append.1 h.gap;obtain⟨g4,_⟩:=List.pairwise_cons.1 g2;have hv:=h.val p hp;have key:∀ x,p.1-1<=x->x<=p.2+1->¬ (p.1<=x/\x<=p.2)->hasSpan (l++p::r) x=false:=fun x h1 h2 h3=>by
  rw[Bool.eq_false_iff];intro hx;obtain⟨q,hq,a1,a2⟩:=AW.1 hx;rcases mem_append.1 hq with e|e
  ·have:=g3 q e p (by simp);omega
  ·rcases List.mem_cons.1 e with e|e
   ·subst e;exact h3 ⟨a1,a2⟩
   ·have:=g4 q e;omega
 exact⟨key _ (by omega) (by omega) (by omega),key _ (by omega) (by omega) (by omega)⟩
structure FineS (s:Spans):Prop where
 norm:NormS s
 inS:∀ x,hasSpan s x=true->Sy 255 x
 al:∀ x y,Alike x y->hasSpan s x=hasSpan s y
theorem FineS.edge {s:Spans} (h:FineS s) {p:Int×Int} (hp:p∈s):p.1∈brks/\(p.2+1<=255->p.2+1∈brks):=by
 have hv:=h.norm.val p hp;obtain⟨e1,e2⟩:=h.norm.edge hp;have t1:hasSpan s p.1=true:=AW.2 ⟨p,hp,by omega,hv⟩;have t2:hasSpan s p.2=true:=AW.2 ⟨p,hp,hv,by omega⟩;have r1:=h.inS _ t1;have r2:=h.inS _ t2;simp only[Sy]at r1 r2;rw[Gl,Gl];constructor
 ·by_cases hb:Alike p.1 (p.1-1)
  ·have:=h.al _ _ hb;rw[t1,e1]at this;cases this
  ·unfold Alike at hb;omega
 ·intro hle;by_cases hb:Alike p.2 (p.2+1)
  ·have:=h.al _ _ hb;rw[t2,e2]at this;cases this
  ·unfold Alike at hb;omega
theorem FineS.len {s:Spans} (h:FineS s):s.length<=6:=by
 have hn:(s.map (·.1)).Nodup:=by
  rw[List.Nodup,List.pairwise_map];have hv:=h.norm.val;have hg:=h.norm.gap;refine List.Pairwise.imp_of_mem (fun {p q} hp hq hpq=>?_) hg;have:=hv p hp;omega
 have:=Ar _ brks hn fun x hx=>by
  obtain⟨p,hp,rfl⟩:=mem_map.1 hx;exact(h.edge hp).1
 simpa [brks] using this
theorem M0 {s:Spans} (h:s.Pairwise fun p q=>p.2+2<=q.1) (hg:∀ p∈s,p.1<=p.2):NormS s:=⟨h.imp fun h=>by omega,hg⟩
structure Okf (a:AutoL):Prop where
 good:GoodA a
 div:DivOk a.cl 255
 fine:Fine a.cl
section
variable {a b:AutoL}
theorem Okf.cls (h:Okf a):∀ s∈a.cl,FineS s:=fun s hs=>by
 obtain⟨i,hi⟩:=List.getElem?_of_mem hs;refine⟨Gc (h.div.set s hs).1,fun x hx=>((h.div.symb hi).1 hx).1,fun x y hxy=>?_⟩;have e:=h.fine x y hxy;have hx:Sy 255 x/\Sy 255 y:=by unfold Alike at hxy;simp only[Sy];omega
 rw[Bool.eq_iff_iff,h.div.symb hi,h.div.symb hi,e];exact⟨fun g=>⟨hx.2,g.2⟩,fun g=>⟨hx.1,g.2⟩⟩
theorem Okf.few (h:Okf a):a.cl.length<=6:=by
 have:=Ar (List.range a.cl.length) (brks.map (clIx a.cl)) List.nodup_range fun c hc=>by
  obtain⟨x,hx,e⟩:=G7 h.div c (mem_range.1 hc);rw[mem_map];simp only[Sy]at hx;by_cases h1:x<=96
  ·exact⟨0,by simp[brks],by rw[<- e];exact h.fine 0 x (.inl (by omega))⟩
  ·by_cases h2:101<=x
   ·exact⟨101,by simp[brks],by rw[<- e];exact h.fine 101 x (.inr (by omega))⟩
   ·exact⟨x,Gl.2 (by omega),e⟩
 simpa [brks] using this
theorem Okf.lstS (h:Okf a):∀ s∈clsL a.cl (nxN a.nx) a.ac,s.length<=6:=fun s hs=>by
 obtain⟨i,hi⟩:=List.getElem?_of_mem hs;obtain⟨hk,rfl⟩:=FA hi;obtain⟨g1,g2,_⟩:=Gd (DS h.div i);refine FineS.len ⟨M0 g1.sep fun p hp=>(g1.good p hp).2.1,fun x hx=>?_,fun x y hxy=>?_⟩
 ·rw[g2]at hx;exact((Cy h.div).1 hx).1
 ·have e:=h.fine x y hxy;have hx:Sy 255 x/\Sy 255 y:=by unfold Alike at hxy;simp only[Sy];omega
  rw[g2,g2,Bool.eq_iff_iff,Cy h.div,Cy h.div,e];exact⟨fun g=>⟨hx.2,g.2⟩,fun g=>⟨hx.1,g.2⟩⟩
structure Lst (f:List Int->Bool) (r:AutoL):Prop where
 ok:Okf r
 min:(autoDA r).Min 255
 lang:∀ w,Tx 255 w->Lg (autoDA r) w=f w
theorem Lst.congr {f g:List Int->Bool}{r:AutoL} (h:Lst f r) (e:∀ w,Tx 255 w->f w=g w):Lst g r:=⟨h.ok,h.min,fun w hw=>by rw[h.lang w hw,e w hw]⟩
theorem Lst.uniq {f:List Int->Bool}{r r':AutoL} (h:Lst f r) (h':Lst f r'):r=r':=
 LV (A:=autoDA r) (top:=255) ⟨h.ok.good,h.ok.div,h.min,fun t _=>rfl⟩ ⟨h'.ok.good,h'.ok.div,h'.min,fun t ht=>by
  have:=h'.lang t ht;rw[<- h.lang t ht]at this;exact this⟩
theorem OI {B:DA}{top:Int} (hB:B.Ok top) {n:Nat} (u:Nat->List Int) (hu:∀ i,i<n->Tx top (u i)) (hi:∀ i j,i<n->j<n->B.run 0 (u i)=B.run 0 (u j)->i=j):n<=B.n:=by
 have hn:((List.range n).map fun i=>B.run 0 (u i)).Nodup:=by
  rw[List.Nodup,List.pairwise_map];refine List.Pairwise.imp_of_mem (fun {i j} h1 h2 hij e=>hij ?_) (List.nodup_range (n:=n));exact hi i j (mem_range.1 h1) (mem_range.1 h2) e
 have:=Ar _ (List.range B.n) hn fun x hx=>by
  obtain⟨i,h1,rfl⟩:=mem_map.1 hx;exact mem_range.2 (hB.run_lt _ 0 (hu i (mem_range.1 h1)) hB.pos)
 simpa using this
theorem Pt {A B:DA}{top:Int} (hA:A.Min top) (hB:B.Ok top) (hs:A.Same B top):A.n<=B.n:=by
 have ht:∀ s,∃ u,s<A.n->Tx top u/\A.run 0 u=s:=fun s=>by
  by_cases h:s<A.n
  ·obtain⟨u,hu⟩:=hA.text _ s (Nat.lt_succ_self s) h;exact⟨u,fun _=>hu⟩
  ·exact⟨[],fun h'=>absurd h' h⟩
 obtain⟨u,hu⟩:=Classical.axiomOfChoice ht;refine OI hB u (fun i hi=>(hu i hi).1) fun i j hi hj e=>?_;apply Classical.byContradiction;intro hij;obtain⟨w,hw,g⟩:=hA.dist i j hi hj hij;apply g;obtain⟨a1,a2⟩:=hu i hi;obtain⟨b1,b2⟩:=hu j hj;have s1:=hs _ (Ck a1 hw);have s2:=hs _ (Ck b1 hw);rw[DA.run_app,DA.run_app,a2]at s1;rw[DA.run_app,DA.run_app,b2]at s2;rw[s1,s2,e]
theorem Okf.least (h:Okf a):∃ r,lstW a=(r,0)/\Lst (Lg (autoDA a)) r/\r.nx.length<=a.nx.length:=by
 have hsm:=h.lstS;have hsm':∀ s∈clsL a.cl (nxN a.nx) a.ac,s.length<=64:=fun s hs=>by have:=hsm s hs;omega
 have hl:=M3 h.good h.div hsm';refine⟨lstA a,?_,⟨⟨hl.good,hl.div,fun x y hxy=>?_⟩,hl.min,fun w hw=>hl.same w hw⟩,?_⟩
 ·unfold lstW;rw[if_neg];simp only[List.any_eq_true,decide_eq_true_eq,not_exists,not_and];intro s hs;have:=hsm s hs;omega
 ·have hx:Sy 255 x/\Sy 255 y:=by unfold Alike at hxy;simp only[Sy];omega
  have hd:=(MQ h.good h.div hsm').2;show clIx (clsL a.cl (nxN a.nx) a.ac) x=clIx (clsL a.cl (nxN a.nx) a.ac) y;rw[hd x hx.1,hd y hx.2,h.fine x y hxy]
 ·exact Pt hl.min (Ch h.good h.div) hl.same
theorem Okf.not (h:Okf a):Okf (notA a):=⟨IF h.good,h.div,h.fine⟩
theorem MJ:∀(w:List Int) (s:Nat),(autoDA (notA a)).run s w=(autoDA a).run s w
 | [],_=>rfl
 | x::w,s=>MJ w _
theorem Okf.notL (h:Okf a) {w:List Int} (hw:Tx 255 w):Lg (autoDA (notA a)) w = !Lg (autoDA a) w:=by
 have hok:=Ch h.good h.div;have hlt:=hok.run_lt w 0 hw hok.pos;have hlt':(autoDA a).run 0 w<a.ac.length:=by rw[h.good.ac];exact hlt
 unfold Lg;rw[MJ];show (a.ac.map fun b=>!b)[(autoDA a).run 0 w]?.getD false = !(a.ac[(autoDA a).run 0 w]?.getD false);simp[hlt']
theorem Okf.split (ha:Okf a) (hb:Okf b):∃ C,splitW a b=some C/\Fine C:=by
 have hbw:=Ma ha.good ha.div hb.good hb.div;have htp:=ha.div.topL_eq.2;have hS:∀ s∈a.cl++b.cl,FineS s:=fun s hs=>by
  rcases mem_append.1 hs with h|h
  ·exact ha.cls s h
  ·exact hb.cls s h
 have hV:∀ s∈a.cl++b.cl,SetV s:=fun s hs=>(Ep (Ij hbw s hs)).1;have h1:=ha.few;have h2:=hb.few;have hE:=Dj (L:=a.cl++b.cl) (top:=255) (by decide) hV;have hEl:(endsR (a.cl++b.cl) 255).length<=6:=by
  have hn:(endsR (a.cl++b.cl) 255).Nodup:=hE.sorted.imp fun h=>by omega
  have:=Ar _ brks hn fun x hx=>by
   rcases(D6 (by decide) hV).1 hx with rfl|⟨s,hs,p,hp,h|h,hle⟩
   ·simp[brks]
   ·rw[h];exact((hS s hs).edge hp).1
   ·rw[h];exact((hS s hs).edge hp).2 (by omega)
  simpa [brks] using this
 have hsp:splitW a b=splitA (a.cl++b.cl) (endsR (a.cl++b.cl) 255) 255:=by
  unfold splitW;rw[if_neg (by simp only[length_append];omega),htp]
 have hnb:¬ tooBig (colK (a.cl++b.cl) (endsR (a.cl++b.cl) 255) 255) (pieceA (endsR (a.cl++b.cl) 255) 255) (endsR (a.cl++b.cl) 255).length:=by
  rintro(h|⟨c,_,h⟩)
  ·have:=Ld (col:=colK (a.cl++b.cl) (endsR (a.cl++b.cl) 255) 255) (endsR (a.cl++b.cl) 255).length;omega
  ·have:=NT (col:=colK (a.cl++b.cl) (endsR (a.cl++b.cl) 255) 255) (pc:=pieceA (endsR (a.cl++b.cl) 255) 255) c (endsR (a.cl++b.cl) 255).length;omega
 have hso:=H8 hnb;refine⟨_,by rw[hsp,hso],fun x y hxy=>?_⟩;have hx:Sy 255 x/\Sy 255 y:=by unfold Alike at hxy;simp only[Sy];omega
 refine((FI (.inl rfl) hV hso).2.2.2 x y hx.1 hx.2).2 ?_;unfold colA;exact List.map_congr_left fun s hs=>(hS s hs).al x y hxy
theorem Okf.comb (op:Bool->Bool->Bool) (ha:Okf a) (hb:Okf b) (hn:a.nx.length*b.nx.length<=1024) :
  ∃ r,combW op a b=(r,0)/\Lst (fun w=>op (Lg (autoDA a) w) (Lg (autoDA b) w)) r:=by
 have hbw:=Ma ha.good ha.div hb.good hb.div;have htp:=ha.div.topL_eq.2;obtain⟨C,hC,hf⟩:=ha.split hb;obtain⟨d1,d2,d3,d4⟩:=GL hbw hC;rw[htp]at d1 d3 d4;have hR:=(FK ha.good hb.good ha.div hb.div d1).2;have hp:prodW op a b=(prodA op a b C,0):=by
  unfold prodW;rw[if_neg (by simp[hbw]),hC];simp only;rw[if_pos (by omega)]
 have hok:Okf (prodA op a b C):=⟨IB op ha.good hb.good ha.div hb.div d1 d2 (by omega),d1,hf⟩;obtain⟨r,e,hl,_⟩:=hok.least;refine⟨r,?_,hl.congr fun w hw=>Mx op ha.good hb.good ha.div hb.div d1 d3 d4 hw⟩;unfold combW;rw[hp];simp only;rw[if_neg (by simp),e]
theorem Lst.one {f:List Int->Bool}{r:AutoL}{v:Bool} (h:Lst f r) (hc:∀ w,Tx 255 w->f w=v):r.nx.length=1/\r.ac=[v]:=by
 have hp:=h.ok.good.pos;have hac:=h.ok.good.ac;have hn:r.nx.length=1:=by
  apply Classical.byContradiction;intro hne;have h1:1<(autoDA r).n:=by show 1<r.nx.length;omega
  obtain⟨w,hw,g⟩:=h.min.dist 0 1 (by show 0<r.nx.length;omega) h1 (by decide);obtain⟨u,hu,e⟩:=h.min.text 2 1 (by decide) h1;have l1:=h.lang w hw;have l2:=h.lang (u++w) (Ck hu hw);unfold Lg at l1 l2;rw[DA.run_app,e]at l2;apply g;rw[l1,l2,hc w hw,hc _ (Ck hu hw)]
 refine⟨hn,?_⟩;have l0:=h.lang [] DR;rw[hc [] DR]at l0;have l0:r.ac[0]?.getD false=v:=l0;rw[hn]at hac;obtain⟨x,hx⟩:∃ x,r.ac=[x]:=List.length_eq_one_iff.1 hac;rw[hx]at l0 |-;simp only[List.getElem?_cons_zero,getD_some]at l0;rw[l0]
end
end Go.Ev
namespace Go.Ev
def boolsU:Nat->List (List Bool)
 | 0=>[[]]
 | n+1=>(boolsU n).map (fun l=>false::l)++(boolsU n).map (fun l=>true::l)
theorem Bd:∀ {n:Nat}{l:List Bool},l∈boolsU n↔l.length=n
 | 0,l=>by simp[boolsU]
 | n+1,l=>by
   rw[boolsU,mem_append,mem_map,mem_map];constructor
   ·rintro(⟨t,ht,rfl⟩|⟨t,ht,rfl⟩)<;>simp[Bd.1 ht]
   ·intro h;cases l with
    | nil=>simp at h
    | cons v t=>
      have ht:=Bd.2 (show t.length=n by simpa using h);cases v
      ·exact .inl ⟨t,ht,rfl⟩
      ·exact .inr ⟨t,ht,rfl⟩
theorem HN:∀ n,(boolsU n).length=2 ^ n
 | 0=>rfl
 | n+1=>by
   rw[boolsU,length_append,length_map,length_map,HN n,Nat.pow_succ];omega
def revStep (a:AutoL) (x:List Bool) (c:Nat):List Bool:=(List.range a.nx.length).map fun s=>x[stepC a.nx s c]?.getD false
def revR (a:AutoL):List (List Bool):=bfs (fun x=>(List.range a.cl.length).map (revStep a x)) ((boolsU a.nx.length).length+1) 0 [a.ac]
def revA (a:AutoL):AutoL:=exA a.cl a.cl.length (revStep a) (fun x=>x[0]?.getD false) (revR a)
def revW (a:AutoL):AutoL×Int:=if(revR a).length<=1024 then lstW (revA a) else(zA,4)
section
variable {a b:AutoL}{top:Int}
theorem DV (a:AutoL) (x:List Bool) (c:Nat):(revStep a x c).length=a.nx.length:=by simp[revStep]
theorem ME (hg:GoodA a):a.ac∈boolsU a.nx.length:=Bd.2 hg.ac
theorem LF (a:AutoL):∀ x∈boolsU a.nx.length,∀ y∈(List.range a.cl.length).map (revStep a x),y∈boolsU a.nx.length:=fun x _ y hy=>by
 obtain⟨c,_,rfl⟩:=mem_map.1 hy;exact Bd.2 (DV a x c)
theorem Er (hg:GoodA a):Expl a.cl.length (revStep a) a.ac (revR a):=
 MV (U:=boolsU a.nx.length) (fun x _ c _=>Bd.2 (DV a x c)) (ME hg) rfl
theorem Ms (hg:GoodA a):(revR a).length<=2 ^ a.nx.length:=by
 have:=Ar (revR a) (boolsU a.nx.length) Gw (JF (LF a) (ME hg))
 rwa [HN]at this
theorem Oo (hg:GoodA a) {x:List Bool} (hx:x∈revR a):x.length=a.nx.length:=Bd.1 (JF (LF a) (ME hg) x hx)
theorem Iq {w:List Int} (h:Tx top w):Tx top w.reverse:=fun x hx=>h x (List.mem_reverse.1 hx)
theorem LD (hg:GoodA a) (hd:DivOk a.cl top):∀(w:List Int) (x:List Bool) (s:Nat),Tx top w->s<a.nx.length ->
  (runT (revStep a) (clIx a.cl) x w)[s]?.getD false=x[(autoDA a).run s w.reverse]?.getD false
 | [],x,s,_,_=>rfl
 | y::w,x,s,hw,hs=>by
   have hw':Tx top w:=fun z hz=>hw z (by simp[hz]);have hok:=Ch hg hd;have hlt:(autoDA a).run s w.reverse<a.nx.length:=hok.run_lt _ s (Iq hw') hs;show (runT (revStep a) (clIx a.cl) (revStep a x (clIx a.cl y)) w)[s]?.getD false=_;rw[LD hg hd w _ s hw' hs,List.reverse_cons,DA.run_app];simp only[revStep,getElem?_map,List.getElem?_range hlt,map_some,getD_some];rfl
theorem Nw (hg:GoodA a) (hd:DivOk a.cl top) {w:List Int} (hw:Tx top w):Lg (autoDA (revA a)) w=Lg (autoDA a) w.reverse:=by
 have h1:=Ia (acc:=fun x:List Bool=>x[0]?.getD false) (Er hg) rfl hd hw;unfold Lg;show (autoDA (exA a.cl a.cl.length (revStep a) (fun x=>x[0]?.getD false) (revR a))).ac _=_;rw[show revA a=exA a.cl a.cl.length (revStep a) (fun x=>x[0]?.getD false) (revR a) from rfl,h1];exact LD hg hd w _ 0 hw hg.pos
theorem GR {A:DA} (ho:A.Ok top) (hr:∀ s,0<s->s<A.n->∃ s' c',s'<s/\c'<A.m/\A.nx s' c' = s):∀ k s,s<k->s<A.n->∃ u,Tx top u/\A.run 0 u=s
 | 0,s,h1,_=>absurd h1 (by omega)
 | k+1,s,h1,h2=>by
   rcases Nat.eq_zero_or_pos s with h0|h0
   ·subst h0;exact⟨[],DR,rfl⟩
   ·obtain⟨s',c',a1,a2,a3⟩:=hr s h0 h2;obtain⟨u,b1,b2⟩:=GR ho hr k s' (by omega) (by omega);obtain⟨x,d1,d2⟩:=ho.surj c' a2;refine⟨u++[x],Ck b1 (Ky d1),?_⟩;rw[DA.run_app,b2];simp only[DA.run,d2,a3]
theorem Pp (hg:GoodA a) (hd:DivOk a.cl top) (hm:(autoDA a).Min top) {B:DA} (hB:B.Ok top) (hl:∀ w,Tx top w->Lg B w=Lg (autoDA a) w.reverse):(revR a).length<=B.n:=by
 have he:=Er hg;have hcl:∀ x,Sy top x->clIx a.cl x<a.cl.length:=fun x hx=>(hd.clIx_lt hx.1 hx.2).1;have hsj:∀ c,c<a.cl.length->∃ x,Sy top x/\clIx a.cl x=c:=fun c hc=>G7 hd c hc;have ho:=he.ok (acc:=fun x:List Bool=>x[0]?.getD false) hcl hsj;have hr:=he.reach (acc:=fun x:List Bool=>x[0]?.getD false) (cl:=clIx a.cl);have ht:∀ i,∃ u,i<(revR a).length->Tx top u/\(revR a)[i]?=some (runT (revStep a) (clIx a.cl) a.ac u):=fun i=>by
  by_cases h:i<(revR a).length
  ·obtain⟨u,hu,e⟩:=GR ho hr _ i (Nat.lt_succ_self i) h;refine⟨u,fun _=>⟨hu,?_⟩⟩;have:=he.run (acc:=fun x:List Bool=>x[0]?.getD false) hcl u 0 _ hu he.l0
   rwa [e]at this
  ·exact⟨[],fun h'=>absurd h' h⟩
 obtain⟨u,hu⟩:=Classical.axiomOfChoice ht;refine OI hB u (fun i hi=>(hu i hi).1) fun i j hi hj e=>?_;obtain⟨a1,a2⟩:=hu i hi;obtain⟨b1,b2⟩:=hu j hj;have key:∀ k,k<(revR a).length->∀ s v,s<a.nx.length->Tx top v->(autoDA a).run 0 v=s->(runT (revStep a) (clIx a.cl) a.ac (u k))[s]?.getD false=B.ac (B.run (B.run 0 (u k)) v.reverse):=fun k hk s v hs hv hv2=>by
  obtain⟨c1,c2⟩:=hu k hk;rw[LD hg hd (u k) a.ac s c1 hs,<- hv2,<- DA.run_app];have:=hl _ (Ck c1 (Iq hv));rw[List.reverse_append,List.reverse_reverse]at this;unfold Lg at this;rw[DA.run_app]at this;rw[this];rfl
 have hlen:∀ k,k<(revR a).length->(runT (revStep a) (clIx a.cl) a.ac (u k)).length=a.nx.length:=fun k hk=>Oo hg (mem_of_getElem? (hu k hk).2);have heq:runT (revStep a) (clIx a.cl) a.ac (u i)=runT (revStep a) (clIx a.cl) a.ac (u j):=by
  refine List.ext_getElem (by rw[hlen i hi,hlen j hj]) fun s h1 h2=>?_;have hs:s<a.nx.length:=by rw[<- hlen i hi];exact h1
  obtain⟨v,hv,hv2⟩:=hm.text _ s (Nat.lt_succ_self s) hs;have k1:=key i hi s v hs hv hv2;have k2:=key j hj s v hs hv hv2;rw[e,<- k2,getElem?_eq_getElem h1,getElem?_eq_getElem h2]at k1;exact k1
 rw[heq,<- b2]at a2;exact(List.getElem?_inj hi he.inv.nodup).1 a2
theorem Okf.rev (h:Okf a) (hR:(revR a).length<=1024):∃ r,revW a=(r,0)/\Lst (fun w=>Lg (autoDA a) w.reverse) r:=by
 have hok:Okf (revA a):=⟨Gx (Er h.good) rfl h.good.cl hR,h.div,h.fine⟩;obtain⟨r,e,hl,_⟩:=hok.least;refine⟨r,?_,hl.congr fun w hw=>Nw h.good h.div hw⟩;unfold revW;rw[if_pos hR,e]
end
structure Alg (a b na nb me un nn al le on:AutoL):Prop where
 ona:Okf na
 onb:Okf nb
 ome:Okf me
 oun:Okf un
 ole:Okf le
 oon:Okf on
 c1:lstW (notA a)=(na,0)
 c2:lstW (notA b)=(nb,0)
 c3:meetW na nb=(me,0)
 c4:lstW (notA me)=(un,0)
 c5:unionW a b=(un,0)
 c6:meetW a na=(nn,0)
 c7:unionW a na=(al,0)
 c8:lstW a=(le,0)
 c9:lstW le=(le,0)
 c10:revW a=(on,0)
 c11:revW on=(le,0)
 n1:nn.nx.length=1/\nn.ac=[false]
 n2:al.nx.length=1/\al.ac=[true]
 few:le.nx.length<=a.nx.length
 lang:∀ t,Tx 255 t->Lg (autoDA le) t=Lg (autoDA a) t/\Lg (autoDA on) t.reverse=Lg (autoDA a) t/\Lg (autoDA na) t=(!Lg (autoDA a) t)/\Lg (autoDA un) t=(Lg (autoDA a) t||Lg (autoDA b) t)
theorem QA {a b:AutoL} (ha:Okf a) (hb:Okf b) (ha8:a.nx.length<=8) (hb8:b.nx.length<=8):∃ na nb me un nn al le on,Alg a b na nb me un nn al le on:=by
 have mul8:∀ {x y:Nat},x<=8->y<=8->x*y<=1024:=fun {x y} hx hy=>by
  have:=Nat.mul_le_mul hx hy;omega
 obtain⟨na,c1,l1,s1⟩:=ha.not.least;obtain⟨nb,c2,l2,s2⟩:=hb.not.least;have s1:na.nx.length<=8:=Nat.le_trans s1 ha8;have s2:nb.nx.length<=8:=Nat.le_trans s2 hb8;have l1:=l1.congr fun w hw=>ha.notL hw;have l2:=l2.congr fun w hw=>hb.notL hw;obtain⟨me,c3,l3⟩:=Okf.comb (fun x y=>x&&y) l1.ok l2.ok (mul8 s1 s2);obtain⟨no,c4,l4,_⟩:=l3.ok.not.least;obtain⟨un,c5,l5⟩:=Okf.comb (fun x y=>x||y) ha hb (mul8 ha8 hb8);obtain⟨nn,c6,l6⟩:=Okf.comb (fun x y=>x&&y) ha l1.ok (mul8 ha8 s1);obtain⟨al,c7,l7⟩:=Okf.comb (fun x y=>x||y) ha l1.ok (mul8 ha8 s1);obtain⟨le,c8,l8,s8⟩:=ha.least;obtain⟨ag,c9,l9,_⟩:=l8.ok.least;have r8:=Ms ha.good;have p8:2 ^ a.nx.length<=2 ^ 8:=Nat.pow_le_pow_right (by omega) ha8;obtain⟨on,c10,l10⟩:=ha.rev (by omega);have rl:∀ w,Tx 255 w->Lg (autoDA a) w=Lg (autoDA on) w.reverse:=fun w hw=>by
  rw[l10.lang _ (Iq hw),List.reverse_reverse]
 have r11:=Pp l10.ok.good l10.ok.div l10.min (Ch ha.good ha.div) rl;have r11:(revR on).length<=a.nx.length:=r11;obtain⟨tw,c11,l11⟩:=l10.ok.rev (by omega);have e4:no=un:=(l4.congr fun w hw=>by
  rw[l3.ok.notL hw,l3.lang w hw,l1.lang w hw,l2.lang w hw];cases Lg (autoDA a) w<;>cases Lg (autoDA b) w<;>rfl).uniq l5
 have e9:ag=le:=(l9.congr fun w hw=>l8.lang w hw).uniq l8;have e11:tw=le:=(l11.congr fun w hw=>(rl w hw).symm).uniq l8;subst e4 e9 e11;refine⟨na,nb,me,no,nn,al,tw,on,l1.ok,l2.ok,l3.ok,l5.ok,l8.ok,l10.ok,c1,c2,c3,c4,c5,c6,c7,c8,c9,c10,c11,?_,?_,s8,fun t ht=>⟨l8.lang t ht,(rl t ht).symm,l1.lang t ht,l5.lang t ht⟩⟩
 ·exact l6.one fun w hw=>by rw[l1.lang w hw];cases Lg (autoDA a) w<;>rfl
 ·exact l7.one fun w hw=>by rw[l1.lang w hw];cases Lg (autoDA a) w<;>rfl
end Go.Ev
namespace Go.Ev
attribute [local go_sem] evBin AV.cells strOf Ah Ao bndO bnd evEq eqCells not_false_eq_true not_true_eq_false toList_some Array.size_empty length_append tySzE head?_drop Nat.mul_one AY Ae AU AZ Aa AS
section
abbrev bsAV (l:List Bool):AV:=.sl false (l.map AV.bool)
abbrev ksAV (l:List Bool):AV:=.str (bitsS l)
theorem Qr (n:Nat):KeyOk ksAV (fun l=>l.length=n):=by
 refine⟨fun x y hx hy h=>?_,fun x y _ _=>GD⟩;have:bitsS x=bitsS y:=by injection h
 exact NZ (hx.trans hy.symm) this
theorem Bn (L:List (List Bool)):AV.plainL (L.map bsAV)=true:=by
 induction L with
 | nil=>rfl
 | cons a l ih=>simp[AV.plainL,AV.plain,AJ,ih]
theorem DP (n:Nat):∀(i:Nat) (l:List (List Bool)),MB.underE n (entK i (l.map ksAV))=true
 | _,[]=>rfl
 | i,p::l=>by
   simp only[map_cons,entK,MB.underE,DP n (i+1) l,AV.under,AV.underL,Bool.and_self]
theorem c75 {H:List MB}{id n z:Nat}{bs:List Bool} (hr:getRow H id=some (1,bs.map AV.bool,z)) (hn:bs.length=n) (hl:n<=1000000) :
  call Pg pol1 75 [.ms id 1 n 0 n] H=some (bsAV bs,H):=by
 rw[Bb];unfold evStep;have ha:((bs.map AV.bool).all fun y=>decide (y.cells.length=1)&&y.cells.all AV.ok)=true:=by
  rw[all_eq_true];intro y hy;obtain⟨i,_,rfl⟩:=mem_map.1 hy;rfl
 have he:elemsOf H (.ms id 1 n 0 n)=some (bs.map AV.bool):=by
  simp only[elemsOf,hr,length_map,hn,List.drop_zero];rw[take_of_length_le (by simp;omega)];simp
 have hx:cloneExt 1 1 [.ms id 1 n 0 n] H=some (bsAV bs,H):=by
  simp only[cloneExt,he];rw[if_pos ⟨ha,AS (by rw[length_map];omega) (by omega),AJ _⟩];cases H with
  | nil=>simp[getRow]at hr
  | cons b H=>rfl
 rw[if_neg (show ¬ pol1.pure 75=true by decide)];exact hx
theorem P6 {H:List MB}{i n z:Nat}{rs:List AV}{x:AV}{t:Bool} (hi:getRow H i=some (1,rs,z)) (hz:z<=n) (hn:rs.length=n) (hr:n+1<=4000000000) (hx:x.cells=[x]) (ho:x.ok=true) :
  evAppend Pg H 131 131 (.ms i 1 n 0 n) (.sl t [x])=some (.ms i 1 (n+1) 0 (n+1),H.set i (.row 1 (rs++[x]) z)):=by
 have hs:srcElems Pg H 40 (.sl t [x])=some [x]:=rfl;rw[Al (e:=40) (by kernel_rfl) (by kernel_rfl) (k:=1) (by kernel_rfl) (by_:=24) (by kernel_rfl) (ze:=.sl true []) (by kernel_rfl) rfl (by omega) hs (by simp[hx,ho]) hi hn hz (AS (by simp;omega) (by omega))];rfl
theorem f30e (a:AutoL) (hb:AutoB a) (hv:¬ validW (dividesA a.cl) a=0) (H:List MB):call Pg pol1 30 [autoAV a] H=some (pairAV (zA,validW (dividesA a.cl) a),H):=by
 have hpl:=Ac a;have h18:=f18 a hb;refine AQ Tryz.func30 rfl rfl rfl rfl rfl rfl (fun _=>rfl) (by simp only[AV.plainL,hpl];rfl) (Ax _) ?_ H;unfold pairAV;obtain⟨cl,nx,ac⟩:=a;simp +contextual (disch:=omega) only[Tryz.f30,dd30,go_sem,simprocAttr,evAppend,map_append,mu30,↓AE,↓AD,↓AC,↓AA,h18,hv];exact⟨_,rfl⟩
theorem f30v (a:AutoL) (hb:AutoB a) (hg:GoodA a) {top:Int} (hd:DivOk a.cl top) (H:List MB):call Pg pol1 30 [autoAV a] H=some (pairAV (revW a),H):=by
 have h18:=f18 a hb;rw[CW hg hd]at h18;have hpp:=Ax (revW a);have hplA:=Ac a;have hacl:=hg.ac;have hnx:=hg.nx;have hncl:=hg.cl;have hpos:=hg.pos;rw[F8 hg]at *;obtain⟨N,hN⟩:∃ N,nxN a.nx=N:=⟨_,rfl⟩;obtain⟨n,hn⟩:∃ n,a.nx.length=n:=⟨_,rfl⟩;obtain⟨m,hm⟩:∃ m,a.cl.length=m:=⟨_,rfl⟩;have hNl:N.length=n:=by rw[<- hN,<- hn];simp[nxN]
 have hrows:=E0 hg;have hst0:∀ s c,nxf N s c=stepC a.nx s c:=fun s c=>by rw[<- hN];exact Dy a.nx s c
 rw[hN]at h18 hrows hplA |-;rw[hm]at hrows hncl;rw[hn]at hacl hnx hpos;rw[hNl]at hrows;have hroomN:roomFor (n:Int).toNat 1=true:=AS (by omega) (by omega);have hroomM:roomFor (m:Int).toNat 8=true:=AS (by omega) (by omega);obtain⟨R,hR⟩:∃ R,revR a=R:=⟨_,rfl⟩;obtain⟨RES,hRES⟩:∃ RES,pairAV (revW a)=RES:=⟨_,rfl⟩;have hbad:1024<R.length->RES=.tup [.agg [.sl false [],.sl false [],.sl false []],I 4]:=fun h=>by
  rw[<- hRES];unfold revW;rw[hR,if_neg (by omega)];rfl
 have hok:R.length<=1024->∀ H,call Pg pol1 60 [autoN a.cl (R.map (exRow m (revStep a) R)) (R.map fun x=>x[0]?.getD false)] H=some (RES,H):=fun h H=>by
  have h1:=f60L (a:=revA a) (Gx (Er hg) rfl hg.cl (by rw[hR];exact h)) hd H;have h2:revW a=lstW (revA a):=by unfold revW;rw[hR,if_pos h]
  rw[<- hRES,h2,<- h1];unfold revA exA;rw[F5,hR,hm]
 rw[hRES]at hpp |-;unfold revR at hR;rw[hm,hn]at hR;refine AQ Tryz.func30 rfl rfl rfl rfl rfl rfl (fun _=>rfl) (by simp[AV.plainL,AV.plain,AM,AP,AJ]) hpp ?_ H;have h74:=f74 a.ac (by omega);simp +contextual (disch:=omega) only[Tryz.f30,dd30,go_sem,simprocAttr,evAppend,map_append,mu30,↓AE,↓AD,↓AC,↓AA,h18,h74,hNl,hroomN];obtain⟨rowF,hrowF⟩:∃ f,exRow m (revStep a) R=f:=⟨_,rfl⟩;obtain⟨acF,hacF⟩:∃ f:List Bool->Bool,(fun x=>x[0]?.getD false)=f:=⟨_,rfl⟩;rw[hrowF,hacF]at hok;have hU0:=ME hg;have hUf:=LF a;have hUn:∀ x∈boolsU n,x.length=n:=fun x hx=>Bd.1 hx;have hstl:∀ x c,(revStep a x c).length=n:=fun x c=>by rw[DV];exact hn
 have hstg:∀ x c s,s<n->(revStep a x c)[s]?=some (x[stepC a.nx s c]?.getD false):=fun x c s hs=>by simp[revStep,hn,hs]
 rw[hn]at hU0 hUf;rw[hm]at hUf;have hnx0:∀ s c,s<n->c<m->∃ r t,N[s]?=some r/\r[c]?=some t/\stepC a.nx s c=t/\t<n:=fun s c hs hc=>by
  obtain⟨r,t,a1,a2,a3,a4⟩:=hrows.nxf_lt (s:=s) (by omega) hc;exact⟨r,t,a1,a2,by rw[<- hst0];exact a3,a4⟩
 generalize revStep a=st at *;generalize boolsU n=U at *;have hS0:ExI (fun x=>(List.range m).map (st x)) U R 0 [a.ac]:=by rw[<- hR];exact ExI.start hU0
 clear hR hst0;have hEp:=fun(n:Nat) (X:List (List Bool))=>DP n 0 X;refine ER (σ:=Nat×List (List Bool)×List Bool) (M:=(mskOf (pol1.mask 30) (pol1.gc 30) (pol1.acts 30) 0 9)) rfl (fun x=>(⟨125,[(9,I x.1),(8,.ms 7 1 n 0 n),(7,.rf 4 1 0 0),(6,.mpr 3),(5,.ms 2 1 x.2.1.length 0 x.2.1.length),(2,.rf 1 1 0 0),(1,.rf 0 1 0 0)],[.row 3 [autoN a.cl N a.ac] 0,.row 3 [E3] 0,.row 1 (x.2.1.map bsAV) 0,.mp .str (entK 0 (x.2.1.map ksAV)),.row 3 [.agg [.sl false (a.cl.map setAV9),.ms 5 1 x.1 0 x.1,.ms 6 1 x.1 0 x.1]] 0,.row 1 (((x.2.1.take x.1).map rowF).map nsAV) 0,.row 1 (((x.2.1.take x.1).map acF).map AV.bool) 0,.row 1 (x.2.2.map AV.bool) 0]⟩:St)) (fun x=>ExI (fun x=>(List.range m).map (st x)) U R x.1 x.2.1/\x.2.1.length<=1024/\x.2.2.length=n) (fun x=>U.length-x.1) (0,[a.ac],List.replicate n false) ?_ ⟨hS0,by simp,by simp⟩ _ ?_
 ·rintro⟨i,l,S0⟩ ⟨hI,hl1,hS0l⟩;simp only at hI hl1 hS0l;by_cases hi:i<l.length
  ·obtain⟨p,hp⟩:∃ p,l[i]?=some p:=⟨_,getElem?_eq_getElem hi⟩;have hpU:=hI.inU p (mem_of_getElem? hp);have hpn:=hUn p hpU;have hst:=hI.step hUf hp;obtain⟨mR,hmR⟩:=hst.pre;simp +contextual (disch:=omega) only[Tryz.f30,dd30,go_sem,simprocAttr,evAppend,map_append,mu30,↓AE,↓AD,↓AC,↓AA,hm,hroomM];have hrl1:(rowF p).length=m:=by rw[<- hrowF];simp[exRow]
   have hrg:∀ c,c<m->(rowF p)[c]?=some (ixOf R (st p c)):=fun c hc=>by rw[<- hrowF];exact IZ hc
   have hfg:∀ c,c<m->((List.range m).map (st p))[c]?=some (st p c):=fun c hc=>by simp[hc]
   have hfl:((List.range m).map (st p)).length=m:=by simp
   have hpre:=DM l ((List.range m).map (st p));have hnd:=hI.nodup;have hlU:=hI.inU;have hdx:=Ab hp;have htl:(l.take i).length=i:=by rw[List.length_take];omega
   have hIl:=hI.le;have hFU:=hUf p hpU;obtain⟨F,hF⟩:∃ F,(List.range m).map (st p)=F:=⟨_,rfl⟩;rw[hF]at hfg hfl hpre;simp only[hF]at hst hmR hFU;generalize hrow1:rowF p=rw1 at *;generalize l.take i=LT at *;have hApre:=A6 F l;obtain⟨LR,hLR⟩:∃ LR,LT.map rowF=LR:=⟨_,rfl⟩;obtain⟨LA,hLA⟩:∃ LA,LT.map acF=LA:=⟨_,rfl⟩;rw[hLR,hLA];obtain⟨SJ,hSJ0,hSJs,hSJl⟩:∃ SJ:Nat->List Bool,SJ 0=S0/\(∀ j,SJ (j+1)=st p j)/\∀ j,(SJ j).length=n:=by
    refine⟨fun j=>match j with
     | 0=>S0
     | j+1=>st p j,rfl,fun j=>rfl,fun j=>?_⟩
    cases j with
    | zero=>exact hS0l
    | succ j=>exact hstl p j
   rw[<- hSJ0];refine AR (M:=(mskOf (pol1.mask 30) (pol1.gc 30) (pol1.acts 30) 0 13)) rfl m (fun j=>(⟨125,[(49,I j),(48,I m),(10,.ms 8 1 m 0 m),(9,I i),(8,.ms 7 1 n 0 n),(7,.rf 4 1 0 0),(6,.mpr 3),(5,.ms 2 1 (addAll l (F.take j)).length 0 (addAll l (F.take j)).length),(2,.rf 1 1 0 0),(1,.rf 0 1 0 0)],[.row 3 [autoN a.cl N a.ac] 0,.row 3 [E3] 0,.row 1 ((addAll l (F.take j)).map bsAV) 0,.mp .str (entK 0 ((addAll l (F.take j)).map ksAV)),.row 3 [.agg [.sl false (a.cl.map setAV9),.ms 5 1 i 0 i,.ms 6 1 i 0 i]] 0,.row 1 (LR.map nsAV) 0,.row 1 (LA.map AV.bool) 0,.row 1 ((SJ j).map AV.bool) 0,.row 1 ((rw1.take j++List.replicate (m-j) 0).map NV) 0]⟩:St)) (fun j=>(addAll l (F.take j)).length<=1024) ?_ ?_ (by rw[List.take_zero];exact hl1) _ ?_
   ·intro j hj hle;have hFj:=hfg j hj;have hrj:=hrg j hj;have hsn:=Dt l (F.take j) (st p j);rw[<- Ab hFj]at hsn;have hp1:=hpre j;have hp2:=hpre (j+1);have hnA:(addAll l (F.take j)).Nodup:=Ay _ _ hnd;have hAi:(addAll l (F.take j))[i]?=some p:=by
     obtain⟨mm,e⟩:=A6 (F.take j) l;rw[e,List.getElem?_append_left hi];exact hp
    have hAn:∀ x∈addAll l (F.take j),x.length=n:=fun x hx=>by
     rcases(Be _ _ _).1 hx with h|h
     ·exact hUn x (hlU x h)
     ·exact hUn x (hFU x (List.mem_of_mem_take h))
    have hTl:=hstl p j;have hTg:=fun s (hs:s<n)=>hstg p j s hs;have hXl:=hSJl j;rw[hSJs j];have hfs:=BP (z:=0) hrl1 hrj;have hfl2:=BQ (A:=rw1) (z:=0) hrl1 (i:=j) (by omega);rw[<- hfs];rw[hsn]at hp2 |-;generalize st p j=T at *;generalize SJ j=X0 at *;generalize addAll l (F.take j)=A at *;generalize rw1.take j++List.replicate (m-j) 0=X at *;have hAi':(A.map bsAV)[i]?=some (bsAV p):=by simp[hAi]
    have hAil:=getElem?_ne_none hAi;simp +contextual (disch:=omega) only[Tryz.f30,dd30,go_sem,simprocAttr,evAppend,map_append,mu30,↓AE,↓AD,↓AC,↓AA,hNl];refine AR (M:=(mskOf (pol1.mask 30) (pol1.gc 30) (pol1.acts 30) 0 16)) rfl n (fun s=>(⟨125,[(54,I s),(53,I n),(49,I j),(48,I m),(11,I j),(10,.ms 8 1 m 0 m),(9,I i),(8,.ms 7 1 n 0 n),(7,.rf 4 1 0 0),(6,.mpr 3),(5,.ms 2 1 A.length 0 A.length),(2,.rf 1 1 0 0),(1,.rf 0 1 0 0)],[.row 3 [autoN a.cl N a.ac] 0,.row 3 [E3] 0,.row 1 (A.map bsAV) 0,.mp .str (entK 0 (A.map ksAV)),.row 3 [.agg [.sl false (a.cl.map setAV9),.ms 5 1 i 0 i,.ms 6 1 i 0 i]] 0,.row 1 (LR.map nsAV) 0,.row 1 (LA.map AV.bool) 0,.row 1 ((T.take s++X0.drop s).map AV.bool) 0,.row 1 (X.map NV) 0]⟩:St)) (fun s=>True) ?_ ?_ trivial _ ?_
    ·intro s hs _;obtain⟨r,t,a1,a2,a3,a4⟩:=hnx0 s j hs hj;have hTs:=hTg s hs;rw[a3]at hTs;obtain⟨v,hv⟩:∃ v,p[t]?=some v:=⟨_,getElem?_eq_getElem (by omega)⟩;rw[hv,getD_some]at hTs;have a1':(N.map nsAV)[s]?=some (nsAV r):=by simp[a1]
     have a2':(r.map NV)[j]?=some (NV t):=by simp[a2]
     have hv':(p.map AV.bool)[t]?=some (.bool v):=by simp[hv]
     have hf2:=CC hTl hXl hTs;have hf2l:=D4 hTl hXl (i:=s) (by omega);rw[<- hf2];generalize T.take s++X0.drop s=Y at *;obtain⟨y,hy⟩:∃ y,Y[s]?=some y:=⟨_,getElem?_eq_getElem (by omega)⟩;have hy':(Y.map AV.bool)[s]?=some (.bool y):=by simp[hy]
     have hset:(Y.map AV.bool).set s (.bool v)=(Y.set s v).map AV.bool:=by rw[map_set]
     simp +contextual (disch:=omega) only[Tryz.f30,dd30,go_sem,simprocAttr,evAppend,map_append,mu30,↓AE,↓AD,↓AC,↓AA,hAi',a1',a2',hv',hf2l,hy',hset];refine⟨by unfold dOk;kernel_rfl,?_⟩;generalize Y.set s v=Y2;exact(by first|rfl|(refine AN rfl (by rfl) (by rfl) (by rfl) ?_ ?_<;>simp[AV.underL,AV.under,MB.under,AG,AI,AF,AH,AK,AL,-map_take,AM,AP,AJ,AO,hEp,Bn]))
    ·intro _;rw[D5 hTl hXl];have hkey:=(Qr n).find (os:=A) hAn hnA (x:=T) hTl;have h74T:=f74 T (by omega);have hth:=fun(b0 b1 b2 b3 b4 b5 b6 b8:MB)=>GH (f:=74) (z:=0) (H:=[b0,b1,b2,b3,b4,b5,b6,.row 1 (T.map AV.bool) 0,b8]) (id:=7) (k:=1) (n:=n) (els:=T.map AV.bool) (r:=.str (bitsS T)) rfl (by simp[hTl]) (h74T []) rfl (Nk _);obtain⟨y,hy⟩:∃ y,X[j]?=some y:=⟨_,getElem?_eq_getElem (by omega)⟩;have hy':(X.map NV)[j]?=some (NV y):=by simp[hy]
     obtain⟨m1,hp1⟩:=hp1;have hmR0:=hmR;rw[hp1,List.append_assoc]at hmR;by_cases hm2:T∈A
     ·rw[if_pos hm2];have hk1:findMp (.str (bitsS T)) (entK 0 (A.map ksAV))=some (NV (ixOf A T)):=hkey.1 hm2;have hix:ixOf R T=ixOf A T:=MR hmR hm2;rw[hix]at hrj |-;generalize ixOf A T=u at *;have hset:(X.map NV).set j (NV u)=(X.set j u).map NV:=by rw[map_set]
      simp +contextual (disch:=omega) only[Tryz.f30,dd30,go_sem,simprocAttr,evAppend,map_append,mu30,↓AE,↓AD,↓AC,↓AA,hth,hk1,hfl2,hy',hset];generalize X.set j u=X2;exact(by first|rfl|(refine AN rfl (by rfl) (by rfl) (by rfl) ?_ ?_<;>simp[AV.underL,AV.under,MB.under,AG,AI,AF,AH,AK,AL,-map_take,AM,AP,AJ,AO,hEp,Bn]))
     ·rw[if_neg hm2]at hp2 |-;obtain⟨m2,hp2⟩:=hp2;rw[hp2]at hmR0;rw[List.append_assoc]at hmR0;have hRl:A.length+1<=R.length:=by rw[hmR0];simp
      have hkk:findMp (.str (bitsS T)) (entK 0 (A.map ksAV))=none/\updMp (.str (bitsS T)) (NV A.length) (entK 0 (A.map ksAV))=entK 0 ((A++[T]).map ksAV):=hkey.2 hm2;obtain⟨hk1,hk2⟩:=hkk;have hix:ixOf R T=A.length:=MS hmR0 hm2;rw[hix]at hrj |-;by_cases hfull:A.length=1024
      ·have hfi:(A.length:Int)=1024:=by omega
       rw[hbad (by omega)];simp +contextual (disch:=omega) only[Tryz.f30,dd30,go_sem,simprocAttr,evAppend,map_append,mu30,↓AE,↓AD,↓AC,↓AA,hth,hk1,hfi];exact⟨_,rfl⟩
      ·have hfi:¬ (A.length:Int)=1024:=by omega
       have hset:(X.map NV).set j (NV A.length)=(X.set j A.length).map NV:=by rw[map_set]
       have hlen:(A++[T]).length=A.length+1:=by simp
       have hAm:(A.map bsAV).length=A.length:=by simp
       have a1:=fun(b0 b1 b3 b4 b5 b6 b7 b8:MB) (t:Bool)=>P6 (H:=[b0,b1,.row 1 (A.map bsAV) 0,b3,b4,b5,b6,b7,b8]) (i:=2) (n:=A.length) (x:=bsAV T) (t:=t) rfl (Nat.zero_le _) hAm (by omega) rfl rfl;simp only[List.set_cons_succ,List.set_cons_zero]at a1;have h75:=fun(b0 b1 b2 b3 b4 b5 b6 b8:MB)=>c75 (H:=[b0,b1,b2,b3,b4,b5,b6,.row 1 (T.map AV.bool) 0,b8]) (id:=7) (n:=n) (z:=0) (bs:=T) rfl hTl (by omega);rw[hlen];simp +contextual (disch:=omega) only[Tryz.f30,dd30,go_sem,simprocAttr,mu30,↓AE,↓AD,↓AC,↓AA,hth,hk1,hk2,hfi,h75,a1,hfl2,hy',hset];have e9:A.map bsAV++[bsAV T]=(A++[T]).map bsAV:=by rw[map_append];rfl
       rw[e9];generalize X.set j A.length=X2;generalize hA2:A++[T]=A2;rw[hA2]at hlen;rw[<- hlen];exact(by first|rfl|(refine AN rfl (by rfl) (by rfl) (by rfl) ?_ ?_<;>simp[AV.underL,AV.under,MB.under,AG,AI,AF,AH,AK,AL,-map_take,AM,AP,AJ,AO,hEp,Bn]))
    ·rw[List.take_zero,List.drop_zero,List.nil_append];exact(by first|rfl|(refine AN rfl (by rfl) (by rfl) (by rfl) ?_ ?_<;>simp[AV.underL,AV.under,MB.under,AG,AI,AF,AH,AK,AL,-map_take,AM,AP,AJ,AO,hEp,Bn]))
   ·intro hle;rw[show F.take m=F from take_of_length_le (by omega)]at hle |-;rw[show rw1.take m=rw1 from take_of_length_le (by omega),Nat.sub_self,List.replicate_zero,List.append_nil];have hAt:(addAll l F).take (i+1)=LT++[p]:=by
     obtain⟨mm,e⟩:=hApre;rw[e,List.take_append_of_le_length (by omega)];exact hdx
    have hAi:(addAll l F)[i]?=some p:=by
     obtain⟨mm,e⟩:=hApre;rw[e,List.getElem?_append_left hi];exact hp
    have hXl:=hSJl m;generalize addAll l F=A at *;generalize SJ m=X0 at *;have hAil:=getElem?_ne_none hAi;have hAi':(A.map bsAV)[i]?=some (bsAV p):=by simp[hAi]
    have hAm:(LR.map nsAV).length=i:=by rw[length_map,<- hLR,length_map];exact htl
    have hBm:LA.length=i:=by rw[<- hLA,length_map];exact htl
    obtain⟨v,hv⟩:∃ v,p[0]?=some v:=⟨_,getElem?_eq_getElem (by omega)⟩;have hv':(p.map AV.bool)[0]?=some (.bool v):=by simp[hv]
    have hacp:acF p=v:=by rw[<- hacF];simp only[hv,getD_some]
    have hfR:(A.take (i+1)).map rowF=LR++[rw1]:=by rw[hAt,map_append,hLR,map_cons,hrow1];rfl
    have hfA:(A.take (i+1)).map acF=LA++[v]:=by rw[hAt,map_append,hLA,map_cons,hacp];rfl
    have a1:=fun(b0 b1 b2 b3 b4 b6 b7 b8:MB) (t:Bool)=>Mc (H:=[b0,b1,b2,b3,b4,.row 1 (LR.map nsAV) 0,b6,b7,b8]) (i:=5) (n:=i) (x:=.ms 8 1 m 0 m) (t:=t) rfl (Nat.zero_le _) hAm (by omega) rfl rfl;have a2:=fun(b0 b1 b2 b3 b4 b5 b7 b8:MB) (t:Bool)=>Mf (H:=[b0,b1,b2,b3,b4,b5,.row 1 (LA.map AV.bool) 0,b7,b8]) (i:=6) (n:=i) (x:=v) (t:=t) rfl (Nat.zero_le _) hBm (by omega);simp only[List.set_cons_succ,List.set_cons_zero]at a1 a2;have hz:∀ b0 b1 b2 b3 b4 b5 b6 b7:MB,fzs (LR.map nsAV++[.ms 8 1 m 0 m]) [b0,b1,b2,b3,b4,b5,b6,b7,.row 1 (rw1.map NV) 0]=some (LR.map nsAV++[nsAV rw1],[b0,b1,b2,b3,b4,b5,b6,b7,.row 1 (rw1.map NV) m]):=fun b0 b1 b2 b3 b4 b5 b6 b7=>by
     refine De ?_ _ (AP LR);have:=DD (id:=8) (z:=0) (H:=[b0,b1,b2,b3,b4,b5,b6,b7,.row 1 (rw1.map NV) 0]) rfl hrl1;unfold fz at this;rw[this];simp[mark,getRow]
    have hbq:=AV.beqL_refl (LR.map nsAV++[.ms 8 1 m 0 m]);simp +contextual (disch:=omega) only[Tryz.f30,dd30,go_sem,simprocAttr,mu30,↓AE,↓AD,↓AC,↓AA,a1,hz,hbq,hAi',hv',a2];repeat' (first|intro _|apply And.intro|(unfold dOk;kernel_rfl)|exact St.beq_refl _|exact Aq|(show altO _ _ _ _=true;kernel_rfl)|(show (_||_)=true;kernel_rfl)|(show (_&&_)=true;kernel_rfl))
    refine⟨(i+1,A,X0),⟨hst,hle,hXl⟩,?_,?_⟩
    ·have:=Ar l U hnd hlU;simp only;omega
    ·simp only;rw[hfR,hfA];have e9:LR.map nsAV++[nsAV rw1]=(LR++[rw1]).map nsAV:=by rw[map_append];rfl
     rw[e9];generalize LR++[rw1]=LR2;generalize LA++[v]=LA2;exact(by first|rfl|(refine AN rfl (by rfl) (by rfl) (by rfl) ?_ ?_<;>simp[AV.underL,AV.under,MB.under,AG,AI,AF,AH,AK,AL,-map_take,AM,AP,AJ,AO,hEp,Bn]))
   ·rw[List.take_zero,List.take_zero,Nat.sub_zero,List.nil_append];have hrp:=AO (List.replicate m 0);rw[map_replicate]at hrp |-;exact(by first|rfl|(refine AN rfl (by rfl) (by rfl) (by rfl) ?_ ?_<;>simp[AV.underL,AV.under,MB.under,AG,AI,AF,AH,AK,AL,-map_take,AM,AP,AJ,AO,hEp,Bn,hrp]))
  ·have hRe:=hI.fin hi;have hok:=hok (by rw[<- hRe];exact hl1);rw[<- hRe]at hok;have hi2:¬ (i:Int)<(l.length:Int):=by omega
   have hil:i=l.length:=by
    have hle2:i<=l.length:=hI.le;omega
   rw[show l.take i=l from take_of_length_le (by omega)];have hAm:(l.map rowF).length=i:=by rw[length_map];omega
   have hBm:(l.map acF).length=i:=by rw[length_map];omega
   generalize l.map rowF=LR at *;generalize l.map acF=LA at *;obtain⟨q,hq⟩:∃ q,revW a=q:=⟨_,rfl⟩;rw[hq]at hRES;obtain⟨r,e⟩:=q;unfold pairAV at hRES;simp only at hRES;rw[<- hRES]at hok hpp |-;have hz:∀ b0 b1 b2 b3 b4 b7:MB,fz (.agg [.sl false (a.cl.map setAV9),.ms 5 1 i 0 i,.ms 6 1 i 0 i]) [b0,b1,b2,b3,b4,.row 1 (LR.map nsAV) 0,.row 1 (LA.map AV.bool) 0,b7]=some (autoN a.cl LR LA,[b0,b1,b2,b3,b4,.row 1 (LR.map nsAV) i,.row 1 (LA.map AV.bool) i,b7]):=fun b0 b1 b2 b3 b4 b7=>by
    have h3:=As (id:=5) (k:=1) (z:=0) (tot:=i) (H:=[b0,b1,b2,b3,b4,.row 1 (LR.map nsAV) 0,.row 1 (LA.map AV.bool) 0,b7]) rfl (by simp[hAm]) (AP LR);have h4:=As (id:=6) (k:=1) (z:=0) (tot:=i) (H:=[b0,b1,b2,b3,b4,.row 1 (LR.map nsAV) i,.row 1 (LA.map AV.bool) 0,b7]) rfl (by simp[hBm]) (AJ LA);have hm5:mark [b0,b1,b2,b3,b4,.row 1 (LR.map nsAV) 0,.row 1 (LA.map AV.bool) 0,b7] 5 i=[b0,b1,b2,b3,b4,.row 1 (LR.map nsAV) i,.row 1 (LA.map AV.bool) 0,b7]:=by simp[mark,getRow]
    have hm6:mark [b0,b1,b2,b3,b4,.row 1 (LR.map nsAV) i,.row 1 (LA.map AV.bool) 0,b7] 6 i=[b0,b1,b2,b3,b4,.row 1 (LR.map nsAV) i,.row 1 (LA.map AV.bool) i,b7]:=by simp[mark,getRow]
    rw[hm5]at h3;rw[hm6]at h4;exact E6 (Ap _ (by simp[AV.plain,AM])) h3 h4
   have c60:=fun b0 b1 b2 b3 b4 b7:MB=>A3 (P:=Pg) (pol:=pol1) (f:=60) (args:=[.agg [.sl false (a.cl.map setAV9),.ms 5 1 i 0 i,.ms 6 1 i 0 i]]) (l:=[autoN a.cl LR LA]) (H:=[b0,b1,b2,b3,b4,.row 1 (LR.map nsAV) 0,.row 1 (LA.map AV.bool) 0,b7]) (H1:=[b0,b1,b2,b3,b4,.row 1 (LR.map nsAV) i,.row 1 (LA.map AV.bool) i,b7]) rfl (by simp only[frzArgs,show pol1.byref 60 0=false from rfl,Bool.false_eq_true,if_false,hz]) (by simp[AV.plainL,AV.plain,AM,AP,AJ]);simp only[hok]at c60;simp +contextual (disch:=omega) only[Tryz.f30,dd30,go_sem,simprocAttr,evAppend,map_append,mu30,↓AE,↓AD,↓AC,↓AA,hi2,c60];exact fzEq hpp rfl
 ·rw[show List.map AV.bool (List.replicate n false)=List.replicate n (AV.bool false) from map_replicate];have hrp:=AJ (List.replicate n false);rw[map_replicate]at hrp;exact(by first|rfl|(refine AN rfl (by rfl) (by rfl) (by rfl) ?_ ?_<;>simp[AV.underL,AV.under,MB.under,AG,AI,AF,AH,AK,AL,-map_take,AM,AP,AJ,hEp,Bn,hrp,show MB.underE 8 (entK 0 [ksAV a.ac])=true from DP 8 0 [a.ac]]))
theorem f30R (a:AutoL) (hb:AutoB a) (H:List MB):call Pg pol1 30 [autoAV a] H=some (pairAV (ofValid a revW),H):=by
 unfold ofValid;by_cases hv:validW (dividesA a.cl) a=0
 ·rw[if_neg (by simp[hv])];obtain⟨hg,hd⟩:=BC hv;exact f30v a hb hg (DF hd) H
 ·rw[if_pos hv];exact f30e a hb hv H
end
section
attribute [local go_sem] evAppend map_append
theorem f84e (x:List Int) (hl:x.length<=1000000) (H:List MB):call Pg pol1 84 [.sl false (x.map I),.sl false (x.map I)] H=some (.bool true,H):=by
 have hpl:=AF x;refine AQ Tryz.func84 rfl rfl rfl rfl rfl rfl (fun _=>rfl) (by simp[AV.plainL,AV.plain,hpl]) rfl ?_ H;simp +contextual (disch:=omega) only[Tryz.f84,dd84,go_sem,simprocAttr,mu84,↓AE,↓AD,↓AC,↓AA];refine AR (M:=(mskOf (pol1.mask 84) (pol1.gc 84) (pol1.acts 84) 0 4)) rfl x.length (fun i=>(⟨26,[(13,I i),(12,I x.length),(1,.sl false (x.map I)),(0,.sl false (x.map I))],[]⟩:St)) (fun i=>True) ?_ ?_ trivial _ (by first|rfl|(refine AN rfl (by rfl) (by rfl) (by rfl) ?_ ?_<;>simp[AV.underL,AV.under,MB.under,AG,AI,AF,AH,AK,AL,-map_take]))
 ·intro i hi _;obtain⟨v,hv⟩:∃ v,x[i]?=some v:=⟨_,getElem?_eq_getElem hi⟩;have hv':(x.map I)[i]?=some (I v):=by simp[hv]
  simp +contextual (disch:=omega) only[Tryz.f84,dd84,go_sem,simprocAttr,mu84,↓AE,↓AD,↓AC,↓AA,hv'];repeat' (first|intro _|apply And.intro|(unfold dOk;kernel_rfl)|exact St.beq_refl _|exact Aq|(show altO _ _ _ _=true;kernel_rfl)|(show (_||_)=true;kernel_rfl)|(show (_&&_)=true;kernel_rfl))
  exact(by first|rfl|(refine AN rfl (by rfl) (by rfl) (by rfl) ?_ ?_<;>simp[AV.underL,AV.under,MB.under,AG,AI,AF,AH,AK,AL,-map_take]))
 ·intro _;simp +contextual (disch:=omega) only[Tryz.f84,dd84,go_sem,simprocAttr,mu84,↓AE,↓AD,↓AC,↓AA];exact⟨_,rfl⟩
theorem f85e (x:List Bool) (hl:x.length<=1000000) (H:List MB):call Pg pol1 85 [.sl false (x.map AV.bool),.sl false (x.map AV.bool)] H=some (.bool true,H):=by
 have hpl:=AJ x;refine AQ Tryz.func85 rfl rfl rfl rfl rfl rfl (fun _=>rfl) (by simp[AV.plainL,AV.plain,hpl]) rfl ?_ H;simp +contextual (disch:=omega) only[Tryz.f85,dd85,go_sem,simprocAttr,mu85,↓AE,↓AD,↓AC,↓AA];refine AR (M:=(mskOf (pol1.mask 85) (pol1.gc 85) (pol1.acts 85) 0 4)) rfl x.length (fun i=>(⟨26,[(13,I i),(12,I x.length),(1,.sl false (x.map AV.bool)),(0,.sl false (x.map AV.bool))],[]⟩:St)) (fun i=>True) ?_ ?_ trivial _ (by first|rfl|(refine AN rfl (by rfl) (by rfl) (by rfl) ?_ ?_<;>simp[AV.underL,AV.under,MB.under,AG,AI,AF,AH,AK,AL,-map_take,AJ]))
 ·intro i hi _;obtain⟨v,hv⟩:∃ v,x[i]?=some v:=⟨_,getElem?_eq_getElem hi⟩;have hv':(x.map AV.bool)[i]?=some (.bool v):=by simp[hv]
  simp +contextual (disch:=omega) only[Tryz.f85,dd85,go_sem,simprocAttr,mu85,↓AE,↓AD,↓AC,↓AA,hv'];refine⟨by unfold dOk;kernel_rfl,fun _=>(by first|rfl|(refine AN rfl (by rfl) (by rfl) (by rfl) ?_ ?_<;>simp[AV.underL,AV.under,MB.under,AG,AI,AF,AH,AK,AL,-map_take,AJ])),fun h=>absurd rfl h⟩
 ·intro _;simp +contextual (disch:=omega) only[Tryz.f85,dd85,go_sem,simprocAttr,mu85,↓AE,↓AD,↓AC,↓AA];exact⟨_,rfl⟩
theorem f82e (x:List (Int×Int)) (hl:x.length<=1000000) (H:List MB):call Pg pol1 82 [.sl false (x.map spanAV),.sl false (x.map spanAV)] H=some (.bool true,H):=by
 have hpl:=AH x;refine AQ Tryz.func82 rfl rfl rfl rfl rfl rfl (fun _=>rfl) (by simp[AV.plainL,AV.plain,hpl]) rfl ?_ H;simp +contextual (disch:=omega) only[Tryz.f82,dd82,go_sem,simprocAttr,mu82,↓AE,↓AD,↓AC,↓AA];refine AR (M:=(mskOf (pol1.mask 82) (pol1.gc 82) (pol1.acts 82) 0 4)) rfl x.length (fun i=>(⟨26,[(13,I i),(12,I x.length),(1,.sl false (x.map spanAV)),(0,.sl false (x.map spanAV))],[]⟩:St)) (fun i=>True) ?_ ?_ trivial _ (by first|rfl|(refine AN rfl (by rfl) (by rfl) (by rfl) ?_ ?_<;>simp[AV.underL,AV.under,MB.under,AG,AI,AF,AH,AK,AL,-map_take]))
 ·intro i hi _;obtain⟨v,hv⟩:∃ v,x[i]?=some v:=⟨_,getElem?_eq_getElem hi⟩;have hv':(x.map spanAV)[i]?=some (.agg [I v.1,I v.2]):=by simp[hv]
  simp +contextual (disch:=omega) only[Tryz.f82,dd82,go_sem,simprocAttr,mu82,↓AE,↓AD,↓AC,↓AA,hv'];repeat' (first|intro _|apply And.intro|(unfold dOk;kernel_rfl)|exact St.beq_refl _|exact Aq|(show altO _ _ _ _=true;kernel_rfl)|(show (_||_)=true;kernel_rfl)|(show (_&&_)=true;kernel_rfl))
  exact(by first|rfl|(refine AN rfl (by rfl) (by rfl) (by rfl) ?_ ?_<;>simp[AV.underL,AV.under,MB.under,AG,AI,AF,AH,AK,AL,-map_take]))
 ·intro _;simp +contextual (disch:=omega) only[Tryz.f82,dd82,go_sem,simprocAttr,mu82,↓AE,↓AD,↓AC,↓AA];exact⟨_,rfl⟩
theorem f81e (L:Cls) (hl:L.length<=1000000) (hs:∀ s∈L,s.length<=1000000) (H:List MB):call Pg pol1 81 [.sl false (L.map setAV9),.sl false (L.map setAV9),.clo 82 []] H=some (.bool true,H):=by
 have hpl:=AM L;refine AQ Tryz.func81 rfl rfl rfl rfl rfl rfl (fun _=>rfl) (by simp[AV.plainL,AV.plain,hpl]) rfl ?_ H;simp +contextual (disch:=omega) only[Tryz.f81,dd81,go_sem,simprocAttr,mu81,↓AE,↓AD,↓AC,↓AA];refine AR (M:=(mskOf (pol1.mask 81) (pol1.gc 81) (pol1.acts 81) 0 4)) rfl L.length (fun i=>(⟨32,[(17,I i),(16,I L.length),(15,.sl false (L.map setAV9)),(2,.clo 82 []),(1,.sl false (L.map setAV9))],[]⟩:St)) (fun i=>True) ?_ ?_ trivial _ (by first|rfl|(refine AN rfl (by rfl) (by rfl) (by rfl) ?_ ?_<;>simp[AV.underL,AV.under,MB.under,AG,AI,AF,AH,AK,AL,-map_take,AM]))
 ·intro i hi _;obtain⟨v,hv⟩:∃ v,L[i]?=some v:=⟨_,getElem?_eq_getElem hi⟩;have hv':(L.map setAV9)[i]?=some (setAV9 v):=by simp[hv]
  have h82:=f82e v (hs v (mem_of_getElem? hv));simp +contextual (disch:=omega) only[Tryz.f81,dd81,go_sem,simprocAttr,mu81,↓AE,↓AD,↓AC,↓AA,hv',h82];exact(by first|rfl|(refine AN rfl (by rfl) (by rfl) (by rfl) ?_ ?_<;>simp[AV.underL,AV.under,MB.under,AG,AI,AF,AH,AK,AL,-map_take,AM]))
 ·intro _;simp +contextual (disch:=omega) only[Tryz.f81,dd81,go_sem,simprocAttr,mu81,↓AE,↓AD,↓AC,↓AA];exact⟨_,rfl⟩
theorem f83e (L:List (List Int)) (hl:L.length<=1000000) (hs:∀ s∈L,s.length<=1000000) (H:List MB):call Pg pol1 83 [.sl false (L.map rowAV),.sl false (L.map rowAV),.clo 84 []] H=some (.bool true,H):=by
 have hpl:=AT L;refine AQ Tryz.func83 rfl rfl rfl rfl rfl rfl (fun _=>rfl) (by simp[AV.plainL,AV.plain,hpl]) rfl ?_ H;simp +contextual (disch:=omega) only[Tryz.f83,dd83,go_sem,simprocAttr,mu83,↓AE,↓AD,↓AC,↓AA];refine AR (M:=(mskOf (pol1.mask 83) (pol1.gc 83) (pol1.acts 83) 0 4)) rfl L.length (fun i=>(⟨32,[(17,I i),(16,I L.length),(15,.sl false (L.map rowAV)),(2,.clo 84 []),(1,.sl false (L.map rowAV))],[]⟩:St)) (fun i=>True) ?_ ?_ trivial _ (by first|rfl|(refine AN rfl (by rfl) (by rfl) (by rfl) ?_ ?_<;>simp[AV.underL,AV.under,MB.under,AG,AI,AF,AH,AK,AL,-map_take,AT]))
 ·intro i hi _;obtain⟨v,hv⟩:∃ v,L[i]?=some v:=⟨_,getElem?_eq_getElem hi⟩;have hv':(L.map rowAV)[i]?=some (.sl false (v.map I)):=by simp[hv]
  have h82:=f84e v (hs v (mem_of_getElem? hv));simp +contextual (disch:=omega) only[Tryz.f83,dd83,go_sem,simprocAttr,mu83,↓AE,↓AD,↓AC,↓AA,hv',h82];exact(by first|rfl|(refine AN rfl (by rfl) (by rfl) (by rfl) ?_ ?_<;>simp[AV.underL,AV.under,MB.under,AG,AI,AF,AH,AK,AL,-map_take,AT]))
 ·intro _;simp +contextual (disch:=omega) only[Tryz.f83,dd83,go_sem,simprocAttr,mu83,↓AE,↓AD,↓AC,↓AA];exact⟨_,rfl⟩
theorem f36e (a:AutoL) (hb:AutoB a) (H:List MB):call Pg pol1 36 [autoAV a,autoAV a] H=some (.bool true,H):=by
 have hpl:=Ac a;have h81:=f81e a.cl hb.cl (fun s hm=>by
  have:s.length<=(a.cl.map List.length).sum:=CK (mem_map.2 ⟨s,hm,rfl⟩);have:=hb.sum;omega)
 have h83:=f83e a.nx hb.nx hb.row;have h85:=f85e a.ac hb.ac;obtain⟨cl,nx,ac⟩:=a;refine AQ Tryz.func36 rfl rfl rfl rfl rfl rfl (fun _=>rfl) (by simp only[AV.plainL,hpl];rfl) rfl ?_ H;simp +contextual (disch:=omega) only[Tryz.f36,dd36,go_sem,simprocAttr,mu36,↓AE,↓AD,↓AC,↓AA,h81,h83,h85];exact⟨_,rfl⟩
end
section
def ktextT:List Int:=[97,97,97,98,98,99,97,98,10,32,65,200]
def textAt (l:List Int) (i:Nat):Int:=ktextT.getD (pickI l i 12).toNat 0
def textN (l:List Int) (n:Nat):List Int:=(List.range n).map (textAt l)
theorem K4 (l:List Int) (n:Nat):textN l (n+1)=textN l n++[textAt l n]:=by simp[textN,List.range_succ]
theorem FG (l:List Int) (n:Nat):(textN l n).length=n:=by simp[textN]
def textI (l:List Int) (most:Nat):List Int:=textN l (min l.length most)
theorem Mk (l:List Int) (i:Nat):0<=textAt l i/\textAt l i<=200:=by
 have hp:=C7 (l:=l) (i:=i) (m:=12) (by omega);unfold textAt;generalize pickI l i 12=p at *;obtain⟨n,rfl⟩:∃ n:Nat,p=n:=⟨p.toNat,by omega⟩;simp only[Int.toNat_natCast];have hn:n<12:=by omega
 have h12:∀ n,n<12->0<=ktextT.getD n 0/\ktextT.getD n 0<=200:=by decide
 exact h12 n hn
theorem Nn (l:List Int) (most:Nat):∀ x∈textI l most,0<=x/\x<=200:=by
 intro x hx;simp only[textI,textN,mem_map]at hx;obtain⟨i,_,rfl⟩:=hx;exact Mk l i
theorem f37t (l:List Int) (hl:∀ x∈l,In64 x) (most:Nat) (hm:most<=1000000) (H:List MB):call Pg pol1 37 [.sl false (l.map I),I most] H=some (.sl false ((textI l most).map I),H):=by
 have hpl:=AF l;refine AQ Tryz.func37 rfl rfl rfl rfl rfl rfl (fun _=>rfl) (by simp[AV.plain,AV.plainL,hpl]) (by simp[AV.plain,AF]) ?_ H;have hP:=fun i=>f57 l i 12 hl (by omega);simp +contextual (disch:=omega) only[Tryz.f37,dd37,go_sem,simprocAttr,evAppend,map_append,mu37,↓AE,↓AD,↓AC,↓AA];refine AR (M:=(mskOf (pol1.mask 37) (pol1.gc 37) (pol1.acts 37) 0 3)) rfl (min l.length most) (fun i=>(⟨28,[(6,I i),(5,.ms 0 1 i 0 i),(1,I most),(0,.sl false (l.map I))],[.row 1 ((textN l i).map I) 0]⟩:St)) (fun _=>True) ?_ ?_ trivial _ ?_
 ·intro i hi _;have h1:i<l.length:=by omega
  have h2:i<most:=by omega
  have hp:=C7 (l:=l) (i:=i) (m:=12) (by omega);have ht:textAt l i=ktextT.getD (pickI l i 12).toNat 0:=rfl;have hP:=hP i;generalize pickI l i 12=p at *;obtain⟨n,rfl⟩:∃ n:Nat,p=n:=⟨p.toNat,by omega⟩;have hg:([I 97,I 97,I 97,I 98,I 98,I 99,I 97,I 98,I 10,I 32,I 65,I 200]:List AV)[n]?=some (I (textAt l i)):=by
   rw[ht,Int.toNat_natCast];have h12:∀ n,n<12->ktextT[n]?=some (ktextT.getD n 0):=by decide
   have e:([I 97,I 97,I 97,I 98,I 98,I 99,I 97,I 98,I 10,I 32,I 65,I 200]:List AV)=ktextT.map I:=rfl;rw[e,getElem?_map,h12 n (by omega)];rfl
  have happ:=fun(K:List MB) (t:Bool)=>Ob (H:=.row 1 ((textN l i).map I) 0::K) (i:=0) (x:=textAt l i) (t:=t) rfl (Nat.zero_le _) (FG l i) (by omega);simp +contextual (disch:=omega) only[Tryz.f37,dd37,go_sem,simprocAttr,mu37,↓AE,↓AD,↓AC,↓AA,hP,hg,happ];rw[K4];generalize textN l i++[textAt l i]=X;exact(by first|rfl|(refine AN rfl (by rfl) (by rfl) (by rfl) ?_ ?_<;>simp[AV.underL,AV.under,MB.under,AG,AI,AF,AH,AK,AL,-map_take]))
 ·intro _;have hx:(min l.length most=l.length∨min l.length most=most)/\min l.length most<=l.length:=by omega
  have hlen:=FG l (min l.length most);unfold textI;generalize min l.length most=m at *;by_cases h1:m<l.length
  ·have h2:m=most:=by omega
   subst h2;simp +contextual (disch:=omega) only[Tryz.f37,dd37,go_sem,simprocAttr,evAppend,map_append,mu37,↓AE,↓AD,↓AC,↓AA];exact⟨_,As (k:=1) rfl (by simpa using hlen) (AF _)⟩
  ·have h2:m=l.length:=by omega
   subst h2;simp +contextual (disch:=omega) only[Tryz.f37,dd37,go_sem,simprocAttr,evAppend,map_append,mu37,↓AE,↓AD,↓AC,↓AA];exact⟨_,As (k:=1) rfl (by simpa using hlen) (AF _)⟩
 ·exact(by first|rfl|(refine AN rfl (by rfl) (by rfl) (by rfl) ?_ ?_<;>simp[AV.underL,AV.under,MB.under,AG,AI,AF,AH,AK,AL,-map_take]))
end
end Go.Ev
namespace Go.Ev
open Go.Proofs Go.RowKit
noncomputable def polU:Pol:={ pol1 with ext:=fun f=>if f=97 then none else pol1.ext f }
theorem extU:ExtOk Pg polU:=by
 intro f g hg args H r H' h;have e:polU.ext f=if f=97 then none else pol1.ext f:=rfl
 rw[e]at hg;by_cases h1:f=97
 ·rw[if_pos h1]at hg;cases hg
 ·rw[if_neg h1]at hg;exact ext1 f g hg args H r H' h
theorem okU:CfOk Pg (call Pg polU):=JS extU Gt
theorem u19 (H:List MB):call Pg polU 19 [] H=some (.bool true,H):=A1 (n:=60) 24 19 _ _ _ (by kernel_rfl)
end Go.Ev
namespace Go.Ev
noncomputable def polL (l:List Nat):Pol:={ pol1 with pure:=fun f=>!(19::(l++notPure)).contains f,ext:=fun f=>if f=19 then some (call Pg polU 19) else if l.contains f=true then some (call Pg pol1 f) else pol1.ext f }
theorem IC {l:List Nat}{f:Nat} (h:l.contains f=true) (h19:f≠19):(polL l).ext f=some (call Pg pol1 f):=by
 show (if f=19 then some (call Pg polU 19) else if l.contains f=true then some (call Pg pol1 f) else pol1.ext f)=_;rw[if_neg h19,if_pos h]
theorem extL {l:List Nat} (hy:l.contains yldF=false):ExtOk Pg (polL l):=by
 intro f g hg args H r H' h;by_cases e:f=19
 ·subst e;have:(polL l).ext 19=some (call Pg polU 19):=rfl;rw[this]at hg;obtain rfl:=Option.some.inj hg;exact okU.1 19 args H r H' (by decide) h
 by_cases e1:l.contains f=true
 ·rw[IC e1 e]at hg;obtain rfl:=Option.some.inj hg;exact ok1.1 f args H r H' (fun e2=>by rw[e2,hy]at e1;cases e1) h
 have:(polL l).ext f=pol1.ext f:=by
  show (if f=19 then some (call Pg polU 19) else if l.contains f=true then some (call Pg pol1 f) else pol1.ext f)=_;rw[if_neg e,if_neg e1]
 rw[this]at hg;exact ext1 f g hg args H r H' h
theorem okL {l:List Nat} (hy:l.contains yldF=false):CfOk Pg (call Pg (polL l)):=JS (extL hy) Gt
theorem l19 (l:List Nat) (H:List MB):call Pg (polL l) 19 [] H=some (.bool true,H):=by
 have hp:(polL l).pure 19=false:=by
  show (!(19::(l++notPure)).contains 19)=false;simp
 have he:(polL l).ext 19=some (call Pg polU 19):=rfl;rw[Bb];unfold evStep evBody;rw[if_neg (by rw[hp];decide),if_neg (by decide)];simp only[he];exact u19 H
theorem Qn {l:List Nat} (hy:l.contains yldF=false) (f:Nat) (h19:f≠19) (hf:l.contains f=true) {args:List AV}{H H':List MB}{r:AV} (h:call Pg pol1 f args H=some (r,H')):call Pg (polL l) f args H=some (r,H'):=by
 have hp:(polL l).pure f=false:=by
  show (!(19::(l++notPure)).contains f)=false;have:f∈l:=by simpa using hf
  simp[this]
 rw[Bb];unfold evStep evBody;rw[if_neg (by rw[hp];decide),if_neg (fun e2=>by rw[e2,hy]at hf;cases hf)];simp only[IC hf h19];exact h
end Go.Ev
namespace Go.Ev
attribute [local go_sem] evBin AV.cells strOf Ah Ao bndO bnd evEq eqCells not_false_eq_true not_true_eq_false toList_some Array.size_empty length_append tySzE head?_drop Nat.mul_one AY Ae AU AZ Aa AS
section
theorem Jr {k top:Int} (hk:k=0∨k=1∨k=2):3<=(someCls k top).length/\(someCls k top).length<=4:=by
 rcases hk with rfl|rfl|rfl<;>simp[someCls]
theorem Nr {k top:Int} (hk:k=0∨k=1∨k=2) (ht:top=255∨top=1114111):dividesA (someCls k top)=true/\topZ (someCls k top).flatten=top:=by
 rw[Ln];rcases hk with rfl|rfl|rfl<;>rcases ht with rfl|rfl<;>exact⟨by kernel_rfl,by kernel_rfl⟩
theorem Pa (l:List Int):pickI l 0 3=0∨pickI l 0 3=1∨pickI l 0 3=2:=by
 have:=C7 (l:=l) (i:=0) (m:=3) (by omega);omega
structure SomeOk (a:AutoL) (top:Int):Prop where
 good:GoodA a
 div:dividesA a.cl=true
 top_:topZ a.cl.flatten=top
 small:SmallA a
 cl4:3<=a.cl.length/\a.cl.length<=4
 nx8:a.nx.length<=8
 set2:∀ s∈a.cl,s.length<=2
theorem Om (l:List Int) {top:Int} (ht:top=255∨top=1114111):SomeOk (someA l top) top:=by
 have b8:=C7 (l:=l) (i:=1) (m:=8) (by omega);have hN:((someN l:Nat):Int)=1+pickI l 1 8:=by unfold someN;omega
 have hk:=Pa l;have hc:=Jr (top:=top) hk;have hd:=Nr hk ht;have hs:∀ s∈someCls (pickI l 0 3) top,s.length<=2:=by
  rcases hk with e|e|e<;>rw[e]<;>simp[someCls]
 unfold someA;have hrow:∀(i:Nat),(someRow l (someN l) (someCls (pickI l 0 3) top).length i).length=(someCls (pickI l 0 3) top).length:=fun i=>by simp[someRow]
 have hrx:∀(i:Nat),∀ t∈someRow l (someN l) (someCls (pickI l 0 3) top).length i,0<=t/\t<(someN l:Int):=fun i t h=>by
  obtain⟨c,_,rfl⟩:=mem_map.1 h;exact C7 (by omega)
 refine⟨⟨by simp only;omega,by simp;omega,by simp;omega,by simp,fun row hr=>?_⟩,hd.1,hd.2,⟨by simp only;omega,fun s h=>by have:=hs s h;omega,by simp;omega,by simp;omega,fun r hr=>?_⟩,hc,by simp;omega,hs⟩
 ·obtain⟨i,_,rfl⟩:=mem_map.1 hr;exact⟨hrow i,fun t ht=>by simpa using hrx i t ht⟩
 ·obtain⟨i,_,rfl⟩:=mem_map.1 hr;rw[hrow i];omega
theorem SomeOk.valid {a:AutoL}{top:Int} (h:SomeOk a top):validW true a=0:=by
 have g:=h.good;have h1:=g.cl;have h2:=g.nx;have h3:=g.ac;have h4:=g.pos;unfold validW;rw[if_neg (by omega),if_neg (by rintro(h|h|h)<;>first|omega|cases h),if_pos];rw[all_eq_true];intro r hr;have:=g.rows r hr;simp only[okRow,Bool.and_eq_true,decide_eq_true_eq,all_eq_true,okSt];exact this
theorem SomeOk.dv {a:AutoL}{top:Int} (h:SomeOk a top):DivOk a.cl top:=by
 have:=DF h.div
 rwa [h.top_]at this
noncomputable def polQ:Pol:=polL [10,20,21,22,23,24,25]
end
end Go.Ev
