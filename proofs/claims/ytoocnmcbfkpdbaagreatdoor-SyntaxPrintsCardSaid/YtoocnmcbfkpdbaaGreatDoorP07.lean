/- A whole call. -/
import Derived.Test.YtoocnmcbfkpdbaaGreatDoorP06
set_option linter.unusedVariables false
set_option linter.unusedSimpArgs false
open List (getElem?_append_right getElem?_eq_getElem getElem?_take mem_of_getElem?)
open Nat (add_mul le_refl sub_self sub_zero)
namespace Go.Ev
variable [VarTab]
set_option linter.unusedSectionVars false
open Go.RowKit
variable {P:Program}{pol:Pol}{cf:CF}{it:It}{B0:Nat}{w0:Base}{w:World}{I I0:Imm}{H:List MB}{L L0:List Lay}
def ExtOk (P:Program) (pol:Pol):Prop:=∀ f g,pol.ext f=some g->∀ args H r H',g args H=some (r,H')->CallSound P f args H r H'
theorem CC (f:Nat):∀(args:List AV) (i:Nat) {I:Imm}{H H1:List MB}{as:List AV},Inv B0 w0 I H L w->frzArgs pol f i args H=some (as,H1) ->
  ∃ I',Inv B0 w0 I' H1 L w/\Grows I I'/\as.length=args.length/\∀(j:Nat) (x y:AV),args[j]?=some x->as[j]?=some y->Later I' L x y
 | [],i,I,H,H1,as,hi,h=>by
   simp[frzArgs]at h;obtain⟨rfl,rfl⟩:=h;exact⟨I,hi,.refl I,rfl,fun j x y h=>by simp at h⟩
 | x::xs,i,I,H,H1,as,hi,h=>by
   simp only[frzArgs]at h;split at h
   ·rename_i y H2 h2;split at h
    ·rename_i ys H3 h3;simp at h;obtain⟨rfl,rfl⟩:=h;have:∃ I2,Inv B0 w0 I2 H2 L w/\Grows I I2/\Later I2 L x y:=by
      split at h2
      ·simp at h2;obtain⟨rfl,rfl⟩:=h2;exact⟨I,hi,.refl I,.refl _ _ _⟩
      ·obtain⟨I2,a1,a2,a3,a4⟩:=Ef hi h2;exact⟨I2,a1,a2,a3⟩
     obtain⟨I2,a1,a2,a3⟩:=this;obtain⟨I3,b1,b2,b3,b4⟩:=CC f xs (i+1) a1 h3;refine⟨I3,b1,a2.trans b2,by simp[b3],fun j u v hu hv=>?_⟩
     match j,hu,hv with
     | 0,hu,hv=>simp at hu hv;subst hu;subst hv;exact a3.mono b2
     | j+1,hu,hv=>exact b4 j u v (by simpa using hu) (by simpa using hv)
    ·simp at h
   ·simp at h
theorem CT {s:St}{a:Act} (hi:Inv B0 w0 I s.h L w) (hr:TmOk I L s.n s.t a.tmps) {g:ResultVar->Sem Value} (hg1:∀ t,g (.tmp t)=pure (a.tmps.getD t undef))
  (hg2:∀ b t,g (.cell b t)=do loadVar t (<- asAddr (a.tmps.getD b undef))):∀(rs:List ResultVar) {vs:List AV},evResults P s rs=some vs ->
  ∃ us:List Value,(rs.mapM g).run P w=.ok us w/\us.length=vs.length/\∀(i:Nat) (y:AV) (u:Value),vs[i]?=some y->us[i]?=some u->Rep I L y u
 | [],vs,h=>by
   simp[evResults]at h;subst h;exact⟨[],rfl,rfl,fun i y u h=>by simp at h⟩
 | r::rs,vs,h=>by
   simp only[evResults]at h;split at h
   ·rename_i v hv;split at h
    ·rename_i vs' hvs;simp at h;subst h;obtain⟨us,e1,e2,e3⟩:=CT hi hr hg1 hg2 rs hvs;have:∃ u,(g r).run P w=.ok u w/\Rep I L v u:=by
      cases r with
      | tmp t=>exact⟨a.tmps.getD t undef,by rw[hg1];rfl,hr.at hv⟩
      | cell b t=>
        simp only[evResult]at hv;split at hv
        ·rename_i p hp;split at hv
         ·rename_i cs hcs;obtain⟨b',o,q1,q2⟩:=C3 hi (hr.at hp) hcs;obtain⟨u,g1,g2⟩:=CZ (P:=P) q2 hv;refine⟨u,?_,g2⟩;rw[hg2];simp only[q1,asAddr,Sem.run_bind,Sem.run_pure,Result.andThen_ok,g1]
         ·simp at hv
        ·simp at hv
     obtain⟨u,g1,g2⟩:=this;refine⟨u::us,?_,by simp[e2],fun i y u' h1 h2=>?_⟩
     ·simp only[List.mapM_cons,Sem.run_bind,g1,Result.andThen_ok,e1,Sem.run_pure]
     ·match i,h1,h2 with
      | 0,h1,h2=>simp at h1 h2;subst h1;subst h2;exact g2
      | i+1,h1,h2=>exact e3 i y u' (by simpa using h1) (by simpa using h2)
    ·simp at h
   ·simp at h
theorem E6 {fn:Func}{s:St}{a:Act} (hi:Inv B0 w0 I s.h L w) (hr:TmOk I L s.n s.t a.tmps) {vs:List AV} (h:evResults P s fn.results.toList=some vs) :
  ∃ v,(results fn a.tmps).run P w=.ok v w/\Rep I L (packRes vs) v:=by
 unfold results;generalize hg:(fun(x:ResultVar)=>(match x with
  | .tmp t=>pure (a.tmps.getD t undef)
  | .cell b t=>do loadVar t (<- asAddr (a.tmps.getD b undef)):Sem Value))=g
 have hg1:∀ t,g (.tmp t)=pure (a.tmps.getD t undef):=fun t=>by rw[<- hg]
 have hg2:∀ b t,g (.cell b t)=(do loadVar t (<- asAddr (a.tmps.getD b undef)):Sem Value):=fun b t=>by rw[<- hg]
 obtain⟨us,e1,e2,e3⟩:=CT (P:=P) hi hr hg1 hg2 fn.results.toList h;have hm:∀(g':ResultVar->Sem Value),g' = g->(fn.results.mapM g').run P w=.ok us.toArray w:=by
  rintro g' rfl;rw[<- Array.toArray_toList (xs:=fn.results),List.mapM_toArray];simp only[Sem.run_map,e1,Result.andThen_ok]
 refine⟨if h:us.toArray.size=1 then us.toArray[0] else .tuple us.toArray,?_,?_⟩
 ·rw[Sem.run_bind,hm g rfl];rfl
 ·match vs,us,e2,e3 with
  | [y],[u],_,e3=>exact e3 0 y u rfl rfl
  | [],[],_,_=>exact .tup [] #[] rfl (fun i y h=>by simp at h)
  | y::y'::vs,u::u'::us,e2,e3=>
    rw[dif_neg (by simp)];refine .tup _ _ (by simp at e2 |-;exact e2) (fun i y hy=>?_);have hlt:i<(u::u'::us).length:=by rw[e2];exact(List.getElem?_eq_some_iff.1 hy).1
    have h3:=e3 i y _ hy (getElem?_eq_getElem hlt);have e:(u::u'::us).toArray.getD i undef=(u::u'::us)[i]:=by
     rw[Array.getD_eq_getD_getElem?,List.getElem?_toArray,getElem?_eq_getElem hlt];rfl
    rw[e];exact h3
theorem Fw {f:Nat}{I1 I':Imm}{H1 H':List MB}{L L':List Lay}{w w':World} (h1:Inv B0 w0 I1 H1 L w) (h2:Inv B0 w0 I' H' L' w') (hx:Ext I1 L I' L') {r:AV}{v:Value} (hr:Rep I' L' r v)
  {r2:AV}{H2:List MB} (h:retPol pol f H1 r H' = some (r2,H2)):∃ I2 L2,Inv B0 w0 I2 H2 L2 w'/\Ext I1 L I2 L2/\Rep I2 L2 r2 v:=by
 have hn1:L.length=H1.length:=h1.len;have hlen:H1.length<=H'.length:=by
  rcases Nat.lt_or_ge H'.length H1.length with g|g
  ·have hl:=getElem?_eq_getElem (l:=L) (i:=H'.length) (by omega);obtain⟨l',e,_⟩:=hx.lay _ _ hl;have:=(List.getElem?_eq_some_iff.1 e).1;rw[h2.len]at this;omega
  ·exact g
 have dropped:∀(J:Imm) (K:List MB),Inv B0 w0 J K L' w'->Grows I' J->K.length=H'.length->keptOk H1.length H1 K=true->Inv B0 w0 J (K.take H1.length) (L'.take H1.length) w'/\Ext I1 L J (L'.take H1.length):=by
  intro J K hJ hg hKl hk;have hxJ:Ext I1 L J L':=hx.trans (hg.ext L');refine⟨hJ.drop (by omega) (fun id k els z l hid hm hl i j x y g1 g2 g3=>?_) (fun id q es hid hm=>?_) (fun id st f k t ps c hid hm=>?_),hxJ.imm,fun id l hl=>?_⟩
  ·have hid1:id<H1.length:=hid;obtain⟨tg,hm⟩:=BR hm;have hm1:=getElem?_eq_getElem hid1;rcases B4 _ _ _ id _ _ hk hm1 hm with g|g
   ·have hl1:=getElem?_eq_getElem (l:=L) (i:=id) (by omega);have hb1:=h1.blk id _ _ hm1 hl1;rw[<- g]at hb1;have hb1:=hb1.blk;obtain⟨l',e,ek,et,es⟩:=hxJ.lay id _ hl1;rw[hl]at e;obtain rfl:=Option.some.inj e;have hbJ:=(hJ.blk id _ _ hm hl).blk;have hll:=es (by rw[hbJ.ht,hb1.ht]);obtain⟨cs,T,fr,f1,f2,f3,f4,f9f4⟩:=BlkOk.blk hb1 (hb1.pos g1 g2 (by rw[<- hll];exact g3));obtain⟨v0,_,_,e3⟩:=f3 i j x y g1 g2 (by rw[<- hll];exact g3);have:=e3.under
    rwa [hn1]at this
   ·have g:AV.underL H1.length els=true:=by cases tg<;>exact g
    rw[AW]at g;exact(BT _ x).1 (g x (mem_of_getElem? g1)) y (mem_of_getElem? g2)
  ·have hm1:=getElem?_eq_getElem hid;rcases B4 _ _ _ id _ _ hk hm1 hm with g|g
   ·have hl1:=getElem?_eq_getElem (l:=L) (i:=id) (by omega);have hb1:=h1.blk id _ _ hm1 hl1;rw[<- g]at hb1;have:=MapOk.under hb1
    rwa [hn1]at this
   ·simpa only[MB.under] using g
  ·have hm1:=getElem?_eq_getElem hid;rcases B4 _ _ _ id _ _ hk hm1 hm with g|g
   ·have hl1:=getElem?_eq_getElem (l:=L) (i:=id) (by omega);have hb1:=h1.blk id _ _ hm1 hl1;rw[<- g]at hb1;have:=LpOk.under hb1
    rwa [hn1]at this
   ·simpa only[MB.under] using g
  ·obtain⟨l',e,ek,et,es⟩:=hxJ.lay id l hl;refine⟨l',?_,ek,et,es⟩;rw[getElem?_take,if_pos (by rw[<- hn1];exact(List.getElem?_eq_some_iff.1 hl).1)];exact e
 have freeze:∀ {r':AV}{K:List MB},fz r H' = some (r',K)->AV.under H1.length r' = true->keptOk H1.length H1 K=true->∃ I2 L2,Inv B0 w0 I2 (K.take H1.length) L2 w'/\Ext I1 L I2 L2/\Rep I2 L2 r' v:=by
  intro r' K hfz hu hk;obtain⟨J,j1,j2,j3,_⟩:=Ef h2 hfz;have hKl:K.length=H'.length:=by rw[<- j1.len,h2.len]
  obtain⟨d1,d2⟩:=dropped J K j1 j2 hKl hk;exact⟨J,_,d1,d2,(j3 J (.refl J) v (hr.mono (j2.ext L'))).restrict hu⟩
 unfold retPol at h;split at h
 ·simp at h;obtain⟨rfl,rfl⟩:=h;exact⟨I',L',h2,hx,hr⟩
 ·split at h
  ·rename_i id k tot off len hq;have hrr:r=.ms id k tot off len:=by
    split at hq
    ·exact hq
    ·cases hq
   subst hrr;split at h
   ·rename_i k' els z hrow;split at h
    ·rename_i hc;obtain⟨c1,c2,c3,c4⟩:=hc;subst c3;split at h
     ·rename_i xs K hfz;split at h
      ·rename_i k'' els'' z' hrow';split at h
       ·rename_i hd;obtain⟨d1,d2,d3,d4⟩:=hd;simp at h;obtain⟨rfl,rfl⟩:=h;obtain⟨J,j1,j2,j3⟩:=Fb h2 hfz;have hKl:K.length=H'.length:=by rw[<- j1.len,h2.len]
        obtain⟨q1,q2⟩:=dropped J K j1 j2 hKl d2;obtain⟨l,hl,hb⟩:=h2.row hrow;obtain⟨l2,hl2,hb2⟩:=j1.row hrow';rw[hl]at hl2;obtain rfl:=Option.some.inj hl2;have hkk:k'' = k':=by rw[<- hb2.hk,hb.hk]
        subst hkk;have ln0:(L'.take H1.length).length=H1.length:=by simp[h2.len];omega
        have hTl0:(K.take H1.length).length=H1.length:=by simp;omega
        cases hr with
        | msn _ _ l3 hL hk2=>
          have hx0:xs=[]:=List.length_eq_zero_iff.1 d3;subst hx0;obtain⟨p1,p2⟩:=q1.phantom k'' 0;have hz0:z' = 0:=by omega
          subst hz0;refine⟨J,_,by simpa using p1,q2.trans p2,?_⟩;have:=Rep.msn (I:=J) (L:=L'.take H1.length++[⟨k'',0,0,0,0,0⟩]) H1.length k'' ⟨k'',0,0,0,0,0⟩ (by rw[getElem?_append_right (by omega),ln0,sub_self];rfl) rfl;exact this
        | ms _ _ _ _ _ l3 b o c hL ht hk2 hl3 hlc hv=>
          rw[hl]at hL;obtain rfl:=Option.some.inj hL;obtain⟨v1,v2,v3,v4,v5⟩:=hv (by rw[hb.ht];exact c2.symm);subst v2;have hsub:((els.drop off).take len).length=len:=by simp;omega
          have hoff:∀ i,off<=i->(i-l.sh)*k'' = (off-l.sh)*k'' + (i-off)*k'':=by
           intro i h;rw[<- add_mul];congr 1;omega
          have ln:(L'.take H1.length).length=H1.length:=by simp[h2.len];omega
          have hTl:(K.take H1.length).length=H1.length:=by simp;omega
          have hfitc:l.o+(off-l.sh)*k'' + len*k''<=l.n:=by
           have:(off-l.sh+c)*k'' = (off-l.sh)*k'' + c*k'':=add_mul _ _ _;have:len*k''<=c*k'':=Nat.mul_le_mul_right k'' hlc;omega
          let ln':Lay:=⟨k'',len,l.b,l.n,l.o+(off-l.sh)*k'',0⟩
          have hxx:Ext J (L'.take H1.length) J (L'.take H1.length++[ln']):=CK _ _ _;have hbne:∀(i:Nat) (li:Lay),(L'.take H1.length)[i]?=some li->li.n≠0->l.n≠0->li.b≠l.b:=by
           intro i li hli hn1 hn2 e;rw[getElem?_take]at hli;split at hli
           ·rename_i hlt;have:=h2.inj i id li l hli hl hn1 hn2 e;omega
           ·simp at hli
          refine⟨J,L'.take H1.length++[ln'],⟨q1.below,q1.base,by simp[ln,hTl],fun i m li hm hli=>?_,fun i j li lj g1 g2 n1 n2 g3=>?_,q1.imm,q1.old⟩,q2.trans hxx,?_⟩
          ·by_cases hi:i<H1.length
           ·rw[List.getElem?_append_left (by omega)]at hm hli;exact MbOk.mono hxx (fun _ _=>rfl) (q1.blk i m li hm hli)
           ·have hie:i=H1.length:=by
             have:=(List.getElem?_eq_some_iff.1 hli).1;simp at this;have h3:=h2.len;omega
            subst hie;rw[getElem?_append_right (by omega),hTl,sub_self]at hm;rw[getElem?_append_right (by omega),ln,sub_self]at hli;simp at hm hli;subst hm;subst hli;refine⟨rfl,d3.symm,Nat.zero_le _,by omega,hb.hB,fun x hx=>?_,by show l.o+(off-l.sh)*k'' + (xs.length-0)*k''<=l.n;rw[sub_zero,d3];exact hfitc,fun hn=>?_,fun hn q g=>?_⟩
            ·obtain⟨i,hi⟩:=List.getElem?_of_mem hx;obtain⟨x0,e1,_,e2⟩:=j3.get hi;rw[e2.1];exact hb.wid x0 (List.mem_of_mem_drop (List.mem_of_mem_take (mem_of_getElem? e1)))
            ·obtain⟨cs,T,fr,f1,f2,f3,f4,f9f4⟩:=hb.blk hn;obtain⟨cs2,T2,fr2,f12,f22,f32,f42,f9f42⟩:=hb2.blk hn;rw[f1]at f12;simp at f12;obtain⟨rfl,rfl,rfl⟩:=f12;refine⟨cs,T,fr,f1,f2,fun i j x y g1 g2 _=>?_,fun q g1 g2=>?_,?_⟩
             ·obtain⟨x0,e1,_,e2⟩:=j3.get g1;have hj:j<x0.cells.length:=by rw[<- e2.1];exact(List.getElem?_eq_some_iff.1 g2).1
              have hx0:els[off+i]?=some x0:=by
               rw[getElem?_take]at e1;split at e1
               ·rw[List.getElem?_drop]at e1;exact e1
               ·simp at e1
              obtain⟨u,u1,u2,u3⟩:=f3 (off+i) j x0 _ hx0 (getElem?_eq_getElem hj) (by omega);refine⟨u,?_,u2,?_⟩
              ·rw[<- u1,hoff (off+i) (by omega)];have:off+i-off=i:=by omega
               rw[this];show cs[l.o+(off-l.sh)*k'' + (i-0)*k'' + j]?=_;rw[sub_zero];congr 1;omega
              ·have hu:=(BT H1.length x).1 ((AW _ _).1 d1 x (mem_of_getElem? g1)) y (mem_of_getElem? g2);exact(((e2.2 j _ y (getElem?_eq_getElem hj) g2) J (.refl J) u (u3.mono (j2.ext L'))).restrict hu).mono hxx
             ·have g1:l.o+(off-l.sh)*k''<=q:=g1;have g2:q<l.o+(off-l.sh)*k'' + (z'-off-0)*k'':=g2;show J l.b q=_;by_cases hz:off<=z'
              ·refine f42 q (by omega) ?_;rw[hoff z' hz];rw[sub_zero]at g2;omega
              ·have:z'-off-0=0:=by omega
               rw[this]at g2;omega
             ·show fr.2<=l.o+(off-l.sh)*k'' + (z'-off-0)*k'';have h8:=Nat.mul_le_mul_right k'' (show z'-l.sh<=(off-l.sh)+(z'-off-0) by omega);rw[add_mul]at h8;omega
            ·have g:l.o+(off-l.sh)*k'' + (z'-off-0)*k''<=q:=g;show J l.b q=none;refine hb2.free hn q ?_;by_cases hz:off<=z'
             ·rw[hoff z' hz];rw[sub_zero]at g;omega
             ·have:(z'-l.sh)*k''<=(off-l.sh)*k'':=Nat.mul_le_mul_right k'' (by omega);omega
          ·have hcase:∀(i:Nat) (li:Lay),(L'.take H1.length++[ln'])[i]?=some li->(i<H1.length/\(L'.take H1.length)[i]?=some li)∨(i=H1.length/\li=ln'):=by
            intro i li hli;by_cases hi:i<H1.length
            ·rw[List.getElem?_append_left (by omega)]at hli;exact .inl ⟨hi,hli⟩
            ·rw[getElem?_append_right (by omega),ln]at hli;have h4:=(List.getElem?_eq_some_iff.1 hli).1;simp at h4;have hie:i-H1.length=0:=by omega
             rw[hie]at hli;simp at hli;exact .inr ⟨by omega,hli.symm⟩
           rcases hcase i li g1 with ⟨a1,a2⟩|⟨a1,a2⟩
           ·rcases hcase j lj g2 with ⟨b1,b2⟩|⟨b1,b2⟩
            ·exact q1.inj i j li lj a2 b2 n1 n2 g3
            ·subst b2;exact absurd g3 (hbne i li a2 n1 n2)
           ·rcases hcase j lj g2 with ⟨b1,b2⟩|⟨b1,b2⟩
            ·subst a2;exact absurd g3.symm (hbne j lj b2 n2 n1)
            ·omega
          ·refine .ms H1.length k'' len 0 len ln' l.b o c (by rw[getElem?_append_right (by omega),ln,sub_self];rfl) (le_refl _) rfl (by omega) hlc (fun _=>⟨le_refl _,rfl,fun h0=>?_,by omega,?_⟩)
           ·show o=l.o+(off-l.sh)*k'' + (0-0)*k'';rw[v3 h0];simp
           ·show l.o+(off-l.sh)*k'' + (0-0+c)*k''<=l.n;have:(off-l.sh+c)*k'' = (off-l.sh)*k'' + c*k'':=add_mul _ _ _;simp only[sub_self,Nat.zero_add];omega
       ·simp at h
      ·simp at h
     ·simp at h
    ·simp at h
   ·simp at h
  ·split at h
   ·rename_i r' K hfz;split at h
    ·rename_i hc;simp at h;obtain⟨rfl,rfl⟩:=h;exact freeze hfz hc.1 hc.2
    ·simp at h
   ·simp at h
theorem Eb {k:Nat->Option (List Nat)}{g:Nat->Option Nat}{ac:Nat->List SA}{n:Nat}{l:List Lay} (hl:l.length=n):∀(i q:Nat),(mskOf k g ac n i).gc=some q->l.length<=q:=by
 intro i q h;unfold mskOf at h;split at h
 ·simp at h
 ·split at h
  ·simp at h;omega
  ·split at h
   ·simp at h;omega
   ·simp at h
theorem Inv.closeDf (hi:Inv B0 w0 I H L w) {D:Nat} (hD:I.g D=true) (hB:B0<=D):∃ w',(Instr.takeDeferred D).run P w=.ok [] w'/\Inv B0 w0 ⟨I.c,fun x=>I.g x&&x != D,I.vars⟩ H L w':=by
 have h0:=hi.imm.g D hD;refine⟨_,run_takeDeferred h0,?_⟩;have hot:∀ k,k≠D->(w.putObj D (.deferred none)).heap[k]?=w.heap[k]?:=fun k hk=>World.putObj_heap_other hk;have hx:∀(a:AV) (v:Value),Rep I L a v->Rep ⟨I.c,fun x=>I.g x&&x != D,I.vars⟩ L a v:=fun a v h=>h.monoS (I:=I) (I':=⟨I.c,fun x=>I.g x&&x != D,I.vars⟩) (fun _ _ _ _ h=>h) (Ext.refl I L).lay;refine⟨hi.below.step ⟨rfl,rfl,rfl,by simp,fun k hk=>hot k (by omega)⟩,by simpa using hi.base,hi.len,fun id m l hm hl=>?_,hi.inj,⟨fun b o v h=>?_,fun x hxg=>?_⟩,hi.old⟩
 ·have h1:=hi.blk id m l hm hl;cases m with
  | mp q es=>
    obtain⟨ents,clock,e,e2,e3⟩:=MapOk.obj h1;have hne:l.b≠D:=fun e'=>by rw[e',h0]at e;cases e
    refine⟨MapOk.ht h1,MapOk.hn h1,MapOk.hB h1,⟨ents,clock,by rw[hot _ hne];exact e,e2,fun i k v g=>?_⟩,fun c=>MapOk.free h1 c⟩;obtain⟨f1,u,f2,f3,f4⟩:=e3 i k v g;exact⟨f1,u,f2,hx _ _ f3,hx _ _ f4⟩
  | lp st f n t ps c=>
    obtain⟨r,e,e2,e3,e4,e5,e6⟩:=LpOk.obj h1;have hne:l.b≠D:=fun e'=>by rw[e',h0]at e;cases e
    exact⟨LpOk.ht h1,LpOk.hn h1,LpOk.hB h1,⟨r,by rw[hot _ hne];exact e,e2,e3,e4,e5,e6.imp (fun h=>h) fun g=>⟨g.1,g.2.1,fun q hq=>⟨(g.2.2 q hq).1,hx _ _ (g.2.2 q hq).2⟩⟩⟩,LpOk.nil h1,fun c=>LpOk.free h1 c⟩
  | row k els z=>
    refine⟨h1.hk,h1.ht,h1.hsh,h1.hz,h1.hB,h1.wid,h1.fit,fun hn=>?_,h1.free⟩;obtain⟨cs,T,fr,e,e2,e3,e4,f9e4⟩:=BlkOk.blk h1 hn;have hne:l.b≠D:=fun e'=>by rw[e',h0]at e;cases e
    refine⟨cs,T,fr,by rw[hot _ hne];exact e,e2,fun i j x y g1 g2 g3=>?_,e4,f9e4⟩;obtain⟨v,f1,f2,f3⟩:=e3 i j x y g1 g2 g3;exact⟨v,f1,f2,hx _ _ f3⟩
  | tr Ty k els z=>
    obtain⟨h1,ht⟩:=h1;refine⟨⟨h1.hk,h1.ht,h1.hsh,h1.hz,h1.hB,h1.wid,h1.fit,fun hn=>?_,h1.free⟩,ht.same (hot _ fun e'=>by obtain⟨_,_,e⟩:=ht.ty;rw[e',h0]at e;cases e)⟩;obtain⟨cs,T,fr,e,e2,e3,e4,f9e4⟩:=BlkOk.blk h1 hn;have hne:l.b≠D:=fun e'=>by rw[e',h0]at e;cases e
    refine⟨cs,T,fr,by rw[hot _ hne];exact e,e2,fun i j x y g1 g2 g3=>?_,e4,f9e4⟩;obtain⟨v,f1,f2,f3⟩:=e3 i j x y g1 g2 g3;exact⟨v,f1,f2,hx _ _ f3⟩
 ·have h1:=hi.imm.c b o v h;refine Bj h1 (hot b fun e=>?_);rw[e]at h1;simp[World.cell?,h0]at h1
 ·simp only[Bool.and_eq_true,bne_iff_ne]at hxg;rw[hot x hxg.2];exact hi.imm.g x hxg.1
theorem DU {fn:Func}{n:Nat}{R:Ending->World->Prop}{tmps:Array Value}{I1:Imm}{L1:List Lay}:∀(l:List Nat) {I:Imm}{w:World},Inv B0 w0 I H L w->Ext I1 L1 I L->l.Nodup->(∀ D∈l,I.g D=true/\I1.g D=false/\B0<=D) ->
  (∀ I' w',Inv B0 w0 I' H L w'->Ext I1 L1 I' L->(∀ a v,Rep I L a v->Rep I' L a v)->LeavesIn Fence.wide n P fn tmps R [] .returning w')->LeavesInM Fence.wide n P fn tmps R (l.map mkD) .returning w
 | [],I,w,hi,hx,_,_,hR=>hR I w hi hx (fun _ _ h=>h)
 | D::l,I,w,hi,hx,hn,hl,hR=>by
   obtain⟨h1,h2,h3⟩:=hl D (List.mem_cons_self ..);obtain⟨w',t1,t2⟩:=hi.closeDf (P:=P) h1 h3;obtain⟨n1,n2⟩:=List.nodup_cons.1 hn;have hxx:Ext I1 L1 ⟨I.c,fun x=>I.g x&&x != D,I.vars⟩ L:=⟨⟨hx.imm.c,fun x hg=>by
    have hne:x≠D:=fun e=>by rw[e,h2]at hg;cases hg
    simp[hx.imm.g x hg,hne]⟩,hx.lay⟩
   refine⟨by simp,.inl ⟨D,w',rfl,t1,?_⟩⟩;refine DU l t2 hxx n2 (fun E hE=>?_) (fun I' w'' g1 g2 g3=>hR I' w'' g1 g2 fun a v h=>g3 a v (h.monoS (I:=I) (I':=⟨I.c,fun x=>I.g x&&x != D,I.vars⟩) (fun _ _ _ _ h=>h) (Ext.refl I L).lay));obtain⟨k1,k2,k3⟩:=hl E (List.mem_cons_of_mem _ hE);have hne:E≠D:=fun e=>n1 (e ▸ hE);exact⟨by simp[k1,hne],k2,k3⟩
theorem GA (hext:ExtOk P pol) (hcf:CfOk P cf) (hit:ItOk it) (hm:P.follows .mixedOrders=true):FnOk P (evBody P pol cf it):=by
 intro f args H r H' hne h;unfold evBody at h;split at h
 ·rename_i g hg;exact hext f g hg args H r H' h
 ·split at h
  ·simp at h
  ·rename_i fn hfn;split at h
   ·simp at h
   ·rename_i c hc;split at h
    ·simp at h
    ·rename_i hname;split at h
     ·simp at h
     ·rename_i as H1 hfrz
      have hrest:∃ e s vs,(e=.norm∨e=.ret)/\evCode P cf it (pol.muts f) (cfgOf pol f H1.length) c { n:=as.length+(fn.ntmps-as.length),t:=initT 0 as [],h:=H1 } = some (e,s) /\
        evResults P s fn.results.toList=some vs/\retPol pol f H1 (packRes vs) s.h=some (r,H'):=by
       split at h
       ·rename_i s hev;split at h
        ·rename_i vs hvs;exact⟨_,s,vs,.inl rfl,hev,hvs,h⟩
        ·simp at h
       ·rename_i s hev;split at h
        ·rename_i vs hvs;exact⟨_,s,vs,.inr rfl,hev,hvs,h⟩
        ·simp at h
       ·simp at h
      obtain⟨e,s,vs,he,hev,hvs,hret⟩:=hrest;refine⟨fun us w=>?_,fun B0 w0 w I L us hi hus=>?_⟩
      ·unfold callFunc;simp only[Sem.run_bind,run_program,Result.andThen_ok,hfn];rw[if_neg (by simpa using hname),if_neg (by simp[hc])];rfl
      ·obtain⟨I1,a1,a2,a3,a4⟩:=CC (pol:=pol) f args 0 hi hfrz;refine callsIn_wide.1 (callsIn_of_wp_marks (n:=0) hfn hc trivial ?_);have hs0:StOk B0 ⟨w0.w,w0.I,false⟩ I1 L { n:=as.length+(fn.ntmps-as.length),t:=initT 0 as [],h:=H1 } { tmps:=us++Array.replicate (fn.ntmps-us.size) undef,defers:=[] } w:=by
        have hsz:us.size=as.length:=by rw[hus.1,a3]
        refine⟨I1,L,a1.fx false,.refl I1 L,.nil,?_⟩;refine Gf as 0 [] (fun i y hy=>?_) (fun q hq=>by cases hq) ⟨by simp[hsz],List.Pairwise.nil,fun q hq=>by cases hq⟩;have hlt:=(List.getElem?_eq_some_iff.1 hy).1;refine⟨by show 0+i<as.length+(fn.ntmps-as.length);omega,?_⟩;have hxl:i<args.length:=by omega
        have:=hus.2 i _ (getElem?_eq_getElem hxl);have h3:=a4 i _ y (getElem?_eq_getElem hxl) hy I1 (.refl I1) _ (this.mono (a2.ext L));have e1:(us++Array.replicate (fn.ntmps-us.size) undef).getD (0+i) undef=us.getD i undef:=by
         have hlt2:i<us.size:=by omega
         rw[Nat.zero_add];simp only[Array.getD_eq_getD_getElem?,Array.getElem?_append_left hlt2]
        rw[e1];exact h3
       refine wpIn_mono (AZ (ro:=none) (fun _ _=>rfl) (Eb a1.len) hcf hit hm c (.inl rfl) hev hs0) (fun e1 a' w' hp=>?_);have fin:StOk B0 ⟨w0.w,w0.I,false⟩ I1 L s a' w'->bodyPostM Fence.wide 0 P fn (fun e w'=>∃ v I' L',e=.returned v/\Inv B0 w0 I' H' L' w'/\Ext I L I' L'/\Rep I' L' r v) .ret a' w':=by
        rintro⟨I2,L2,b1,b2,⟨l,d1,d2,_,d3⟩,b4⟩;show LeavesInM Fence.wide 0 P fn a'.tmps _ a'.defers .returning w';rw[d1];refine DU l b1 b2 d2 d3 (fun I2' w2 b1' b2' hr=>?_);have b4':TmOk I2' L2 s.n s.t a'.tmps:=⟨b4.1,b4.2.1,fun q hq=>⟨(b4.2.2 q hq).1,hr _ _ (b4.2.2 q hq).2⟩⟩;obtain⟨v,g1,g2⟩:=E6 (fn:=fn) b1' b4' hvs;obtain⟨I3,L3,c1,c2,c3⟩:=Fw (pol:=pol) a1 b1'.unfx b2' g2 hret;exact⟨v,g1,v,I3,L3,rfl,c1,(a2.ext L).trans c2,c3⟩
       cases e1 with
       | normal=>exact fin hp.2
       | ret=>exact fin hp.2
       | exit id=>
         rcases he with h|h
         ·rw[h]at hp;exact absurd hp.1 (by simp)
         ·rw[h]at hp;exact absurd hp.1 (by simp)
       | goto l=>exact hp.elim
       | panic c=>exact hp.elim
       | outgrown=>exact hp.elim
variable [VarTab]
set_option linter.unusedSectionVars false
open Go.RowKit
variable {P:Program}{pol:Pol}{cf:CF}{it:It}{B0:Nat}{w0:Base}{w w':World}{I I':Imm}{H:List MB}{L:List Lay}
theorem Fk {L:List Lay}:∀(ps:List Nat) (as:List AV) (vs:List Value) {s s':St}{tmps:Array Value},bindPs ps as s=some s'->vs.length=as.length->(∀(i:Nat) (y:AV) (u:Value),as[i]?=some y->vs[i]?=some u->Rep I L y u)->TmOk I L s.n s.t tmps ->
  ps.length=as.length/\s'.h=s.h/\s'.n=s.n/\TmOk I L s'.n s'.t ((ps.zip vs).foldl (fun t q=>t.setIfInBounds q.1 q.2) tmps)
 | [],[],vs,s,s',tmps,h,hv,_,ht=>by
   simp[bindPs]at h;subst h;exact⟨rfl,rfl,rfl,by simpa using ht⟩
 | [],_::_,vs,s,s',tmps,h,_,_,_=>by simp[bindPs]at h
 | _::_,[],vs,s,s',tmps,h,_,_,_=>by simp[bindPs]at h
 | p::ps,a::as,[],s,s',tmps,_,hv,_,_=>by simp at hv
 | p::ps,a::as,v::vs,s,s',tmps,h,hv,hr,ht=>by
   simp only[bindPs]at h;split at h
   ·have h1:TmOk I L (s.put (some p) a).n (s.put (some p) a).t (tmps.setIfInBounds p v):=Cn (a:=⟨tmps,[]⟩) ht (some p) (hr 0 a v rfl rfl) s.h;obtain⟨e1,e2,e3,e4⟩:=Fk ps as vs h (by simpa using hv) (fun i y u h1 h2=>hr (i+1) y u (by simpa using h1) (by simpa using h2)) h1;exact⟨by simp[e1],e2,e3,by simpa using e4⟩
   ·cases h
theorem wd_n {ro:Option Nat}{n m:Nat}{c:Code}{Q:Exit->Act->World->Prop}{a:Act} (h:c.wpIn (wd ro) n P Q a w):c.wpIn (wd ro) m P Q a w:=
 fun b k cs h1 h2 _=>h b k cs h1 h2 (fun d hd=>by simp[wd]at hd)
theorem FB (hcf:CfOk P cf) (hit:ItOk it) (hm:P.follows .mixedOrders=true) {id:Nat}{as:List AV}{H':List MB}{r:AV}{f n:Nat}{t:Tm}{ps:List Nat}{c:Code×Code}{s s1 s2 s':St}{e:EX}{l:Nat}{vs:Array Value} (hm0:H[id]?=some (.lp .ready f n t ps c))
  (hb:bindPs ps as ⟨n,t,H⟩=some s) (hasg:evCode P cf it (pol.muts f) { cfgOf pol f H.length with rf:=none } c.1 s=some (.norm,s1)) (hbeg:beginRd id s1 f n t ps c=some s2)
  (hev:evCode P cf it (pol.muts f) { cfgOf pol f H.length with rf:=none } c.2 s2=some (e,s')) (h:endRd id e s' f n t ps c=some (r,H')) (hi:Inv B0 w0 I H L w) (hl:Rep I L (.yld id) (.func (.yield l) #[] #[])) (hus:RepL I L as vs) :
  ∃ f tmps assign body,(Instr.yield l vs).run P w=.ok (.round l f tmps assign body) w /\
    ∀ ro n,RoundIn (wd ro) n P l f tmps assign body w (fun e w'=>∃ v I' L',e=.returned v/\Inv B0 w0 I' H' L' w'/\Ext I L I' L'/\Rep I' L' r v):=by
 obtain⟨l0,r0,k1,k2,k3,k4,k5,k6,k7,k8,k9⟩:=hi.lpRec hm0 hl;subst k2;have k9':TmOk I L n t r0.tmps:=k9.resolve_left (by simp);have hv2:∀(i:Nat) (y:AV) (u:Value),as[i]?=some y->vs.toList[i]?=some u->Rep I L y u:=fun i y u h1 h2=>by
  have:=hus.2 i y h1;rw[Array.getElem?_toList]at h2
  rwa [Array.getD_eq_getD_getElem?,h2]at this
 obtain⟨b1,b2,b3,b4⟩:=Fk (s:=⟨n,t,H⟩) (tmps:=r0.tmps) ps as vs.toList hb (by simpa using hus.1) hv2 k9';have hsz:vs.size=r0.params.size:=by rw[hus.1,<- b1,<- k6];simp
 refine⟨r0.fn,_,r0.assign,r0.body,run_yield k4 hsz,fun ro m=>?_⟩;refine roundIn_of_wpIn trivial ?_;rw[k7,k8];have hs0:StOk B0 ⟨w0.w,w0.I,false⟩ I L s { tmps:=(r0.params.zip vs).foldl (fun tmps q=>tmps.setIfInBounds q.1 q.2) r0.tmps,defers:=[] } w:=by
  refine⟨I,L,by rw[b2];exact hi.fx false,.refl I L,.nil,?_⟩;have e1:(r0.params.zip vs).foldl (fun tmps q=>tmps.setIfInBounds q.1 q.2) r0.tmps=(ps.zip vs.toList).foldl (fun t q=>t.setIfInBounds q.1 q.2) r0.tmps:=by
   rw[<- k6,<- Array.foldl_toList,Array.toList_zip]
  rw[e1];exact b4
 have hcode1:=AZ (ro:=some l0.b) (m:={ cfgOf pol f H.length with rf:=none }) (fun f h=>by cases h) (fun i q hq=>Eb hi.len i q hq) hcf hit hm c.1 (.inl rfl) hasg hs0;refine wd_n (wpIn_mono hcode1 (fun e0 a0 w1 hp0=>?_));have begin1:StOk B0 ⟨w0.w,w0.I,false⟩ I L s1 a0 w1->∃ w2,(Instr.beginRound l0.b).run P w1=.ok () w2/\StOk B0 ⟨w0.w,w0.I,false⟩ I L s2 a0 w2:=by
  rintro⟨I',L',i1,i2,i3,i4⟩;unfold beginRd at hbeg;split at hbeg
  ·rename_i f' n' t' ps' c' hm1;split at hbeg
   ·rename_i hc;obtain⟨⟨rfl,rfl,rfl⟩,q1,q2⟩:=hc;obtain rfl:=MB.eq_of_beqT _ _ q1;obtain rfl:=Dg q2;simp only[Option.some.injEq]at hbeg;subst hbeg;obtain⟨l1,r1,m1,m2,m3,m4,m5,m6,m7,m8,m9⟩:=i1.lpRec hm1 (hl.mono i2);have m9':=m9.resolve_left (by simp);have:=i1.setRec (st':=.busy) (n':=n') (t':=t') (r':={ r1 with state:=.busy }) hm1 m1 m3 (by rw[<- m2];exact m4) rfl m6 m7 m8 (.inr m9') (fun h=>by cases h);rw[<- m2]at this;exact⟨_,run_beginRound m4 m5.1,I',L',this,i2,i3,i4⟩
   ·cases hbeg
  ·cases hbeg
 have hgo:StOk B0 ⟨w0.w,w0.I,false⟩ I L s1 a0 w1->∃ w2,(Instr.beginRound l0.b).run P w1=.ok () w2/\c.2.wpIn ((wd ro).inRound l0.b) m P (roundPost P l0.b fun e w'=>∃ v I' L',e=.returned v/\Inv B0 w0 I' H' L' w'/\Ext I L I' L'/\Rep I' L' r v) a0 w2:=by
  intro hst;obtain⟨w2,z1,hs2⟩:=begin1 hst;refine⟨w2,z1,?_⟩;have hcode:=AZ (ro:=some l0.b) (m:={ cfgOf pol f H.length with rf:=none }) (fun f h=>by cases h) (fun i q hq=>Eb hi.len i q hq) hcf hit hm c.2 (.inl rfl) hev hs2;refine wd_n (wpIn_mono hcode (fun e1 a1 w1 hp=>?_));have fin:∀ jump:Option Code,StOk B0 ⟨w0.w,w0.I,false⟩ I L s' a1 w1->jump=jumpOf e->∃ v w2,(Instr.endRound l0.b jump).run P w1=.ok v w2/\∃ v' I' L',Ending.returned v=.returned v'/\Inv B0 w0 I' H' L' w2/\Ext I L I' L'/\Rep I' L' r v':=by
   rintro jump ⟨I',L',i1,i2,i3,i4⟩ rfl;unfold endRd at h;split at h
   ·rename_i f' n' t' ps' c' hm1;split at h
    ·rename_i hc;obtain⟨⟨rfl,rfl,rfl⟩,q1,q2⟩:=hc;obtain rfl:=MB.eq_of_beqT _ _ q1;obtain rfl:=Dg q2;obtain⟨l1,r1,m1,m2,m3,m4,m5,m6,m7,m8,m9⟩:=i1.lpRec hm1 (hl.mono i2);have m9':=m9.resolve_left (by simp);rw[m2]at m4;refine⟨_,_,run_endRound _ (by rw[m2];exact m4),?_⟩;cases e with
     | norm=>
       simp only[Option.some.injEq,Prod.mk.injEq]at h;obtain⟨rfl,rfl⟩:=h;have:=i1.setRec (st':=.ready) (n':=n') (t':=t') (r':={ r1 with state:=.ready,pending:=none }) hm1 m1 m3 m4 ⟨rfl,rfl⟩ m6 m7 m8 (.inr m9') (fun h=>by cases h);exact⟨_,I',L',rfl,by rw[m2];exact this.unfx,i2,.bool true⟩
     | exit id=>
       simp only[Option.some.injEq,Prod.mk.injEq]at h;obtain⟨rfl,rfl⟩:=h;have:=i1.setRec (st':=.done (.exit id)) (n':=n') (t':=t') (r':={ r1 with state:=.done,pending:=some (.exit id) }) hm1 m1 m3 m4 ⟨rfl,rfl,by simp⟩ m6 m7 m8 (.inr m9') (fun h=>by cases h);exact⟨_,I',L',rfl,by rw[m2];exact this.unfx,i2,.bool false⟩
     | ret=>
       simp only[Option.some.injEq,Prod.mk.injEq]at h;obtain⟨rfl,rfl⟩:=h;have:=i1.setRec (st':=.done .ret) (n':=n') (t':=t') (r':={ r1 with state:=.done,pending:=some .ret }) hm1 m1 m3 m4 ⟨rfl,rfl,by simp⟩ m6 m7 m8 (.inr m9') (fun h=>by cases h);exact⟨_,I',L',rfl,by rw[m2];exact this.unfx,i2,.bool false⟩
    ·cases h
   ·cases h
  cases e1 with
  | normal=>exact fin none hp.2 (by rw[hp.1];rfl)
  | exit id=>exact fin _ hp.2 (by rw[hp.1];rfl)
  | ret=>exact fin _ hp.2 (by rw[hp.1];rfl)
  | goto l=>exact hp.elim
  | panic c=>exact hp.elim
  | outgrown=>exact hp.elim
 cases e0 with
 | normal=>exact hgo hp0.2
 | exit id=>exact absurd hp0.1 (by simp)
 | ret=>exact absurd hp0.1 (by simp)
 | goto l=>exact hp0.elim
 | panic c=>exact hp0.elim
 | outgrown=>exact hp0.elim
theorem E9 (hcf:CfOk P cf) (hit:ItOk it) (hm:P.follows .mixedOrders=true) {args:List AV}{H':List MB}{r:AV} (h:evYield P pol cf it args H=some (r,H')):YieldSound P args H r H':=by
 rintro id as rfl B0 w0 w I L l vs hi hl hus;simp only[evYield]at h;split at h
 ·rename_i f n t ps c hm0;split at h
  ·rename_i s hb;split at h
   ·rename_i s1 hasg;split at h
    ·rename_i s2 hbeg;split at h
     ·rename_i e s' hev;exact FB hcf hit hm hm0 hb hasg hbeg hev h hi hl hus
     ·cases h
    ·cases h
   ·cases h
  ·cases h
 ·cases h
theorem F8 (hext:ExtOk P pol) (hcf:CfOk P cf) (hit:ItOk it) (hm:P.follows .mixedOrders=true):CfOk P (evStep P pol cf it):=by
 have hb:=GA hext hcf hit hm;refine⟨fun f args H r H' hf h=>?_,fun args H r H' h=>?_⟩
 rotate_left
 ·unfold evStep at h;split at h
  ·rintro id as rfl;have key:∀ {l:List AV}{K K':List MB},frzArgs pol yldF 0 (.yld id::as) K=some (l,K')->AV.underL 0 l=true->False:=by
    intro l K K' h1 h2;simp only[frzArgs]at h1;have e:(if pol.byref yldF 0=true then some (AV.yld id,K) else fz (.yld id) K)=some (.yld id,K):=by split<;>rfl
    rw[e]at h1;simp only[]at h1;split at h1
    ·cases h1;simp[AV.underL,AV.under]at h2
    ·cases h1
   split at h
   ·rename_i hz;split at h
    ·rename_i hu;exact(key hz hu).elim
    ·cases h
   ·cases h
  ·rw[if_pos rfl]at h;exact E9 hcf hit hm h
 unfold evStep at h;simp only[if_neg hf]at h;split at h
 ·split at h
  ·rename_i as H1 hz;split at h
   ·rename_i hu;cases hq:evBody P pol cf it f as [] with
    | none=>rw[hq]at h;simp[rebase]at h
    | some q=>
      obtain⟨r0,K⟩:=q;rw[hq]at h;have hs:=Ds hu (hb f as [] r0 K hf hq) h;refine⟨hs.1,fun B0 w0 w I L us hi hus=>?_⟩;obtain⟨I1,a1,a2,a3,a4⟩:=CC (pol:=pol) f args 0 hi hz;have hus1:RepL I1 L as us:=by
       refine⟨by rw[hus.1,a3],fun i y hy=>?_⟩;have hlt:i<args.length:=by
        have:=(List.getElem?_eq_some_iff.1 hy).1;omega
       exact a4 i _ y (getElem?_eq_getElem hlt) hy I1 (.refl I1) _ ((hus.2 i _ (getElem?_eq_getElem hlt)).mono (a2.ext L))
      refine(hs.2 B0 w0 w I1 L us a1 hus1).mono ?_;rintro e w' ⟨v,I',L',e1,e2,e3,e4⟩;exact⟨v,I',L',e1,e2,(a2.ext L).trans e3,e4⟩
   ·simp at h
  ·simp at h
 ·exact hb f args H r H' hf h
variable [VarTab]
set_option linter.unusedSectionVars false
open Go.RowKit
variable {P:Program}{pol:Pol}{cf cf':CF}{it:It}{mu:List Nat}{m:Cfg}
theorem Bg {b b':St->Option (EX×St)} (h:∀ s r,b s=some r->b' s=some r) (m:Msk):∀(n n':Nat) (s:St) (r:EX×St),n<=n'->iterN b m n s=some r->iterN b' m n' s=some r
 | 0,n',s,r,_,h1=>by simp[iterN]at h1
 | n+1,0,s,r,hn,_=>by omega
 | n+1,n' + 1,s,r,hn,h1=>by
   simp only[iterN]at h1 |-;cases hb:b (prep m s) with
   | none=>rw[hb]at h1;simp at h1
   | some q=>
     rw[hb]at h1;rw[h _ _ hb];obtain⟨e,s'⟩:=q;cases e with
     | norm=>exact Bg h m n n' s' r (by omega) h1
     | exit id=>exact h1
     | ret=>exact h1
open Classical in
noncomputable def itL:It:=fun b m s=>if h:∃ r,∃ n,iterN b m n s=some r then some h.choose else none
theorem Bz {b:St->Option (EX×St)}{m:Msk}{s:St}{r:EX×St}:itL b m s=some r↔∃ n,iterN b m n s=some r:=by
 unfold itL;constructor
 ·intro h;split at h
  ·rename_i hx;simp at h;subst h;exact hx.choose_spec
  ·simp at h
 ·rintro⟨n,hn⟩;rw[dif_pos ⟨r,n,hn⟩];obtain⟨n',hn'⟩:=(show ∃ r,∃ n,iterN b m n s=some r from⟨r,n,hn⟩).choose_spec;have h1:=Bg (b:=b) (fun _ _ h=>h) m n (n+n') s r (by omega) hn;have h2:=Bg (b:=b) (fun _ _ h=>h) m n' (n+n') s _ (by omega) hn';rw[h1]at h2;exact h2.symm
theorem LL:ItOk itL:=fun _ _ _ _ h=>Bz.1 h
theorem HW (b:St->Option (EX×St)) (m:Msk) (s:St):itL b m s=match b (prep m s) with
  | some (.norm,s')=>itL b m s'
  | r=>r:=by
 apply Option.ext;intro r;rw[Bz];cases hb:b (prep m s) with
 | none=>
   simp only[];constructor
   ·rintro⟨n,hn⟩;cases n with
    | zero=>simp[iterN]at hn
    | succ n=>simp[iterN,hb]at hn
   ·intro h;simp at h
 | some q=>
   obtain⟨e,s'⟩:=q;cases e with
   | norm=>
     simp only[];rw[Bz];constructor
     ·rintro⟨n,hn⟩;cases n with
      | zero=>simp[iterN]at hn
      | succ n=>exact⟨n,by simpa [iterN,hb] using hn⟩
     ·rintro⟨n,hn⟩;exact⟨n+1,by simpa [iterN,hb] using hn⟩
   | exit id=>
     constructor
     ·rintro⟨n,hn⟩;cases n with
      | zero=>simp[iterN]at hn
      | succ n=>simpa [iterN,hb] using hn
     ·intro h;exact⟨1,by simpa [iterN,hb] using h⟩
   | ret=>
     constructor
     ·rintro⟨n,hn⟩;cases n with
      | zero=>simp[iterN]at hn
      | succ n=>simpa [iterN,hb] using hn
     ·intro h;exact⟨1,by simpa [iterN,hb] using h⟩
def CLe (cf cf':CF):Prop:=∀ f args H r,cf f args H=some r->cf' f args H=some r
def ItLe (it it':It):Prop:=∀ b b' m s r,(∀ s r,b s=some r->b' s=some r)->it b m s=some r->it' b' m s=some r
theorem Cg:ItLe itL itL:=fun b b' m s r h h1=>by
 rw[Bz]at h1 |-;obtain⟨n,hn⟩:=h1;exact⟨n,Bg h m n n s r (le_refl _) hn⟩
theorem LK (n:Nat):ItLe (fun b m s=>iterN b m n s) itL:=fun b b' m s r h h1=>Bz.2 ⟨n,Bg h m n n s r (le_refl _) h1⟩
theorem Er (h:CLe cf cf') {g:Nat}{args:List AV}{H:List MB}{r:AV×List MB} (h1:cfn cf g args H=some r):cfn cf' g args H=some r:=by
 unfold cfn at h1 |-;split at h1
 ·cases h1
 ·rename_i hg;rw[if_neg hg];exact h _ _ _ _ h1
theorem GC (h:CLe cf cf'):CLe (evAlone cf) (evAlone cf'):=by
 intro f args H r h1;unfold evAlone at h1 |-;split at h1
 ·rename_i hu;split at h1
  ·rename_i r0 h0;rw[if_pos hu,h _ _ _ _ h0];exact h1
  ·cases h1
 ·cases h1
theorem Gr (h:CLe cf cf'):CLe (evThaw cf) (evThaw cf'):=by
 intro f args H r h1;unfold evThaw at h1 |-;split at h1
 ·rename_i as ha;split at h1
  ·rename_i r0 K h0;rw[h _ _ _ _ h0];exact h1
  ·cases h1
 ·cases h1
theorem IY (h:CLe cf cf') {ρ:Operand->AV}{H:List MB}{o:Oper}{r:AV×List MB} (h1:evOp P cf mu ρ H o=some r):evOp P cf' mu ρ H o=some r:=by
 obtain⟨dst,op,type,pos,after,guard⟩:=o;cases op
 case makeFunc fn first cap=>cases fn<;>exact h1
 case call c=>
  obtain⟨callee,args,ats⟩:=c;cases callee with
  | builtin b=>exact h1
  | invoke x y=>exact h1
  | value f=>
    have key:∀ {c1 c2:CF},CLe c1 c2->evCall c1 ρ H type ⟨.value f,args,ats⟩=some r->evCall c2 ρ H type ⟨.value f,args,ats⟩=some r:=by
     intro c1 c2 h h1;simp only[evCall]at h1 |-;split at h1
     ·exact Er h h1
     ·exact Er h h1
     ·exact h _ _ _ _ h1
     ·simp at h1
    simp only[evOp]at h1 |-;split at h1
    ·rename_i hi;rw[if_pos hi];exact key (GC h) h1
    ·rename_i hi;rw[if_neg hi];split at h1
     ·rename_i hj;rw[if_pos hj];exact key (Gr h) h1
     ·rename_i hj;rw[if_neg hj];exact key h h1
 all_goals exact h1
theorem Bi (h:CLe cf cf') {ops:List Oper}{o:Oper}{s s':St} (h1:evOne P cf mu ops o s=some s'):evOne P cf' mu ops o s=some s':=by
 unfold evOne at h1 |-;split at h1
 ·split at h1
  ·rename_i v H hop;simp only[IY h hop];exact h1
  ·simp at h1
 ·exact h1
 ·simp at h1
theorem DE (h:CLe cf cf') {ops:List Oper}:∀(l:List Oper) {s s':St},evOps P cf mu ops l s=some s'->evOps P cf' mu ops l s=some s'
 | [],s,s',h1=>h1
 | o::l,s,s',h1=>by
   simp only[evOps]at h1 |-;split at h1
   ·rename_i s1 hs;rw[Bi h hs];exact DE h l h1
   ·simp at h1
theorem Bq (h:CLe cf cf') {ops:List Oper}:∀(l:List Oper) (i:Nat) {s:St}{r:List (Nat×FP)×St},evOpsD P cf mu ops i l s=some r->evOpsD P cf' mu ops i l s=some r
 | [],i,s,r,h1=>h1
 | o::l,i,s,r,h1=>by
   simp only[evOpsD]at h1 |-;split at h1
   ·rename_i b hb;split at h1
    ·rename_i s1 hs;rw[Bi h hs];simp only[];split at h1
     ·rename_i fl s2 h2;rw[Bq h l (i+1) h2];exact h1
     ·simp at h1
    ·simp at h1
   ·simp at h1
theorem B6 (h:CLe cf cf') {ops:List Oper}:∀(l:List Nat) {s:St}{r:List (Nat×FP)×St},evOpsI P cf mu ops l s=some r->evOpsI P cf' mu ops l s=some r
 | [],s,r,h1=>h1
 | i::l,s,r,h1=>by
   simp only[evOpsI]at h1 |-;split at h1
   ·simp at h1
   ·rename_i o ho;split at h1
    ·rename_i b hb;split at h1
     ·rename_i s1 hs;rw[Bi h hs];simp only[];split at h1
      ·rename_i fl s2 h2;rw[B6 h l h2];exact h1
      ·simp at h1
     ·simp at h1
    ·simp at h1
theorem FC (h:CLe cf cf') {ops:Array Oper}{al:Option (Nat×Nat×List Nat)}{d:Bool}{s s':St} (h1:evRegion P cf mu ops al d s=some s'):evRegion P cf' mu ops al d s=some s':=by
 unfold evRegion at h1 |-;split at h1
 ·rename_i hd;rw[if_pos hd];split at h1
  ·split at h1
   ·rename_i fl s1 h2;rw[Bq h _ _ h2];exact h1
   ·simp at h1
  ·split at h1
   ·rename_i fl s1 h2;rw[Bq h _ _ h2];simp only[];split at h1
    ·rename_i fl2 s2 h3;rw[B6 h _ h3];exact h1
    ·simp at h1
   ·simp at h1
 ·rename_i hd;rw[if_neg hd];exact DE h _ h1
theorem Ab (h:CLe cf cf') {it it':It} (hi:ItLe it it'):∀(c:Code) {s:St}{r:EX×St},evCode P cf it mu m c s=some r->evCode P cf' it' mu m c s=some r
 | .skip,s,r,h1=>h1
 | .label _,s,r,h1=>h1
 | .region _ ops d,s,r,h1=>by
   simp only[evCode]at h1 |-;cases hr:evRegion P cf mu ops (m.al _) d s with
   | none=>rw[hr]at h1;simp at h1
   | some s1=>rw[hr]at h1;rw[FC h hr];exact h1
 | .seq a b,s,r,h1=>by
   simp only[evCode]at h1 |-;cases ha:evCode P cf it mu m a s with
   | none=>rw[ha]at h1;simp at h1
   | some q=>
     rw[ha]at h1;rw[Ab h hi a ha];obtain⟨e,s1⟩:=q;cases e with
     | norm=>exact Ab h hi b h1
     | exit id=>exact h1
     | ret=>exact h1
 | .cond c x y,s,r,h1=>by
   simp only[evCode]at h1 |-;split at h1
   ·exact Ab h hi x h1
   ·exact Ab h hi y h1
   ·simp at h1
 | .block id b,s,r,h1=>by
   simp only[evCode]at h1 |-;cases hb:evCode P cf it mu m b s with
   | none=>rw[hb]at h1;simp at h1
   | some q=>
     rw[hb]at h1;rw[Ab h hi b hb];exact h1
 | .loop b,s,r,h1=>by
   simp only[evCode]at h1 |-;exact hi _ _ _ _ _ (fun s r hh=>Ab h hi b hh) h1
 | .scope b,s,r,h1=>by
   simp only[evCode]at h1 |-;exact Ab h hi b h1
 | .exit _,s,r,h1=>h1
 | .ret,s,r,h1=>h1
 | .rangeFunc _ _ _ b,s,r,h1=>by
   simp only[evCode]at h1 |-;split at h1
   ·rename_i f hh cs hmf hg;split at h1
    ·rename_i v H' hc;rw[Er h hc];exact h1
    ·cases h1
   ·cases h1
 | .goto _,s,r,h1=>by simp[evCode]at h1
 | .refuse _,s,r,h1=>by simp[evCode]at h1
theorem Dw (h:CLe cf cf') {it it':It} (hi:ItLe it it'):CLe (evBody P pol cf it) (evBody P pol cf' it'):=by
 intro f args H r h1;unfold evBody at h1 |-;split at h1
 ·exact h1
 ·split at h1
  ·simp at h1
  ·rename_i fn hfn;split at h1
   ·simp at h1
   ·rename_i c hc;split at h1
    ·simp at h1
    ·rename_i hn;rw[if_neg hn];split at h1
     ·simp at h1
     ·rename_i as H1 hz;cases hev:evCode P cf it (pol.muts f) (cfgOf pol f H1.length) c { n:=as.length+(fn.ntmps-as.length),t:=initT 0 as [],h:=H1 } with
      | none=>rw[hev]at h1;simp at h1
      | some q=>
        rw[hev]at h1;rw[Ab h hi c hev];exact h1
theorem F5 (h:CLe cf cf') {it it':It} (hi:ItLe it it') {args:List AV}{H:List MB}{r:AV×List MB} (h1:evYield P pol cf it args H=some r):evYield P pol cf' it' args H=some r:=by
 unfold evYield at h1 |-;split at h1
 ·split at h1
  ·rename_i hm;split at h1
   ·rename_i s hb;split at h1
    ·rename_i s1 hasg;rw[Ab h hi _ hasg];simp only[];split at h1
     ·rename_i s2 hbeg;split at h1
      ·rename_i e s' hev;rw[Ab h hi _ hev];exact h1
      ·cases h1
     ·cases h1
    ·cases h1
   ·cases h1
  ·cases h1
 ·cases h1
theorem Ch (h:CLe cf cf') {it it':It} (hi:ItLe it it'):CLe (evStep P pol cf it) (evStep P pol cf' it'):=by
 intro f args H r h1;unfold evStep at h1 |-;split at h1
 ·rename_i hp;rw[if_pos hp];split at h1
  ·rename_i as H1 hz;split at h1
   ·rename_i hu;rw[if_pos hu];cases hb:evBody P pol cf it f as [] with
    | none=>rw[hb]at h1;simp[rebase]at h1
    | some q=>
      rw[hb]at h1;rw[Dw h hi f as [] q hb];exact h1
   ·simp at h1
  ·simp at h1
 ·rename_i hp;rw[if_neg hp];split at h1
  ·rename_i hy;rw[if_pos hy];exact F5 h hi h1
  ·rename_i hy;rw[if_neg hy];exact Dw h hi f args H r h1
noncomputable def cL (P:Program) (pol:Pol):Nat->CF
 | 0=>fun _ _ _=>none
 | k+1=>evStep P pol (cL P pol k) itL
theorem Km (k:Nat):CLe (cL P pol k) (cL P pol (k+1)):=by
 induction k with
 | zero=>intro f args H r h;simp[cL]at h
 | succ k ih=>exact Ch ih Cg
theorem BO {k k':Nat} (h:k<=k'):CLe (cL P pol k) (cL P pol k'):=by
 induction h with
 | refl=>exact fun _ _ _ _ h=>h
 | step _ ih=>exact fun f a H r h=>Km _ f a H r (ih f a H r h)
open Classical in
noncomputable def call (P:Program) (pol:Pol):CF:=fun f args H=>if h:∃ r,∃ k,cL P pol k f args H=some r then some h.choose else none
theorem Bb {f:Nat}{args:List AV}{H:List MB}{r:AV×List MB}:call P pol f args H=some r↔∃ k,cL P pol k f args H=some r:=by
 unfold call;constructor
 ·intro h;split at h
  ·rename_i hx;simp at h;subst h;exact hx.choose_spec
  ·simp at h
 ·rintro⟨k,hk⟩;rw[dif_pos ⟨r,k,hk⟩];obtain⟨k',hk'⟩:=(show ∃ r,∃ k,cL P pol k f args H=some r from⟨r,k,hk⟩).choose_spec;have h1:=BO (show k<=k+k' by omega) _ _ _ _ hk;have h2:=BO (show k'<=k+k' by omega) _ _ _ _ hk';rw[h1]at h2;exact h2.symm
theorem Hh (k:Nat):CLe (cL P pol k) (call P pol):=fun _ _ _ _ h=>Bb.2 ⟨k,h⟩
theorem GE {c1:CF}{c2:Nat->CF} (hc:∀ f as H r,c1 f as H=some r->∃ k,c2 k f as H=some r) {g:Nat}{args:List AV}{H:List MB}{r:AV×List MB} (h:cfn c1 g args H=some r):∃ k,cfn (c2 k) g args H=some r:=by
 unfold cfn at h;split at h
 ·cases h
 ·rename_i hg;obtain⟨k,hk⟩:=hc _ _ _ _ h;exact⟨k,by unfold cfn;rw[if_neg hg];exact hk⟩
theorem Df {ops:List Oper}{o:Oper}{s s':St} (h:evOne P (call P pol) mu ops o s=some s'):∃ k,evOne P (cL P pol k) mu ops o s=some s':=by
 have hop:∀ {v},evOp P (call P pol) mu s.ev s.h o=some v->∃ k,evOp P (cL P pol k) mu s.ev s.h o=some v:=by
  intro v hv;obtain⟨dst,op,type,pos,after,guard⟩:=o;cases op
  case makeFunc fn first cap=>cases fn<;>exact⟨0,hv⟩
  case call c=>
   obtain⟨callee,args,ats⟩:=c;cases callee with
   | builtin b=>exact⟨0,hv⟩
   | invoke x y=>exact⟨0,hv⟩
   | value f=>
     have key:∀(c1:CF) (c2:Nat->CF),(∀ f as H r,c1 f as H=some r->∃ k,c2 k f as H=some r)->evCall c1 s.ev s.h type ⟨.value f,args,ats⟩=some v->∃ k,evCall (c2 k) s.ev s.h type ⟨.value f,args,ats⟩=some v:=by
      intro c1 c2 hc hv;simp only[evCall]at hv |-;split at hv
      ·rename_i g cs hg;exact GE hc hv
      ·rename_i g cs hg;exact GE hc hv
      ·exact hc _ _ _ _ hv
      ·simp at hv
     simp only[evOp]at hv |-;split at hv
     ·rename_i hi;simp only[if_pos hi];refine key (evAlone (call P pol)) (fun k=>evAlone (cL P pol k)) (fun f as H r h=>?_) hv;unfold evAlone at h;split at h
      ·rename_i hu;split at h
       ·rename_i r0 h0;obtain⟨k,hk⟩:=Bb.1 h0;refine⟨k,?_⟩;unfold evAlone;rw[if_pos hu,show cL P pol k f as []=_ from hk];exact h
       ·cases h
      ·cases h
     ·rename_i hi;simp only[if_neg hi];split at hv
      ·rename_i hj;simp only[if_pos hj];refine key (evThaw (call P pol)) (fun k=>evThaw (cL P pol k)) (fun f as H r h=>?_) hv;unfold evThaw at h;split at h
       ·rename_i as' ha;split at h
        ·rename_i r0 K h0;obtain⟨k,hk⟩:=Bb.1 h0;refine⟨k,?_⟩;unfold evThaw;rw[ha];simp only[];rw[show cL P pol k f as' []=_ from hk];exact h
        ·cases h
       ·cases h
      rename_i hj;simp only[if_neg hj];exact key (call P pol) (fun k=>cL P pol k) (fun f as H r h=>Bb.1 h) hv
  all_goals exact⟨0,hv⟩
 unfold evOne at h;split at h
 ·rename_i hw;split at h
  ·rename_i v H hv;obtain⟨k,hk⟩:=hop hv;exact⟨k,by unfold evOne;rw[hw];simp only[hk];exact h⟩
  ·simp at h
 ·rename_i hw;exact⟨0,by unfold evOne;rw[hw];exact h⟩
 ·simp at h
theorem Ff {ops:List Oper}:∀(l:List Oper) {s s':St},evOps P (call P pol) mu ops l s=some s'->∃ k,evOps P (cL P pol k) mu ops l s=some s'
 | [],s,s',h=>⟨0,h⟩
 | o::l,s,s',h=>by
   simp only[evOps]at h;split at h
   ·rename_i s1 h1;obtain⟨k1,e1⟩:=Df h1;obtain⟨k2,e2⟩:=Ff l h;refine⟨k1+k2,?_⟩;simp only[evOps];rw[Bi (BO (by omega)) e1];exact DE (BO (by omega)) l e2
   ·simp at h
theorem DF {ops:List Oper}:∀(l:List Oper) (i:Nat) {s:St}{r:List (Nat×FP)×St},evOpsD P (call P pol) mu ops i l s=some r->∃ k,evOpsD P (cL P pol k) mu ops i l s=some r
 | [],i,s,r,h=>⟨0,h⟩
 | o::l,i,s,r,h=>by
   simp only[evOpsD]at h;split at h
   ·rename_i b hb;split at h
    ·rename_i s1 h1;split at h
     ·rename_i fl s2 h2;obtain⟨k1,e1⟩:=Df h1;obtain⟨k2,e2⟩:=DF l (i+1) h2;refine⟨k1+k2,?_⟩;simp only[evOpsD];rw[hb,Bi (BO (by omega)) e1];simp only[];rw[Bq (BO (show k2<=k1+k2 by omega)) l (i+1) e2];exact h
     ·simp at h
    ·simp at h
   ·simp at h
theorem Ek {ops:List Oper}:∀(l:List Nat) {s:St}{r:List (Nat×FP)×St},evOpsI P (call P pol) mu ops l s=some r->∃ k,evOpsI P (cL P pol k) mu ops l s=some r
 | [],s,r,h=>⟨0,h⟩
 | i::l,s,r,h=>by
   simp only[evOpsI]at h;split at h
   ·simp at h
   ·rename_i o ho;split at h
    ·rename_i b hb;split at h
     ·rename_i s1 h1;split at h
      ·rename_i fl s2 h2;obtain⟨k1,e1⟩:=Df h1;obtain⟨k2,e2⟩:=Ek l h2;refine⟨k1+k2,?_⟩;simp only[evOpsI];rw[ho];simp only[];rw[hb,Bi (BO (by omega)) e1];simp only[];rw[B6 (BO (show k2<=k1+k2 by omega)) l e2];exact h
      ·simp at h
     ·simp at h
    ·simp at h
theorem F9 {ops:Array Oper}{al:Option (Nat×Nat×List Nat)}{d:Bool}{s s':St} (h:evRegion P (call P pol) mu ops al d s=some s'):∃ k,evRegion P (cL P pol k) mu ops al d s=some s':=by
 unfold evRegion at h;split at h
 ·rename_i hd;split at h
  ·split at h
   ·rename_i fl s1 h2;obtain⟨k,e⟩:=DF _ _ h2;exact⟨k,by unfold evRegion;rw[if_pos hd];simp only[];rw[e];exact h⟩
   ·simp at h
  ·split at h
   ·rename_i fl s1 h2;split at h
    ·rename_i fl2 s2 h3;obtain⟨k1,e1⟩:=DF _ _ h2;obtain⟨k2,e2⟩:=Ek _ h3;refine⟨k1+k2,?_⟩;unfold evRegion;rw[if_pos hd];simp only[];rw[Bq (BO (show k1<=k1+k2 by omega)) _ _ e1];simp only[];rw[B6 (BO (show k2<=k1+k2 by omega)) _ e2];exact h
    ·simp at h
   ·simp at h
 ·rename_i hd;obtain⟨k,e⟩:=Ff _ h;exact⟨k,by unfold evRegion;rw[if_neg hd];exact e⟩
theorem BK:∀(c:Code) {s:St}{r:EX×St},evCode P (call P pol) itL mu m c s=some r->∃ k,evCode P (cL P pol k) itL mu m c s=some r
 | .skip,s,r,h=>⟨0,h⟩
 | .label _,s,r,h=>⟨0,h⟩
 | .region _ ops d,s,r,h=>by
   simp only[evCode]at h;cases hr:evRegion P (call P pol) mu ops (m.al _) d s with
   | none=>rw[hr]at h;simp at h
   | some s1=>
     obtain⟨k,e⟩:=F9 hr;refine⟨k,?_⟩;rw[hr]at h;simp only[evCode,e];exact h
 | .seq a b,s,r,h=>by
   simp only[evCode]at h;cases ha:evCode P (call P pol) itL mu m a s with
   | none=>rw[ha]at h;simp at h
   | some q=>
     rw[ha]at h;obtain⟨k1,e1⟩:=BK a ha;obtain⟨e,s1⟩:=q;cases e with
     | norm=>
       obtain⟨k2,e2⟩:=BK b h;refine⟨k1+k2,?_⟩;simp only[evCode];rw[Ab (BO (show k1<=k1+k2 by omega)) Cg a e1];exact Ab (BO (show k2<=k1+k2 by omega)) Cg b e2
     | exit id=>exact⟨k1,by simp only[evCode,e1];exact h⟩
     | ret=>exact⟨k1,by simp only[evCode,e1];exact h⟩
 | .cond c x y,s,r,h=>by
   simp only[evCode]at h;split at h
   ·rename_i hc;obtain⟨k,e⟩:=BK x h;exact⟨k,by simp only[evCode,hc];exact e⟩
   ·rename_i hc;obtain⟨k,e⟩:=BK y h;exact⟨k,by simp only[evCode,hc];exact e⟩
   ·simp at h
 | .block id b,s,r,h=>by
   simp only[evCode]at h;cases hb:evCode P (call P pol) itL mu m b s with
   | none=>rw[hb]at h;simp at h
   | some q=>
     rw[hb]at h;obtain⟨k,e⟩:=BK b hb;exact⟨k,by simp only[evCode,e];exact h⟩
 | .loop b,s,r,h=>by
   simp only[evCode]at h;rw[Bz]at h;obtain⟨n,hn⟩:=h
   suffices hs:∀ n s,iterN (fun s=>evCode P (call P pol) itL mu m b s) (m.lp (loopId b)) n s=some r->∃ k,iterN (fun s=>evCode P (cL P pol k) itL mu m b s) (m.lp (loopId b)) n s=some r by
    obtain⟨k,e⟩:=hs n s hn;exact⟨k,by simp only[evCode];exact Bz.2 ⟨n,e⟩⟩
   clear hn n;intro n
   induction n with
   | zero=>intro s hn;simp[iterN]at hn
   | succ n ih=>
     intro s hn;simp only[iterN]at hn;cases hb:evCode P (call P pol) itL mu m b (prep (m.lp (loopId b)) s) with
     | none=>rw[hb]at hn;simp at hn
     | some q=>
       rw[hb]at hn;obtain⟨k1,e1⟩:=BK b hb;obtain⟨e,s1⟩:=q;cases e with
       | norm=>
         obtain⟨k2,e2⟩:=ih s1 hn;refine⟨k1+k2,?_⟩;simp only[iterN];rw[Ab (BO (show k1<=k1+k2 by omega)) Cg b e1];exact Bg (fun s r hh=>Ab (BO (show k2<=k1+k2 by omega)) Cg b hh) (m.lp (loopId b)) n n s1 r (le_refl _) e2
       | exit id=>exact⟨k1,by simp only[iterN,e1];exact hn⟩
       | ret=>exact⟨k1,by simp only[iterN,e1];exact hn⟩
 | .scope b,s,r,h=>by
   simp only[evCode]at h;obtain⟨k,e⟩:=BK b h;exact⟨k,by simp only[evCode];exact e⟩
 | .exit _,s,r,h=>⟨0,h⟩
 | .ret,s,r,h=>⟨0,h⟩
 | .rangeFunc _ _ _ b,s,r,h=>by
   simp only[evCode]at h;split at h
   ·rename_i f hh cs hmf hg;split at h
    ·rename_i v H' hc;obtain⟨k,hk⟩:=GE (c2:=cL P pol) (fun f as H r h=>Bb.1 h) hc;refine⟨k,?_⟩;simp only[evCode,hmf,hg,hk];exact h
    ·cases h
   ·cases h
 | .goto _,s,r,h=>by simp[evCode]at h
 | .refuse _,s,r,h=>by simp[evCode]at h
theorem En {f:Nat}{args:List AV}{H:List MB}{r:AV×List MB} (h:evBody P pol (call P pol) itL f args H=some r):∃ k,evBody P pol (cL P pol k) itL f args H=some r:=by
 unfold evBody at h |-;split at h
 ·exact⟨0,h⟩
 ·split at h
  ·simp at h
  ·rename_i fn hfn;split at h
   ·simp at h
   ·rename_i c hc;split at h
    ·simp at h
    ·rename_i hn;split at h
     ·simp at h
     ·rename_i as H1 hz;cases hev:evCode P (call P pol) itL (pol.muts f) (cfgOf pol f H1.length) c { n:=as.length+(fn.ntmps-as.length),t:=initT 0 as [],h:=H1 } with
      | none=>rw[hev]at h;simp at h
      | some q=>
        obtain⟨k,e⟩:=BK c hev;refine⟨k,?_⟩;rw[hev]at h;rw[if_neg hn,e];exact h
theorem Gq {args:List AV}{H:List MB}{r:AV×List MB} (h:evYield P pol (call P pol) itL args H=some r):∃ k,evYield P pol (cL P pol k) itL args H=some r:=by
 unfold evYield at h |-;split at h
 ·split at h
  ·rename_i hm;split at h
   ·rename_i s hb;split at h
    ·rename_i s1 hasg;split at h
     ·rename_i s2 hbeg;split at h
      ·rename_i e s' hev;obtain⟨k1,e1⟩:=BK _ hasg;obtain⟨k2,e2⟩:=BK _ hev;refine⟨k1+k2,?_⟩;rw[Ab (BO (show k1<=k1+k2 by omega)) Cg _ e1];simp only[];rw[hbeg];simp only[];rw[Ab (BO (show k2<=k1+k2 by omega)) Cg _ e2];exact h
      ·cases h
     ·cases h
    ·cases h
   ·cases h
  ·cases h
 ·cases h
theorem Bn:call P pol=evStep P pol (call P pol) itL:=by
 funext f args H
 apply Option.ext;intro r;constructor
 ·intro h;obtain⟨k,hk⟩:=Bb.1 h;cases k with
  | zero=>simp[cL]at hk
  | succ k=>exact Ch (Hh k) Cg f args H r hk
 ·intro h;rw[Bb]
  suffices ∃ k,evStep P pol (cL P pol k) itL f args H=some r by
   obtain⟨k,e⟩:=this;exact⟨k+1,e⟩
  unfold evStep at h |-;split at h
  ·rename_i hp;split at h
   ·rename_i as H1 hz;split at h
    ·rename_i hu;cases hb:evBody P pol (call P pol) itL f as [] with
     | none=>rw[hb]at h;simp[rebase]at h
     | some q=>
       obtain⟨k,e⟩:=En hb;rw[hb]at h;exact⟨k,by rw[if_pos hp,if_pos hu,e];exact h⟩
    ·simp at h
   ·simp at h
  ·rename_i hp;split at h
   ·rename_i hy;obtain⟨k,e⟩:=Gq h;exact⟨k,by rw[if_neg hp,if_pos hy];exact e⟩
   ·rename_i hy;obtain⟨k,e⟩:=En h;exact⟨k,by rw[if_neg hp,if_neg hy];exact e⟩
theorem Kl (hext:ExtOk P pol) (hm:P.follows .mixedOrders=true):CfOk P (call P pol):=by
 have hk:∀ k,CfOk P (cL P pol k):=by
  intro k
  induction k with
  | zero=>exact⟨fun f args H r H' _ h=>by simp[cL]at h,fun args H r H' h=>by simp[cL]at h⟩
  | succ k ih=>exact F8 hext ih LL hm
 refine⟨fun f args H r H' hf h=>?_,fun args H r H' h=>?_⟩
 ·obtain⟨k,e⟩:=Bb.1 h;exact(hk k).1 f args H r H' hf e
 ·obtain⟨k,e⟩:=Bb.1 h;exact(hk k).2 args H r H' e
theorem Bv {n:Nat}:∀(k:Nat),CLe (evF P pol n k) (call P pol)
 | 0=>fun f args H r h=>by simp[evF]at h
 | k+1=>fun f args H r h=>by
   rw[Bn];exact Ch (Bv k) (LK n) f args H r (by simpa [evF] using h)
variable [VarTab]
set_option linter.unusedSectionVars false
universe u v
open Go.RowKit
variable {P:Program}{pol:Pol}{cf:CF}{it:It}{mu:List Nat}{m:Cfg}
structure Tag {α:Sort u} (a:α):Type where
structure Tag2 {α:Sort u} {β:Sort v} (a:α) (b:β):Type where
def bindW {α:Type} (o:Option α) (Q:α->Prop) (_t:Tag Q):Prop:=∃ v,o=some v/\Q v
theorem Ac {α:Type} (v:α) (Q:α->Prop) (τ:Tag Q):bindW (some v) Q τ=Q v:=by simp[bindW]
theorem CQ {α:Type} (Q:α->Prop) (τ:Tag Q):bindW none Q τ=False:=by simp[bindW]
theorem Dj {α β:Type} (o:Option α) (f:α->β) (Q:β->Prop) (τ:Tag Q):bindW (o.map f) Q τ=bindW o (fun v=>Q (f v)) .mk:=by
 cases o<;>simp[bindW]
theorem Ig {α:Type} (c:Prop) [Decidable c] (a:Option α) (Q:α->Prop) (τ:Tag Q):bindW (if c then a else none) Q τ=(c/\bindW a Q .mk):=by
 by_cases h:c<;>simp[h,bindW]
theorem Hk {α:Type} (c:Prop) [Decidable c] (a:Option α) (Q:α->Prop) (τ:Tag Q):bindW (if c then none else a) Q τ=(¬c/\bindW a Q .mk):=by
 by_cases h:c<;>simp[h,bindW]
def splitB (b:Bool) (X Y:Prop) (_t:Tag2 X Y):Prop:=(b=true->X)/\(b=false->Y)
section
variable (X Y:Prop) (τ:Tag2 X Y)
theorem Bc:splitB true X Y τ=X:=by simp[splitB]
theorem Ba:splitB false X Y τ=Y:=by simp[splitB]
theorem E5 (p:Prop) [Decidable p]:splitB (decide p) X Y τ=((p->X)/\(¬p->Y)):=by simp[splitB]
theorem HJ {α:Type} [DecidableEq α] (a b:α):splitB (a==b) X Y τ=((a=b->X)/\(a≠b->Y)):=by simp[splitB]
theorem HI {α:Type} [DecidableEq α] (a b:α):splitB (a != b) X Y τ=((a≠b->X)/\(a=b->Y)):=by simp[splitB]
theorem HH (b:Bool):splitB (!b) X Y τ=splitB b Y X .mk:=by cases b<;>simp[splitB]
end
def asB:AV->Option Bool
 | .bool b=>some b
 | _=>none
theorem G6 (b:Bool):asB (.bool b)=some b:=rfl
def WO (P:Program) (cf:CF) (mu:List Nat) (ops rest:List Oper) (s:St) (Q:St->Prop) (_t:Tag2 rest Q):Prop:=bindW (evOps P cf mu ops rest s) Q .mk
theorem Lb {ops:List Oper}{s:St}{Q:St->Prop} {τ}:WO P cf mu ops [] s Q τ=Q s:=by simp[WO,evOps,bindW]
theorem Kv {ops rest:List Oper} {dst op ty pos after}{n:Nat}{t:Tm}{H:List MB}{Q:St->Prop} {τ} :
  WO P cf mu ops (⟨dst,op,ty,pos,after,none⟩::rest) ⟨n,t,H⟩ Q τ =
   bindW (evOp P cf mu (St.ev ⟨n,t,H⟩) H ⟨dst,op,ty,pos,after,none⟩) (fun q=>WO P cf mu ops rest (St.put ⟨n,t,q.2⟩ dst q.1) Q .mk) .mk:=by
 simp only[WO,evOps,evOne,evWanted];cases h:evOp P cf mu (St.ev ⟨n,t,H⟩) H ⟨dst,op,ty,pos,after,none⟩ with
 | none=>simp[bindW]
 | some q=>simp[bindW]
def guardV (ops:List Oper) (j:Nat) (t:Tm):Option (Nat×AV):=
 match ops[j]? with
 | some q=>match q.dst with
   | some d=>(look t d).map fun v=>(d,v)
   | none=>some (0,.tup [])
 | none=>some (0,.tup [])
def upd (d:Nat) (v:AV):Tm->Tm
 | []=>[]
 | (k,u)::t=>if k=d then(k,v)::t else(k,u)::upd d v t
def guardW (q:Nat×AV) (w:Bool) (t:Tm) (X:Tm->Prop) (Y:Tm->Prop) (_t:Tag2 X Y):Prop:=
 match q.2 with
 | .bool b=>splitB b (if w=true then X (upd q.1 (.bool true) t) else Y (upd q.1 (.bool true) t)) (if w=false then X (upd q.1 (.bool false) t) else Y (upd q.1 (.bool false) t)) .mk
 | .tup []=>Y t
 | _=>False
theorem B5 {d:Nat}{b w:Bool}{t:Tm}{X Y:Tm->Prop} {τ}:guardW (d,.bool b) w t X Y τ =
 splitB b (if w=true then X (upd d (.bool true) t) else Y (upd d (.bool true) t)) (if w=false then X (upd d (.bool false) t) else Y (upd d (.bool false) t)) .mk:=rfl
theorem B1 {d:Nat}{w:Bool}{t:Tm}{X Y:Tm->Prop} {τ}:guardW (d,.tup []) w t X Y τ=Y t:=rfl
theorem DN {d:Nat}{v:AV}:∀ {t:Tm},look t d=some v->upd d v t=t
 | (k,u)::t,h=>by
   simp only[look]at h;simp only[upd];split
   ·rename_i e;rw[if_pos e]at h;simp at h;rw[h]
   ·rename_i e;rw[if_neg e]at h;rw[DN h]
theorem J1 {ops rest:List Oper} {dst op ty pos after}{j:Nat}{w:Bool}{n:Nat}{t:Tm}{H:List MB}{Q:St->Prop} {τ} :
  WO P cf mu ops (⟨dst,op,ty,pos,after,some (j,w)⟩::rest) ⟨n,t,H⟩ Q τ =
  bindW (guardV ops j t) (fun q=>guardW q w t
   (fun t=>bindW (evOp P cf mu (St.ev ⟨n,t,H⟩) H ⟨dst,op,ty,pos,after,none⟩) (fun q=>WO P cf mu ops rest (St.put ⟨n,t,q.2⟩ dst q.1) Q .mk) .mk)
   (fun t=>WO P cf mu ops rest (St.put ⟨n,t,H⟩ dst (.tup [])) Q .mk) .mk) .mk:=by
 have hop:∀ g,evOp P cf mu (St.ev ⟨n,t,H⟩) H ⟨dst,op,ty,pos,after,g⟩=evOp P cf mu (St.ev ⟨n,t,H⟩) H ⟨dst,op,ty,pos,after,none⟩:=fun g=>rfl
 have run:evWanted ops ⟨n,t,H⟩ ⟨dst,op,ty,pos,after,some (j,w)⟩=some true->WO P cf mu ops (⟨dst,op,ty,pos,after,some (j,w)⟩::rest) ⟨n,t,H⟩ Q τ =
   bindW (evOp P cf mu (St.ev ⟨n,t,H⟩) H ⟨dst,op,ty,pos,after,none⟩) (fun q=>WO P cf mu ops rest (St.put ⟨n,t,q.2⟩ dst q.1) Q .mk) .mk:=by
  intro h;simp only[WO,evOps,evOne,h,hop];cases evOp P cf mu (St.ev ⟨n,t,H⟩) H ⟨dst,op,ty,pos,after,none⟩<;>simp[bindW]
 have skip:evWanted ops ⟨n,t,H⟩ ⟨dst,op,ty,pos,after,some (j,w)⟩=some false->WO P cf mu ops (⟨dst,op,ty,pos,after,some (j,w)⟩::rest) ⟨n,t,H⟩ Q τ =
   WO P cf mu ops rest (St.put ⟨n,t,H⟩ dst (.tup [])) Q .mk:=by
  intro h;simp only[WO,evOps,evOne,h]
 have stuck:evWanted ops ⟨n,t,H⟩ ⟨dst,op,ty,pos,after,some (j,w)⟩=none->WO P cf mu ops (⟨dst,op,ty,pos,after,some (j,w)⟩::rest) ⟨n,t,H⟩ Q τ=False:=by
  intro h;simp only[WO,evOps,evOne,h,CQ]
 unfold guardV;cases hq0:ops[j]? with
 | none=>
   rw[skip (by simp[evWanted,hq0])];simp only[Ac,B1]
 | some q=>
   simp only[];cases hd:q.dst with
   | none=>
     rw[skip (by simp[evWanted,hq0,hd])];simp only[Ac,B1]
   | some d=>
     simp only[];cases htd:look t d with
     | none=>
       rw[stuck (by simp[evWanted,hq0,hd,htd])];simp[bindW]
     | some u=>
       simp only[Option.map_some,Ac];have st:(∀ b,u≠.bool b)->u≠.tup []->evWanted ops ⟨n,t,H⟩ ⟨dst,op,ty,pos,after,some (j,w)⟩=none:=by
        intro h1 h2;simp only[evWanted,hq0,hd,htd];cases u with
        | bool b=>exact absurd rfl (h1 b)
        | tup l=>cases l with
          | nil=>exact absurd rfl h2
          | cons a l=>rfl
        | _=>rfl
       have ss:=DN htd;cases u with
       | bool b=>
         rw[B5];cases b<;>cases w
         ·rw[run (by simp[evWanted,hq0,hd,htd]),Ba,if_pos rfl,ss]
         ·rw[skip (by simp[evWanted,hq0,hd,htd])];simp[Ba,ss]
         ·rw[skip (by simp[evWanted,hq0,hd,htd])];simp[Bc,ss]
         ·rw[run (by simp[evWanted,hq0,hd,htd]),Bc,if_pos rfl,ss]
       | tup l=>
         cases l with
         | nil=>rw[skip (by simp[evWanted,hq0,hd,htd])];rfl
         | cons a l=>rw[stuck (st (by simp) (by simp))];rfl
       | _=>rw[stuck (st (by simp) (by simp))];rfl
def W (P:Program) (cf:CF) (it:It) (mu:List Nat) (m:Cfg) (c:Code) (s:St) (Q:EX->St->Prop) (_t:Tag2 c Q):Prop:=
 bindW (evCode P cf it mu m c s) (fun q=>Q q.1 q.2) .mk
def thenK (k:St->Prop) (Q:EX->St->Prop):EX->St->Prop
 | .norm,s=>k s
 | e,s=>Q e s
theorem HD {k:St->Prop}{Q:EX->St->Prop}{s:St}:thenK k Q .norm s=k s:=rfl
theorem HE {k:St->Prop}{Q:EX->St->Prop}{s:St}{i:Nat}:thenK k Q (.exit i) s=Q (.exit i) s:=rfl
theorem IG {k:St->Prop}{Q:EX->St->Prop}{s:St}:thenK k Q .ret s=Q .ret s:=rfl
def blockK (l:List Nat) (id:Nat) (Q:EX->St->Prop):EX->St->Prop
 | .exit i,s=>if i=id then Q .norm (dropSt l s) else Q (.exit i) s
 | .norm,s=>Q .norm (dropSt l s)
 | .ret,s=>Q .ret s
theorem G1 {l:List Nat}{id:Nat}{Q:EX->St->Prop}{s:St}:blockK l id Q .norm s=Q .norm (dropSt l s):=rfl
theorem Hj {l:List Nat}{id:Nat}{Q:EX->St->Prop}{s:St}:blockK l id Q .ret s=Q .ret s:=rfl
theorem G2 {l:List Nat}{id i:Nat}{Q:EX->St->Prop}{s:St}:blockK l id Q (.exit i) s=if i=id then Q .norm (dropSt l s) else Q (.exit i) s:=rfl
theorem MR {a b:Code}{s:St}{Q:EX->St->Prop} {τ}:W P cf it mu m (.seq a b) s Q τ=W P cf it mu m a s (thenK (fun s=>W P cf it mu m b s Q .mk) Q) .mk:=by
 simp only[W,evCode];cases evCode P cf it mu m a s with
 | none=>simp[bindW]
 | some q=>
   obtain⟨e,s'⟩:=q;cases e<;>simp[bindW,thenK]
theorem J0 {id:Nat}{os:List Oper}{s:St}{Q:EX->St->Prop} {τ}:W P cf it mu m (.region id ⟨os⟩ false) s Q τ=WO P cf mu os os s (fun s=>Q .norm (dropSt (m.dd id) (actL (m.ra id) s))) .mk:=by
 simp only[W,WO,evCode,evRegion,Bool.false_eq_true,if_false,Dj]
theorem LW {s:St}{Q:EX->St->Prop} {τ}:W P cf it mu m .skip s Q τ=Q .norm s:=by simp[W,evCode,bindW]
theorem Ks {l:Nat}{s:St}{Q:EX->St->Prop} {τ}:W P cf it mu m (.label l) s Q τ=Q .norm s:=by simp[W,evCode,bindW]
theorem MT {s:St}{Q:EX->St->Prop} {τ}:W P cf it mu m .ret s Q τ=Q .ret s:=by simp[W,evCode,bindW]
theorem LY {id:Nat}{s:St}{Q:EX->St->Prop} {τ}:W P cf it mu m (.exit id) s Q τ=Q (.exit id) s:=by simp[W,evCode,bindW]
theorem Kr {b:Code}{s:St}{Q:EX->St->Prop} {τ}:W P cf it mu m (.scope b) s Q τ=W P cf it mu m b s Q .mk:=by simp[W,evCode]
theorem Ku {id:Nat}{b:Code}{s:St}{Q:EX->St->Prop} {τ}:W P cf it mu m (.block id b) s Q τ=W P cf it mu m b s (blockK (m.bd id) id Q) .mk:=by
 simp only[W,evCode];cases evCode P cf it mu m b s with
 | none=>simp[bindW]
 | some q=>
   obtain⟨e,s'⟩:=q;cases e with
   | exit i=>by_cases h:i=id<;>simp[bindW,blockK,h]
   | norm=>simp[bindW,blockK]
   | ret=>simp[bindW,blockK]
theorem La {d:Nat}{x y:Code}{n:Nat}{t:Tm}{H:List MB}{Q:EX->St->Prop} {τ}:W P cf it mu m (.cond (.tmp d) x y) ⟨n,t,H⟩ Q τ =
  bindW (look t d) (fun v=>bindW (asB v) (fun b=>splitB b (W P cf it mu m x ⟨n,upd d (.bool true) t,H⟩ Q .mk) (W P cf it mu m y ⟨n,upd d (.bool false) t,H⟩ Q .mk) .mk) .mk) .mk:=by
 cases hv:look t d with
 | none=>
   have hg:lookD t d=.top:=by unfold lookD;rw[hv]
   simp only[W,evCode,St.ev,hg,CQ]
 | some v=>
   have hg:lookD t d=v:=by unfold lookD;rw[hv]
   have ss:=DN hv;simp only[Ac];cases v with
   | bool b=>cases b<;>simp only[W,evCode,St.ev,hg,G6,Ac,Bc,Ba,ss]
   | _=>simp only[W,evCode,St.ev,hg,asB,CQ]
def roundK (k:St->Prop) (Q:EX->St->Prop):EX->St->Prop
 | .norm,s=>k s
 | e,s=>Q e s
theorem GT {k:St->Prop}{Q:EX->St->Prop}{s:St}:roundK k Q .norm s=k s:=rfl
theorem GU {k:St->Prop}{Q:EX->St->Prop}{s:St}{i:Nat}:roundK k Q (.exit i) s=Q (.exit i) s:=rfl
theorem HM {k:St->Prop}{Q:EX->St->Prop}{s:St}:roundK k Q .ret s=Q .ret s:=rfl
theorem LX {b:Code}{Q:EX->St->Prop} (J:Nat->St->Prop)
  (h:∀ n s,J n s->W P cf itL mu m b (prep (m.lp (loopId b)) s) (roundK (fun s'=>∃ n',n'<n/\J n' s') Q) .mk) :
  ∀(n:Nat) (s:St),J n s->W P cf itL mu m (.loop b) s Q .mk:=by
 intro n
 induction n using Nat.strongRecOn with
 | ind n ih=>
   intro s hs;obtain⟨⟨e,s'⟩,h1,h2⟩:=h n s hs;simp only[W,evCode];cases e with
   | norm=>
     obtain⟨n',hn,hj⟩:=h2;obtain⟨q,q1,q2⟩:=ih n' hn s' hj;refine⟨q,?_,q2⟩;rw[HW];simp only[evCode]at q1;simp only[h1];exact q1
   | exit id=>exact⟨_,by rw[HW];simp only[h1],h2⟩
   | ret=>exact⟨_,by rw[HW];simp only[h1],h2⟩
theorem E1 {σ:Type}{b:Code}{Q:EX->St->Prop}{M:Msk} (hM:m.lp (loopId b)=M) (T:σ->St) (Inv:σ->Prop) (μ:σ->Nat) (x0:σ)
  (h:∀ x,Inv x->W P cf itL mu m b (T x) (roundK (fun s'=>∃ x',Inv x'/\μ x'<μ x/\prep M s' = T x') Q) .mk)
  (h0:Inv x0) (s:St) (hs:prep M s=T x0):W P cf itL mu m (.loop b) s Q .mk:=by
 subst hM;refine LX (fun n s=>∃ x,Inv x/\μ x=n/\prep (m.lp (loopId b)) s=T x) ?_ (μ x0) s ⟨x0,h0,rfl,hs⟩;rintro n s ⟨x,h1,rfl,h3⟩;rw[h3];obtain⟨q,q1,q2⟩:=h x h1;refine⟨q,q1,?_⟩;obtain⟨e,s'⟩:=q;cases e with
 | norm=>
   obtain⟨x',a,b,c⟩:=q2;exact⟨_,b,x',a,rfl,c⟩
 | exit i=>exact q2
 | ret=>exact q2
theorem Af {b:Code}{Q:EX->St->Prop}{M:Msk} (hM:m.lp (loopId b)=M) (N:Nat) (T:Nat->St) (Inv:Nat->Prop)
  (h:∀ i,i<N->Inv i->W P cf itL mu m b (T i) (roundK (fun s'=>Inv (i+1)/\prep M s' = T (i+1)) Q) .mk)
  (hN:Inv N->W P cf itL mu m b (T N) (roundK (fun _=>False) Q) .mk)
  (h0:Inv 0) (s:St) (hs:prep M s=T 0):W P cf itL mu m (.loop b) s Q .mk:=by
 refine E1 hM T (fun i=>i<=N/\Inv i) (fun i=>N-i) 0 ?_ ⟨Nat.zero_le _,h0⟩ s hs;rintro i ⟨h1,h2⟩;by_cases hi:i<N
 ·obtain⟨q,q1,q2⟩:=h i hi h2;refine⟨q,q1,?_⟩;obtain⟨e,s'⟩:=q;cases e with
  | norm=>exact⟨i+1,⟨hi,q2.1⟩,by show N-(i+1)<N-i;omega,q2.2⟩
  | exit i=>exact q2
  | ret=>exact q2
 ·obtain rfl:i=N:=by omega
  obtain⟨q,q1,q2⟩:=hN h2;refine⟨q,q1,?_⟩;obtain⟨e,s'⟩:=q;cases e with
  | norm=>exact q2.elim
  | exit i=>exact q2
  | ret=>exact q2
def endK (P:Program) (pol:Pol) (f:Nat) (H1:List MB) (rs:List ResultVar) (r:AV×List MB):EX->St->Prop
 | .exit _,_=>False
 | _,s=>bindW (evResults P s rs) (fun vs=>retPol pol f H1 (packRes vs) s.h=some r) .mk
theorem Ia {f H1 rs r s}:endK P pol f H1 rs r .norm s=bindW (evResults P s rs) (fun vs=>retPol pol f H1 (packRes vs) s.h=some r) .mk:=rfl
theorem Ji {f H1 rs r s}:endK P pol f H1 rs r .ret s=bindW (evResults P s rs) (fun vs=>retPol pol f H1 (packRes vs) s.h=some r) .mk:=rfl
theorem IZ {f:Nat}{args:List AV}{H:List MB}{r:AV×List MB}{fn:Func}{c:Code} (he:pol.ext f=none) (hf:P.funcs[f]?=some fn) (hc:fn.body=some c)
  (hn:(fn.name == "runtime.NumGoroutine")=false)
  (h:bindW (frzArgs pol f 0 args H) (fun q=>W P cf it (pol.muts f) (cfgOf pol f q.2.length) c ⟨q.1.length+(fn.ntmps-q.1.length),initT 0 q.1 [],q.2⟩ (endK P pol f q.2 fn.results.toList r) .mk) .mk) :
  evBody P pol cf it f args H=some r:=by
 obtain⟨⟨as,H1⟩,hz,⟨e,s⟩,hev,hk⟩:=h;unfold evBody;simp only[he,hf,hc];rw[if_neg (by simpa using hn)];simp only[hz,hev];cases e with
 | exit id=>exact hk.elim
 | norm=>
   obtain⟨vs,h1,h2⟩:=hk;simp only[h1];exact h2
 | ret=>
   obtain⟨vs,h1,h2⟩:=hk;simp only[h1];exact h2
end Go.Ev
