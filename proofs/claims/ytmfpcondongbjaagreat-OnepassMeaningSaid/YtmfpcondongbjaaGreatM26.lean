/- The first match of package sem, and what Run finds: plain. -/
import Derived.Test.YtmfpcondongbjaaGreatM25
set_option linter.unusedVariables false
set_option linter.unusedSimpArgs false
open List (all_append getD_eq_getElem?_getD getElem?_eq_getElem getElem?_set_ne head?_drop length_append map_append map_set map_take mem_map prefix_refl take_of_length_le)
open Nat (le_trans lt_or_ge mul_one)
open Go.Proofs Go.RowKit Go.IntWalk
set_option maxHeartbeats 16000000
set_option maxRecDepth 100000
namespace Go.Ev
def GoodC9 (c:List Int):Prop:=c.length=18/\∀ k,k<9->(c.getD (2*k) 0 = -1/\c.getD (2*k+1) 0 = -1)∨(0<=c.getD (2*k) 0/\0<=c.getD (2*k+1) 0)
theorem Iz:GoodC9 cap0:=⟨rfl,fun k hk=>.inl (by
 have:∀ k,k<9->cap0.getD (2*k) 0 = -1/\cap0.getD (2*k+1) 0 = -1:=by decide
 exact this k hk)⟩
theorem Ou {c:List Int} (h:GoodC9 c) {n:Int} (hn:1<=n) (i j:Nat):GoodC9 (setC c n i j):=by
 obtain⟨m,hm⟩:∃ m:Nat,n=m+1:=⟨(n-1).toNat,by omega⟩;have e1:(2*n-2).toNat=2*m:=by omega
 have e2:(2*n-1).toNat=2*m+1:=by omega
 refine⟨by rw[Gz];exact h.1,fun k hk=>?_⟩;have hl:=h.1;unfold setC;rw[e1,e2];simp only[getD_eq_getElem?_getD];by_cases hkm:k=m
 ·subst hkm;right;rw[getElem?_set_ne (by omega),List.getElem?_set_self (by omega),List.getElem?_set_self (by rw[List.length_set];omega)];simp
 ·have:=h.2 k hk;simp only[getD_eq_getElem?_getD]at this;rw[getElem?_set_ne (by omega),getElem?_set_ne (by omega),getElem?_set_ne (by omega),getElem?_set_ne (by omega)];exact this
theorem KY {P:List Int->Prop}{f:(Nat->List Int->Rs)->Nat->List Int->Rs} (hf:∀ K,(∀ j d,P d->∀ x,K j d=some x->P x.2)->∀ i c,P c->∀ x,f K i c=some x->P x.2) (mn mx md:Int) {K:Nat->List Int->Rs} (hK:∀ j d,P d->∀ x,K j d=some x->P x.2) :
  ∀(m:Nat) (q:Int) (i:Nat) (c:List Int),P c->∀ x,repK f mn mx md K m q i c=some x->P x.2
 | 0,_,_,_,_,x,h=>by simp[repK]at h
 | m+1,q,i,c,hc,x,h=>by
   have ih:=hf _ (fun j d hd x hx=>KY hf mn mx md hK m (q+1) j d hd x hx) i c hc;have hor:∀ a b:Rs,(∀ x,a=some x->P x.2)->(∀ x,b=some x->P x.2)->∀ x,a.or b=some x->P x.2:=fun a b ha hb x hx=>by
    cases a with
    | none=>exact hb x (by simpa using hx)
    | some y=>exact ha x (by simpa using hx)
   have hif:∀ x,(if mx = -1∨q<mx then f (repK f mn mx md K m (q+1)) i c else none)=some x->P x.2:=fun x hx=>by
    split at hx
    ·exact ih x hx
    ·cases hx
   rw[repK]at h;split at h
   ·exact ih x h
   ·split at h
    ·exact hor _ _ (hK i c hc) hif x h
    ·exact hor _ _ hif (hK i c hc) x h
section
variable {caps top:Int}{t:List Int}
mutual
theorem FW:∀(r:Re),wholeG caps top r=true->∀(K:Nat->List Int->Rs),(∀ j d,GoodC9 d->∀ x,K j d=some x->GoodC9 x.2)->∀ i c,GoodC9 c->∀ x,fst t r K i c=some x->GoodC9 x.2
 | .mk op set kids mn mx md n neg,hw,K,hK,i,c,hc,x,h=>by
   obtain⟨hwk,_,_,hcn,_,_⟩:=BG hw;have hH:=Oz kids hwk;rw[fst]at h;split at h
   ·split at h
    ·split at h
     ·exact hK _ _ hc x h
     ·cases h
    ·cases h
   ·split at h
    ·exact Kr kids hwk K hK i c hc x h
    ·split at h
     ·exact Kt kids hwk K hK i c hc x h
     ·split at h
      ·exact KY (P:=GoodC9) (fun K hK i c hc x h=>hH K hK i c hc x h) mn mx md hK _ _ _ _ hc x h
      ·split at h
       ·rename_i h5;exact hH _ (fun j d hd x hx=>hK _ _ (Ou hd (hcn (.inl h5)).1 i j) x hx) i c hc x h
       ·exact hK _ _ hc x h
theorem Kr:∀(l:List Re),(∀ k∈l,wholeG caps top k=true)->∀(K:Nat->List Int->Rs),(∀ j d,GoodC9 d->∀ x,K j d=some x->GoodC9 x.2)->∀ i c,GoodC9 c->∀ x,fstC t l K i c=some x->GoodC9 x.2
 | [],_,K,hK,i,c,hc,x,h=>hK i c hc x h
 | r::rs,hw,K,hK,i,c,hc,x,h=>by
   rw[fstC]at h;exact FW r (hw r (by simp)) _ (fun j d hd y hy=>Kr rs (fun k hk=>hw k (by simp[hk])) K hK j d hd y hy) i c hc x h
theorem Kt:∀(l:List Re),(∀ k∈l,wholeG caps top k=true)->∀(K:Nat->List Int->Rs),(∀ j d,GoodC9 d->∀ x,K j d=some x->GoodC9 x.2)->∀ i c,GoodC9 c->∀ x,fstA t l K i c=some x->GoodC9 x.2
 | [],_,K,hK,i,c,hc,x,h=>by simp[fstA]at h
 | r::rs,hw,K,hK,i,c,hc,x,h=>by
   rw[fstA]at h;cases hq:fst t r K i c with
   | none=>rw[hq]at h;exact Kt rs (fun k hk=>hw k (by simp[hk])) K hK i c hc x (by simpa using h)
   | some y=>rw[hq]at h;exact FW r (hw r (by simp)) K hK i c hc x (by rw[hq];simpa using h)
theorem Oz:∀(l:List Re),(∀ k∈l,wholeG caps top k=true)->∀(K:Nat->List Int->Rs),(∀ j d,GoodC9 d->∀ x,K j d=some x->GoodC9 x.2)->∀ i c,GoodC9 c->∀ x,fstH t l K i c=some x->GoodC9 x.2
 | [],_,K,hK,i,c,hc,x,h=>by simp[fstH]at h
 | r::rs,hw,K,hK,i,c,hc,x,h=>by
   rw[fstH]at h;exact FW r (hw r (by simp)) K hK i c hc x h
end
end
theorem MF {c:List Int} (h:GoodC9 c) (n:Nat) (hn:n<=9):capsN c n=pairsN c n:=by
 unfold capsN pairsN;apply List.map_congr_left;intro k hk;have hk9:k<9:=by have:=List.mem_range.1 hk;omega
 unfold capP;rcases h.2 k hk9 with h1|h1
 ·rw[if_pos (.inl h1.1),h1.1,h1.2]
 ·rw[if_neg (by omega)]
theorem Hq (c:List Int) (n:Nat):capsN (c.take (2*n)) n=capsN c n:=by
 unfold capsN;apply List.map_congr_left;intro k hk;have hk9:=List.mem_range.1 hk;simp only[getD_eq_getElem?_getD,List.getElem?_take];rw[if_pos (by omega),if_pos (by omega)]
def firstM (re:Re) (t:List Int) (i:Nat):Rs:=fst t re (fun j d=>some (j,d)) i cap0
def firstP (re:Re) (t:List Int) (i:Nat):Option Pt:=(firstM re t i).map fun x=>⟨x.1,x.2,[]⟩
theorem NC {caps top:Int}{t:List Int}{F:Nat} (hcaps:caps<=9) {r:Re} (hcp:compG [] r=true) (hw:wholeG caps top r=true) (hna:noAs r=true) (hwt:r.wt<=1000) (i:Nat) (hi:i<=t.length) (hF:costR t r i<=F) :
  (∃ m O' s',runM t F m none [⟨i,cap0,[.re r]⟩] 0=some (firstP r t i,O',s'))/\∀ p,firstP r t i=some p->p.c.length=18/\GoodC9 p.c:=by
 constructor
 ·obtain⟨m,s',h1,h2⟩:=N5 (t:=t) (F:=F) hcaps hcp hw hna hwt i hi cap0 [] 0 (by omega);unfold firstP firstM;cases hq:fst t r (fun j d=>some (j,d)) i cap0 with
  | none=>
    rw[hq]at h2;refine⟨m+1+1,[],s',?_⟩;have:=h2 1;simp only[List.nil_append,runM]at this;rw[runM];exact this
  | some x=>
    rw[hq]at h2;obtain⟨O',h2⟩:=h2;refine⟨m+1+1,O',s',?_⟩;have:=h2 0;rw[runM];exact this
 ·intro p hp;obtain⟨x,hx,rfl⟩:=Option.map_eq_some_iff.1 hp;have:=FW (t:=t) r hw (fun j d=>some (j,d)) (fun j d hd x hx=>by cases hx;exact hd) i cap0 Iz x hx;exact⟨this.1,this⟩
end Go.Ev
namespace Go.Ev
attribute [local go_sem] evAppend evBuild AV.cells AV.ok splice Ae Al bndO bnd evEq eqCells not_false_eq_true not_true_eq_false AX Array.size_empty length_append map_append
section
attribute [local go_sem] BM evMakeSlice tySzE head?_drop mul_one AQ AU AO AR AS AY
theorem FN (l:List Int) (s:MS):noAs (setM l s).1=true:=by
 simp[setM,noAs,noAsL]
theorem IU {uses:Int} (hu:Uses uses) (ha:¬ 0<andI uses 16) (l:List Int):∀ d s,noAs (treeF l uses d s).1=true
 | 0,s=>by
   rw[treeF];unfold leafF;split
   ·simp[noAs,noAsL]
   ·exact FN l _
 | d+1,s=>by
   have ih:=IU hu ha l d;have hk:=fun s=>Fn (P:=fun k=>noAs k=true) l ih s;rw[treeF];generalize nx l 20 ⟨s.at_,s.left-1,s.caps⟩=Y;obtain⟨k,s1⟩:=Y;unfold treeStep;simp only;split
   ·unfold leafF;split
    ·simp[noAs,noAsL]
    ·exact FN l _
   split
   ·have:=(Fl _).2 (hk s1).1;simp[noAs,this]
   split
   ·have:=(Fl _).2 (hk s1).1;simp[noAs,this]
   split
   ·unfold repF;simp only[if_neg hu.u8,hu.u32,true_and];have hm:=Bo l (n:=2) (by omega) (nx l 12 s1).2;generalize nx l 2 (nx l 12 s1).2=m at *;have hm2:m.1=0∨m.1=1:=by omega
    by_cases hn:nullG (treeF l uses d m.2).1=true
    ·rw[if_pos hn];simp only[noAs,noAsL,FN,nullHd,Kd];simp[hm2]
    ·rw[if_neg hn];simp only[noAs,noAsL,ih,nullHd,hn];simp[hm2]
   split
   ·rename_i hc;have hcap:∀(q:Int) (s:MS),noAs (.mk 5 [] [(treeF l uses d s).1] 0 0 0 q false)=true:=fun q s=>by
     simp[noAs,noAsL,ih s]
    exact hcap _ _
   split
   ·rename_i hc;exact absurd hc.2 ha
   split
   ·rename_i hc;exact absurd hc.2 hu.u4
   split
   ·rename_i hc;exact absurd hc.2 hu.u8
   split
   ·rename_i hc;exact absurd hc.2.1 hu.u1
   split
   ·rename_i hc;exact absurd hc.2.1 hu.u2
   ·exact FN l _
theorem f70n (l m:List Int) (hl:∀ x∈l,In64 x) (hm:∀ x∈m,In64 x) (uses:Int) (hu:Uses uses) :
  ∃ r,(∃ re caps t,(FitsOk (decide (0<andI uses 64)) re caps t/\(¬ 0<andI uses 16->noAs re=true))/\r=.tup [patAV ⟨re,caps,false⟩,.sl false (t.map I)])/\∀ H,call Pg pol1 60 [.sl false (l.map I),.sl false (m.map I),I uses,I 24,I 3000] H=some (r,H):=by
 have hpre:Pre (mA1 5) (mS1 5) ⟨0,24,0⟩:=by
  have h1:mS1 5=364:=rfl;have h2:mA1 5=1818:=rfl;exact⟨by simp only[h2];omega,by simp only[h1];omega,by simp only[];omega⟩
 have h11:=f11m l hl uses 24 (by omega);have hcap:=((Gr hl uses 5 (by omega)).2 ⟨0,24,0⟩ hpre).c;have hwt:=Gs l uses 5 ⟨0,24,0⟩;have hgen:=KG hu l 5 ⟨0,24,0⟩;have hlen:=KF hu l 5 ⟨0,24,0⟩;have hnoas:=fun ha=>IU hu ha l 5 ⟨0,24,0⟩;generalize treeF l uses 5 ⟨0,24,0⟩=Y at *;obtain⟨re,s⟩:=Y;simp only at h11 hcap hwt hgen hlen hnoas;obtain⟨n,hn⟩:∃ n:Nat,s.caps=n:=⟨s.caps.toNat,by omega⟩;rw[hn]at h11 hcap;have h122:=f122 m hm;have hT:=N2 m (min m.length 12);have hTl:=Fe m (min m.length 12);generalize textT m (min m.length 12)=T at *;have hTl12:T.length<=12:=by omega
 have h123:=fun(k i:Nat) (hk:i<=(T.take k).length)=>RA (decide (0<andI uses 64)) re n (T.take k) i (le_trans hwt (by decide)) (by omega) (by simp;omega) (fun x hx=>hT x (List.mem_of_mem_take hx)) hgen hk;have hpl:=Az ⟨re,n,false⟩;have hl8:=AM re;have hget8:(reC re++[I n,.bool false])[8]?=some (I n):=by rw[List.getElem?_append_right (by omega),hl8];rfl
 have htk:List.take 10 (reC re++[I n,.bool false])=reC re++[I n,.bool false]:=take_of_length_le (by simp[AM]);have hall:=Ay re;refine CL Tryz.func60 rfl rfl rfl rfl rfl rfl (fun _=>rfl) (by simp[AV.plain,AV.plainL,AF,AG,AH,AI]) ?_ ?_
 ·rintro _ ⟨re,caps,t,_,rfl⟩;have h:=Az ⟨re,caps,false⟩;simp only[AV.plain,AV.plainL,AF,h];rfl
 simp +contextual (disch:=omega) only[Tryz.f60,dd60,go_sem,simprocAttr,evBin,mu60,↓AD,↓AC,↓AB,↓AA,h11,h122,hl8,hget8,htk,hall,all_append];repeat' (first|intro _|apply And.intro|(unfold dOk;kernel_rfl)|(show (_||_)=true;kernel_rfl)|(show (_&&_)=true;kernel_rfl))
 refine Cw (M:=(mskOf (pol1.mask 60) (pol1.gc 60) (pol1.acts 60) 0 4)) rfl (fun k:Nat=>(⟨61,[(14,I ((k:Int)-1)),(13,.sl false (T.map I)),(12,.rf 1 1 0 0),(10,.rf 0 1 0 0),(4,I 3000)],[.row 10 [patZ] 0,.row 10 [patAV ⟨re,n,false⟩] 0]⟩:St)) (fun k=>k<=T.length+1) (fun k=>k) (T.length+1) ?_ (Nat.le_refl _) _ ?_
 ·intro k hk;cases k with
  | zero=>
    have hget8':(patC ⟨re,n,false⟩)[8]?=some (I n):=hget8;simp +contextual (disch:=omega) only[Tryz.f60,dd60,go_sem,simprocAttr,evBin,mu60,↓AD,↓AC,↓AB,↓AA,hget8'];exact⟨_,⟨.mk 0 [] [] 0 0 0 0 false,n,[],⟨L6 _ (by omega),fun _=>rfl⟩,rfl⟩,_,rfl⟩
  | succ k=>
    have e1:((k+1:Nat):Int)-1=(k:Int):=by omega
    rw[e1];have hTk:(T.take k).length=k:=by simp;omega
    simp +contextual (disch:=omega) only[Tryz.f60,dd60,go_sem,simprocAttr,evBin,mu60,↓AD,↓AC,↓AB,↓AA]
    refine Cw (M:=(mskOf (pol1.mask 60) (pol1.gc 60) (pol1.acts 60) 0 8)) rfl (fun g:Nat×Bool=>(⟨61,[(16,I g.1),(15,.bool g.2),(14,I k),(13,.sl false (T.map I)),(12,.rf 1 1 0 0),(10,.rf 0 1 0 0),(4,I 3000)],[.row 10 [patZ] 0,.row 10 [patAV ⟨re,n,false⟩] 0]⟩:St))
     (fun g=>g.1<=k+1/\(g.2=true->∀ j,j<g.1->validP ⟨re,n,false⟩=0/\costR (T.take k) re j<=3000)) (fun g=>k+1-g.1) (0,true) ?_ ⟨by simp,fun _ j hj=>absurd hj (Nat.not_lt_zero j)⟩ _ ?_
    ·rintro⟨i,good⟩ ⟨hi,hg⟩;simp only at hi hg |-;cases good with
     | false=>
       simp +contextual (disch:=omega) only[Tryz.f60,dd60,go_sem,simprocAttr,evBin,mu60,↓AD,↓AC,↓AB,↓AA];exact⟨fun _=>⟨k,by omega,by omega,rfl⟩,fun _=>⟨k,by omega,by omega,rfl⟩⟩
     | true=>
       by_cases hik:i<=k
       ·obtain⟨out,q,e,h1,h2,h3⟩:=h123 k i (by omega);rw[map_take]at h3;simp +contextual (disch:=omega) only[Tryz.f60,dd60,go_sem,simprocAttr,evBin,mu60,↓AD,↓AC,↓AB,↓AA,h3,htk,hall,all_append,hl8,Bool.false_and];repeat' (first|intro _|apply And.intro|(unfold dOk;kernel_rfl)|(show (_||_)=true;kernel_rfl)|(show (_&&_)=true;kernel_rfl))
        ·simp
        refine⟨(i+1,e==0),⟨by simp only[];omega,fun he j hj=>?_⟩,by simp only[];omega,rfl⟩;simp only at he hj;rcases lt_or_ge j i with hji|hji
        ·exact hg rfl j hji
        ·obtain rfl:j=i:=by omega
         exact h2 (by simpa using he)
       ·simp +contextual (disch:=omega) only[Tryz.f60,dd60,go_sem,simprocAttr,evBin,mu60,↓AD,↓AC,↓AB,↓AA,htk,hall,all_append,hl8,Bool.false_and];repeat' (first|intro _|apply And.intro|(unfold dOk;kernel_rfl)|(show (_||_)=true;kernel_rfl)|(show (_&&_)=true;kernel_rfl))
        ·simp
        have hik1:i=k+1:=by omega
        refine⟨_,⟨re,n,T.take k,⟨⟨(hg rfl 0 (by omega)).1,hgen,le_trans hlen (by decide),le_trans hwt (by decide),by omega,fun x hx=>hT x (List.mem_of_mem_take hx),fun j hj=>(hg rfl j (by omega)).2⟩,hnoas⟩,rfl⟩,?_⟩;rw[<- map_take];exact⟨_,Au _ (by
         have h:=Az ⟨re,n,false⟩;simp only[AV.plain,AV.plainL,AF,h];rfl)⟩
    ·rfl
 ·have e2:((T.length+1:Nat):Int)-1=(T.length:Int):=by omega
  rw[e2];rfl
theorem f31n (l m:List Int) (hl:∀ x∈l,In64 x) (hm:∀ x∈m,In64 x) (asserts:Bool) :
  ∃ r,(∃ cap re caps t,FitsOk cap re caps t/\compG [] re=true/\(asserts=false->noAs re=true)/\r=.tup [patAV ⟨re,caps,false⟩,.sl false (t.map I)])/\∀ H,call Pg pol1 29 [.sl false (l.map I),.sl false (m.map I),.bool asserts] H=some (r,H):=by
 have key:∀(uses:Int) (hu:Uses uses),∃(cap:Bool) (re:Re) (caps:Int) (t:List Int),cap=decide (0<andI uses 64)/\(FitsOk cap re caps t/\(¬ 0<andI uses 16->noAs re=true))/\∀ H,call Pg pol1 60 [.sl false (l.map I),.sl false (m.map I),I uses,I 24,I 3000] H=some (.tup [patAV ⟨re,caps,false⟩,.sl false (t.map I)],H):=by
  intro uses hu;obtain⟨_,⟨re,caps,t,h1,rfl⟩,h2⟩:=f70n l m hl hm uses hu;exact⟨_,re,caps,t,rfl,h1,h2⟩
 refine CL Tryz.func29 rfl rfl rfl rfl rfl rfl (fun _=>rfl) (by simp[AV.plain,AV.plainL,AF,AG,AH,AI]) ?_ ?_
 ·rintro _ ⟨cap,re,caps,t,_,_,_,rfl⟩;have h:=Az ⟨re,caps,false⟩;simp only[AV.plain,AV.plainL,AF,h];rfl
 have pl:∀(re:Re) (caps:Int) (t:List Int),AV.plain (.tup [.agg (reC re++[I caps,.bool false]),.sl false (t.map I)])=true:=fun re caps t=>by
  have h:=Az ⟨re,caps,false⟩;simp only[AV.plain,AV.plainL,AF,h];rfl
 have hor:evBin .or .i64 64 16=some (I 80):=rfl;have h16:evBin .sub .i64 80 64=some (I 16):=rfl;have h00:evBin .sub .i64 64 64=some (I 0):=rfl;cases asserts with
 | true=>
   obtain⟨cap,re,caps,t,hc,⟨hf,hna⟩,h70⟩:=key 80 Q2;obtain⟨cap2,re2,caps2,t2,hc2,⟨hf2,hna2⟩,h70b⟩:=key 16 Q4;have hwg:=(CR hf.val).2.2.2.2;have h53:=f53n _ _ re hf.wt hwg;have hl8:=AM re;have htk:List.take 10 (reC re++[I caps,.bool false])=reC re++[I caps,.bool false]:=take_of_length_le (by simp[AM]);have hall:=Ay re;have hl8b:=AM re2;have htkb:List.take 10 (reC re2++[I caps2,.bool false])=reC re2++[I caps2,.bool false]:=take_of_length_le (by simp[AM]);have hallb:=Ay re2;have htk8:∀ l,List.take 8 (reC re++l)=reC re:=fun l=>by
    rw[List.take_append_of_le_length (by omega)];exact take_of_length_le (by omega)
   cases hcp:compG [] re with
   | true=>
     rw[hcp]at h53;simp +contextual (disch:=omega) only[Tryz.f29,dd29,go_sem,simprocAttr,mu29,↓AD,↓AC,↓AB,↓AA,hor,h70,h53,hl8,htk,hall,htk8,all_append];exact⟨_,⟨cap,re,caps,t,hf,hcp,(fun h=>by cases h),rfl⟩,_,Au _ (pl re caps t)⟩
   | false=>
     rw[hcp]at h53;simp +contextual (disch:=omega) only[Tryz.f29,dd29,go_sem,simprocAttr,mu29,↓AD,↓AC,↓AB,↓AA,hor,h16,h70,h70b,h53,hl8,htk,hall,htk8,hl8b,htkb,hallb,all_append];exact⟨_,⟨cap2,re2,caps2,t2,hf2,HR re2 [] (by rw[<- hc2.trans (by decide:decide (0<andI 16 64)=false)];exact hf2.gen),(fun h=>by cases h),rfl⟩,_,Au _ (pl re2 caps2 t2)⟩
 | false=>
   obtain⟨cap,re,caps,t,hc,⟨hf,hna⟩,h70⟩:=key 64 Q3;obtain⟨cap2,re2,caps2,t2,hc2,⟨hf2,hna2⟩,h70b⟩:=key 0 uses0;have hwg:=(CR hf.val).2.2.2.2;have h53:=f53n _ _ re hf.wt hwg;have hl8:=AM re;have htk:List.take 10 (reC re++[I caps,.bool false])=reC re++[I caps,.bool false]:=take_of_length_le (by simp[AM]);have hall:=Ay re;have hl8b:=AM re2;have htkb:List.take 10 (reC re2++[I caps2,.bool false])=reC re2++[I caps2,.bool false]:=take_of_length_le (by simp[AM]);have hallb:=Ay re2;have htk8:∀ l,List.take 8 (reC re++l)=reC re:=fun l=>by
    rw[List.take_append_of_le_length (by omega)];exact take_of_length_le (by omega)
   cases hcp:compG [] re with
   | true=>
     rw[hcp]at h53;simp +contextual (disch:=omega) only[Tryz.f29,dd29,go_sem,simprocAttr,mu29,↓AD,↓AC,↓AB,↓AA,h70,h53,hl8,htk,hall,htk8,all_append];exact⟨_,⟨cap,re,caps,t,hf,hcp,(fun _=>hna (by decide)),rfl⟩,_,Au _ (pl re caps t)⟩
   | false=>
     rw[hcp]at h53;simp +contextual (disch:=omega) only[Tryz.f29,dd29,go_sem,simprocAttr,mu29,↓AD,↓AC,↓AB,↓AA,h00,h70,h70b,h53,hl8,htk,hall,htk8,hl8b,htkb,hallb,all_append];exact⟨_,⟨cap2,re2,caps2,t2,hf2,HR re2 [] (by rw[<- hc2.trans (by decide:decide (0<andI 0 64)=false)];exact hf2.gen),(fun _=>hna2 (by decide)),rfl⟩,_,Au _ (pl re2 caps2 t2)⟩
end
section
attribute [local go_sem] BM evBin evMakeSlice tySzE head?_drop mul_one AQ AU AO AR AS AY
theorem f45 (ins:List Ins) (num begin_ end_:Int) (regs:List Int) (n:Nat) (hr:regs.length=18) (hn:n<=9) (H:List MB) :
  call Pg pol1 45 [.pt [.sl false (ins.map insAV),I n,I num],I begin_,I end_,.agg (regs.map I)] H=some (matAV begin_ end_ (capsN regs n),H):=by
 have t1:List.take 18 (regs.map I)=regs.map I:=take_of_length_le (by simp[hr]);have o1:(regs.map I).all AV.ok=true:=by simp[AV.ok]
 refine AT Tryz.func45 rfl rfl rfl rfl rfl rfl (fun _=>rfl) (by simp[AV.plain,AV.plainL,AF,AH]) (C9 _ _ _) ?_ H;simp +contextual (disch:=omega) only[Tryz.f45,dd45,go_sem,simprocAttr,mu45,↓AD,↓AC,↓AB,↓AA,t1,o1,hr]
 let cur:Nat->List (Int×Int):=fun i=>(capsN regs i)++List.replicate (n-i) (0,0)
 have hcl:∀ i,i<=n->(cur i).length=n:=fun i hi=>by simp[cur,Dj];omega
 have hc0:List.replicate n (.agg [I 0,I 0])=(cur 0).map spanAV:=by simp[cur,capsN,spanAV]
 have hcN:cur n=capsN regs n:=by simp[cur]
 have hstep:∀ i,i<n->cur (i+1)=(cur i).set i (capP (regs.getD (2*i) 0) (regs.getD (2*i+1) 0)):=fun i hi=>by
  simp only[cur];rw[MG,show n-i=(n-(i+1))+1 by omega,List.replicate_succ,List.set_append_right _ _ (by simp[Dj])];simp[Dj]
 have hn0:(n:Int).toNat=n:=by simp
 refine Af (M:=(mskOf (pol1.mask 45) (pol1.gc 45) (pol1.acts 45) 0 3)) (by rfl) n (fun i=>(⟨59,[(22,NV i),(21,I n),(9,.rf 3 1 0 0),(8,.rf 1 1 0 0),(7,.rf 0 1 0 0)],[.row 18 [.agg (regs.map I)] 0,.row 3 [.agg [I 0,I 0,.sl true []]] 0,.row 2 ((cur i).map spanAV) 0,.row 3 [.agg [I begin_,I end_,.ms 2 2 n 0 n]] 0]⟩:St)) (fun _=>True) ?_ ?_ trivial _ ?_
 ·intro i hi _;obtain⟨a,ha⟩:∃ a,regs[2*i]?=some a:=⟨_,getElem?_eq_getElem (by omega)⟩;obtain⟨b,hb⟩:∃ b,regs[2*i+1]?=some b:=⟨_,getElem?_eq_getElem (by omega)⟩;have hl:=hcl i (by omega);have hs:=hstep i hi;rw[getD_eq_getElem?_getD,getD_eq_getElem?_getD,ha,hb]at hs;simp only[Option.getD_some]at hs;rw[hs];generalize cur i=cs at *;have e2:(2:Int)*(i:Int)=((2*i:Nat):Int):=by omega
  have e3:((2*i:Nat):Int)+1=((2*i+1:Nat):Int):=by omega
  have hlt:((i:Int)<(n:Int))=True:=eq_true (by omega);have hwi:IntKind.i64.wrap ((i:Int)+1)=((i+1:Nat):Int):=by rw[i64_in]<;>omega
  have hm:∀ p:Int×Int,(cs.map spanAV).set i (spanAV p)=(cs.set i p).map spanAV:=fun p=>by rw[map_set]
  obtain⟨c0,hc0⟩:∃ c,cs[i]?=some c:=⟨_,getElem?_eq_getElem (by omega)⟩;have hsi:∀ x:AV,((cs.map spanAV).set i x)[i]?=some x:=fun x=>List.getElem?_set_self (by simp;omega);have hss:∀ x y:AV,((cs.map spanAV).set i x).set i y=(cs.map spanAV).set i y:=fun x y=>by rw[List.set_set]
  have hsl:∀ x:AV,((cs.map spanAV).set i x).length=n:=fun x=>by simp[hl]
  have hsu:∀ p:Int×Int,AV.underL 4 ((cs.set i p).map spanAV)=true:=fun p=>AE 4 _ (AG _);have hk4:AV.underL 4 [NV (i+1),I n,.rf 3 1 0 0,.rf 1 1 0 0,.rf 0 1 0 0]=true:=rfl;have hun:∀ p:Int×Int,[MB.row 18 [.agg (regs.map I)] 0,.row 3 [.agg [I 0,I 0,.sl true []]] 0,.row 2 ((cs.map spanAV).set i (spanAV p)) 0,.row 3 [.agg [I begin_,I end_,.ms 2 2 n 0 n]] 0].all (MB.under 4)=true:=fun p=>by
   rw[hm];have h1:=AE 4 _ (AF regs);have h2:=hsu p;simp[-map_set,MB.under,AV.underL,AV.under,h1,h2]
  by_cases h1:a = -1
  ·simp +contextual (disch:=omega) only[Tryz.f45,dd45,go_sem,simprocAttr,mu45,↓AD,↓AC,↓AB,↓AA,ha,hb,hl,e2,e3,hlt,hwi,h1,hc0,hsi,hss,hsl];rw[show capP (-1) b=(-1,-1) by simp[capP],<- hm];exact Ac rfl rfl hk4 (hun (-1,-1)) rfl
  ·by_cases h2:b = -1
   ·simp +contextual (disch:=omega) only[Tryz.f45,dd45,go_sem,simprocAttr,mu45,↓AD,↓AC,↓AB,↓AA,ha,hb,hl,e2,e3,hlt,hwi,h1,h2,hc0,hsi,hss,hsl];rw[show capP a (-1)=(-1,-1) by simp[capP],<- hm];exact Ac rfl rfl hk4 (hun (-1,-1)) rfl
   ·simp +contextual (disch:=omega) only[Tryz.f45,dd45,go_sem,simprocAttr,mu45,↓AD,↓AC,↓AB,↓AA,ha,hb,hl,e2,e3,hlt,hwi,h1,h2,hc0,hsi,hss,hsl];refine⟨(by unfold dOk;kernel_rfl),?_⟩;rw[show capP a b=(a,b) by simp[capP,h1,h2],<- hm];exact Ac rfl rfl hk4 (hun (a,b)) rfl
 ·intro _;rw[hcN];have hl:=Dj regs n;generalize capsN regs n=cs at *;simp +contextual (disch:=omega) only[Tryz.f45,dd45,go_sem,simprocAttr,mu45,↓AD,↓AC,↓AB,↓AA,hl];simp only[fz,Jn,fzL,EW];rw[Cl (els:=cs.map spanAV) (k:=2) (z:=0) rfl (by simp[hl]) (AG cs)];exact⟨_,rfl⟩
 ·rw[<- hc0];have h1:=AE 4 _ (AF regs);have h2:AV.underL 4 (List.replicate n (AV.agg [I 0,I 0]))=true:=by rw[hc0];exact AE 4 _ (AG _)
  exact Ac rfl rfl rfl (by simp[MB.under,AV.underL,AV.under,h1,h2]) rfl
end
theorem PT (ins:List Ins) (i:Nat) (r:RS) (xs:List RS) (s:Int):xs <+: addS ins i r xs s/\∀ b,leadS ins r.st s=some b->b∈(addS ins i r xs s).map (·.st):=by
 unfold addS;cases hq:leadS ins r.st s with
 | none=>exact⟨prefix_refl _,fun b h=>by cases h⟩
 | some c=>
   simp only;split
   ·rename_i hc;exact⟨prefix_refl _,fun b h=>by cases h;exact hc⟩
   ·exact⟨List.prefix_append _ _,fun b h=>by cases h;simp⟩
theorem LT (ins:List Ins) (i:Nat) (r:RS):∀(syms:List Int) (xs:List RS),xs <+: syms.foldl (addS ins i r) xs/\∀ s∈syms,∀ b,leadS ins r.st s=some b->b∈(syms.foldl (addS ins i r) xs).map (·.st)
 | [],xs=>⟨prefix_refl _,fun s hs=>by cases hs⟩
 | s::syms,xs=>by
   obtain⟨h1,h2⟩:=PT ins i r xs s;obtain⟨h3,h4⟩:=LT ins i r syms (addS ins i r xs s);refine⟨h1.trans h3,fun s' hs b hb=>?_⟩;rcases List.mem_cons.1 hs with rfl|hs
   ·exact(h3.map (·.st)).subset (h2 b hb)
   ·exact h4 s' hs b hb
def Gone (ins:List Ins) (xs:List RS) (r:RS):Prop:=¬ ForkS ins r.st/\∀ n∈(exS ins r.st).rd,n+1∈xs.map (·.st)
theorem Ia {ins:List Ins} (h:OkP ins) {syms:List Int} (hL:LeastTo ins ins.length syms):∀(f i:Nat) (xs xs':List RS),XOk ins xs->ins.length<f+i->srch ins syms f i xs=(xs',false)->(∀ j r,j<i->xs[j]?=some r->Gone ins xs r) ->
  xs <+: xs'/\∀ r∈xs',Gone ins xs' r
 | 0,i,xs,xs',hx,hf,hs,hg=>by
   simp only[srch,Prod.mk.injEq,and_true]at hs;subst hs;have:=hx.len;refine⟨prefix_refl _,fun r hr=>?_⟩;obtain⟨j,hj⟩:=List.mem_iff_getElem?.1 hr;exact hg j r (by have:=(List.getElem?_eq_some_iff.1 hj).1;omega) hj
 | f+1,i,xs,xs',hx,hf,hs,hg=>by
   simp only[srch]at hs;cases hi:xs[i]? with
   | none=>
     rw[hi]at hs;simp only[Prod.mk.injEq,and_true]at hs;subst hs;refine⟨prefix_refl _,fun r hr=>?_⟩;obtain⟨j,hj⟩:=List.mem_iff_getElem?.1 hr;have h1:=(List.getElem?_eq_some_iff.1 hj).1;have h2:=List.getElem?_eq_none_iff.1 hi;exact hg j r (by omega) hj
   | some r=>
     rw[hi]at hs;simp only at hs;split at hs
     ·simp at hs
     ·rename_i hfk;obtain⟨h1,h2⟩:=LT ins i r syms xs;obtain⟨h3,h4,h5⟩:=XOk.adds h syms hx hi;have hil:=(List.getElem?_eq_some_iff.1 hi).1;have hpre:∀ j,j<=i->(syms.foldl (addS ins i r) xs)[j]?=xs[j]?:=fun j hj=>by
       obtain⟨t,ht⟩:=h1;rw[<- ht,List.getElem?_append_left (by omega)]
      obtain⟨h6,h7⟩:=Ia h hL f (i+1) _ xs' h3 (by omega) hs (fun j q hj hq=>by
       rw[hpre j (by omega)]at hq;by_cases e:j=i
       ·subst e;rw[hi]at hq;cases hq;refine⟨hfk,fun n hn=>?_⟩;obtain⟨x,hx1,hx2,hx3⟩:=Eg h hn;have hn2:n<ins.length:=(List.getElem?_eq_some_iff.1 hx1).1;exact h2 (keyI ins n) (hL.has n x hn2 hx1 hx2 hx3) (n+1) (Ja h hfk hn hx1 (ER h hx1 hx3).1)
       ·obtain⟨g1,g2⟩:=hg j q (by omega) hq;exact⟨g1,fun n hn=>(h1.map (·.st)).subset (g2 n hn)⟩)
      exact⟨h1.trans h6,h7⟩
theorem Ng {ins:List Ins} (h:OkP ins) {syms:List Int} (hL:LeastTo ins ins.length syms) {xs:List RS} (hx:Explored ins xs false):Closed ins (fun st=>st∈xs.map (·.st))/\0∈xs.map (·.st):=by
 obtain⟨h1,h2⟩:=Ia h hL (ins.length+1) 0 xs0 xs (Nt h) (by omega) (hx.2 syms hL) (fun j r hj=>absurd hj (Nat.not_lt_zero _));refine⟨⟨fun st hst=>?_,fun st hst=>?_,fun st s b hst hl=>?_⟩,(h1.map (·.st)).subset (by simp[xs0])⟩
 ·obtain⟨r,hr,rfl⟩:=mem_map.1 hst;exact hx.1.lt r hr
 ·obtain⟨r,hr,rfl⟩:=mem_map.1 hst;exact(h2 r hr).1
 ·obtain⟨r,hr,rfl⟩:=mem_map.1 hst;obtain⟨n,i,rfl,hn,_,_⟩:=Ge h hl;exact(h2 r hr).2 n hn
end Go.Ev
namespace Go.Ev
attribute [local go_sem] evAppend evBuild AV.cells AV.ok splice Ae Al bndO bnd evEq eqCells not_false_eq_true not_true_eq_false AX Array.size_empty length_append map_append
section
attribute [local go_sem] BM evBin evMakeSlice tySzE head?_drop mul_one AQ AU AO AR AS AY
def m18:List Int:=List.replicate 18 (-1)
def mat21 (b:Bool) (pos n:Nat):Option (Nat×List Int)->AV
 | none=>.agg [I 0,I 0,.sl b []]
 | some x=>matAV pos x.1 (capsN x.2 n)
abbrev cAV (ins:List Ins) (n:Nat) (num:Int):AV:=.pt [.sl false (ins.map insAV),I n,I num]
structure S21r where
 st:Int
 p:Nat
 regs:List Int
 res:Option (Nat×List Int)
def T21r (ins:List Ins) (n:Nat) (num:Int) (t:List Int) (pos:Nat) (s:S21r):St:=
 (⟨69,[(14,I s.st),(13,NV pos),(12,.bool s.res.isSome),(11,.rf 2 1 0 0),(9,.rf 1 1 0 0),(6,.rf 0 1 0 0),(2,NV s.p),(1,.sl false (t.map I)),(0,cAV ins n num)],[.row 3 [.agg [I 0,I 0,.sl true []]] 0,.row 18 [.agg (s.regs.map I)] 0,.row 3 [mat21 true pos n s.res] 0]⟩:St)
theorem GC (b:Bool) (pos n:Nat) (r:Option (Nat×List Int)):AV.plain (mat21 false pos n r)=true/\∀ k,AV.under k (mat21 b pos n r)=true:=by
 cases r with
 | none=>exact⟨rfl,fun k=>rfl⟩
 | some x=>
   refine⟨C9 _ _ _,fun k=>?_⟩;have:=AE k _ (AG (capsN x.2 n));simp[mat21,matAV,AV.under,AV.underL,this]
theorem g21 {ins:List Ins} (h:OkP ins) {Q:Nat->Prop} (hQ:Closed ins Q) (hQ0:Q 0) (n:Nat) (hn:n<=9) (num:Int) (t:List Int) (ht:t.length<=65536) (pos:Nat) (hpos:pos<=t.length) (H:List MB) :
  call Pg pol1 21 [cAV ins n num,.sl false (t.map I),NV pos] H=some (.tup [mat21 false pos n (runO ins t (t.length+1-pos) 0 pos m18 none),.bool (runO ins t (t.length+1-pos) 0 pos m18 none).isSome,I 0],H):=by
 have hil:=h.len;have hset:∀ i∈ins,i.set.length<=1000000:=fun i hi=>by have:=(h.sets i hi).2;omega
 generalize hR:runO ins t (t.length+1-pos) 0 pos m18 none=R;refine AT Tryz.func21 rfl rfl rfl rfl rfl rfl (fun _=>rfl) (by simp[AV.plain,AV.plainL,AF,AH]) (by simp[AV.plain,AV.plainL,GC true]) ?_ H;simp +contextual (disch:=omega) only[Tryz.f21,dd21,go_sem,simprocAttr,mu21,↓AD,↓AC,↓AB,↓AA]
 let cur:Nat->List Int:=fun i=>List.replicate i (-1)++List.replicate (18-i) 0
 have hcl:∀ i,i<=18->(cur i).length=18:=fun i hi=>by simp[cur];omega
 have hc0:[I 0,I 0,I 0,I 0,I 0,I 0,I 0,I 0,I 0,I 0,I 0,I 0,I 0,I 0,I 0,I 0,I 0,I 0]=(cur 0).map I:=rfl;have hcN:cur 18=m18:=by simp[cur,m18]
 have hstep:∀ i,i<18->cur (i+1)=(cur i).set i (-1):=fun i hi=>by
  simp only[cur];rw[show 18-i=(18-(i+1))+1 by omega,List.replicate_succ (a:=(0:Int)),List.set_append_right _ _ (by simp),List.replicate_succ' (a:=(-1:Int))];simp
 refine Af (M:=(mskOf (pol1.mask 21) (pol1.gc 21) (pol1.acts 21) 0 7)) (by rfl) 18 (fun i=>(⟨69,[(32,NV i),(9,.rf 1 1 0 0),(6,.rf 0 1 0 0),(2,NV pos),(1,.sl false (t.map I)),(0,cAV ins n num)],[.row 3 [.agg [I 0,I 0,.sl true []]] 0,.row 18 [.agg ((cur i).map I)] 0]⟩:St)) (fun _=>True) ?_ ?_ trivial _ ?_
 ·intro i hi _;have hlt:((i:Int)<18)=True:=eq_true (by omega);have hwi:IntKind.i64.wrap ((i:Int)+1)=((i+1:Nat):Int):=by rw[i64_in]<;>omega
  have hcl1:=hcl i (by omega);simp +contextual (disch:=omega) only[Tryz.f21,dd21,go_sem,simprocAttr,mu21,↓AD,↓AC,↓AB,↓AA,hlt,hwi,Ab,hcl1];rw[hstep i hi,map_set,List.set_eq_take_append_cons_drop,if_pos (by simp[hcl1];omega)];rfl
 ·intro _;rw[hcN];have hm18:m18.length=18:=rfl;simp +contextual (disch:=omega) only[Tryz.f21,dd21,go_sem,simprocAttr,mu21,↓AD,↓AC,↓AB,↓AA,hm18];have hk4:∀ s:S21r,AV.underL 3 [I s.st,NV pos,.bool s.res.isSome,.rf 2 1 0 0,.rf 1 1 0 0,.rf 0 1 0 0,NV s.p,.sl false (t.map I),cAV ins n num]=true:=fun s=>by
   have h1:=AE 3 _ (AF t);have h2:=AE 3 _ (AH ins);simp[AV.underL,AV.under,h1,h2]
  have hun:∀ s:S21r,[MB.row 3 [.agg [I 0,I 0,.sl true []]] 0,.row 18 [.agg (s.regs.map I)] 0,.row 3 [mat21 true pos n s.res] 0].all (MB.under 3)=true:=fun s=>by
   have h1:=AE 3 _ (AF s.regs);have h2:=(GC true pos n s.res).2 3;simp[MB.under,AV.underL,AV.under,h1,h2]
  refine Cw (M:=(mskOf (pol1.mask 21) (pol1.gc 21) (pol1.acts 21) 0 15)) (by rfl) (T21r ins n num t pos) (fun s=>s.regs.length=18/\(s.st = -1∨(0<=s.st/\Q s.st.toNat/\s.p<=t.length))/\R=(if s.st<0 then s.res else runO ins t (t.length+1-s.p) s.st.toNat s.p s.regs s.res)) (fun s=>if s.st<0 then 0 else t.length+2-s.p) ⟨0,pos,m18,none⟩ ?_ ⟨rfl,.inr ⟨Int.le_refl _,hQ0,hpos⟩,hR.symm⟩ _ ?_
  ·rintro⟨st,p,regs,res⟩ ⟨hrl,hst,hr⟩;simp only at hrl hst hr;simp only[T21r];rcases hst with rfl|⟨hst0,hq,hp⟩
   ·rw[if_pos (by omega)]at hr;subst hr;have hneg:(0<=(-1:Int))=False:=by simp
    cases R with
    | none=>
      simp only[mat21];simp +contextual (disch:=omega) only[Tryz.f21,dd21,go_sem,simprocAttr,mu21,↓AD,↓AC,↓AB,↓AA];exact⟨_,rfl⟩
    | some x=>
      simp only[mat21,matAV];simp +contextual (disch:=omega) only[Tryz.f21,dd21,go_sem,simprocAttr,mu21,↓AD,↓AC,↓AB,↓AA];exact⟨_,Au _ (by simp[mat21,matAV,AV.plain,AV.plainL,AG])⟩
   ·obtain⟨k,rfl⟩:∃ k:Nat,st=k:=⟨st.toNat,by omega⟩;simp only[Int.toNat_natCast]at hq hr;rw[if_neg (by omega)]at hr;have hk:=hQ.lt k hq;obtain⟨hrun,hnx⟩:=Qp h (P:=⟨fun n=>ins[n]?,fun s n=>match t[n]? with
     | some x=>hasSpan s x
     | none=>false,fun _ _=>false⟩) ⟨fun _=>rfl,fun _ _=>rfl⟩ hk (hQ.nf k hq) p regs (by omega)
    obtain⟨hs1,hs2⟩:=DG _ _ _ _ hrun (fun w hw=>by simp at hw;subst hw;rfl) ⟨rfl,rfl⟩;have h44:=fun H=>f44 ins n num t p k (by omega) (by omega) hset h.leads hk (ins.length+1) (by omega) _ hrun H
    have hro:runO ins t (t.length+1-p) k p regs res=if(chS ins t k p).nx<0 then(if(chS ins t k p).dn=true then some (p,markL regs (chS ins t k p).la p) else res)
      else runO ins t (t.length-p) (chS ins t k p).nx.toNat (p+1) (markL regs (chS ins t k p).way p) (if(chS ins t k p).dn=true then some (p,markL regs (chS ins t k p).la p) else res):=by
     rw[show t.length+1-p=(t.length-p)+1 by omega];rfl
    rw[hro]at hr;have hnext:(chS ins t k p).nx = -1∨(0<=(chS ins t k p).nx/\Q (chS ins t k p).nx.toNat/\p+1<=t.length):=by
     rcases hnx with ⟨e,_⟩|⟨b,x,hx,hl,e,_⟩
     ·exact .inl e
     ·right;rw[e,Int.toNat_natCast];exact⟨by omega,hQ.next k x b hq hl,(List.getElem?_eq_some_iff.1 hx).1⟩
    clear hnx hro;generalize chS ins t k p=s at *;have h46a:=fun H=>f46 regs s.way p hrl hs1 H;have h46b:=fun H=>f46 regs s.la p hrl hs2 H;have hml:∀ m:List Bool,m.length=18->(markL regs m p).length=18:=fun m hm=>by simp[markL,hrl,hm]
    have h45:=fun H=>f45 ins num pos p (markL regs s.la p) n (hml _ hs2) hn H;have hge:(0<=(k:Int))=True:=eq_true (by omega);have hwi:IntKind.i64.wrap ((p:Int)+1)=((p+1:Nat):Int):=by rw[i64_in]<;>omega
    have w1:=DW s.way hs1;have w2:=DW s.la hs2;have w3:List.take 18 (regs.map I)=regs.map I:=take_of_length_le (by simp[hrl]);have w4:=Bj s.way;have w5:=Bj s.la;have w6:(regs.map I).all AV.ok=true:=by simp[AV.ok]
    have w7:((markL regs s.way p).map I).all AV.ok=true:=by simp[AV.ok]
    have w8:=hml _ hs1;have w9:=hml _ hs2;have w10:(regs.map I).drop 18=[]:=List.drop_of_length_le (by simp[hrl]);obtain⟨m1,m2,m3,hm⟩:∃ a b c,mat21 true pos n res=.agg [a,b,c]:=by cases res<;>exact⟨_,_,_,rfl⟩
    have hms:∀ x:AV,(match x with | .agg cs=>AV.agg cs|y=>y)=x:=fun x=>by cases x<;>rfl
    have hme:(if s.nx<0 then 0 else t.length+2-(p+1))<(if(k:Int)<0 then 0 else t.length+2-p):=by rw[if_neg (show ¬ (k:Int)<0 by omega)];split<;>omega
    have hle:t.length-p=t.length+1-(p+1):=by omega
    rw[hle]at hr;cases hd:s.dn with
    | true=>
      rw[hd]at h44 hr;simp +contextual (disch:=omega) only[Tryz.f21,dd21,go_sem,simprocAttr,mu21,↓AD,↓AC,↓AB,↓AA,h44,h46a,h46b,h45,hge,hwi,w1,w2,w3,w4,w5,w6,w7,w8,w9,w10,hm,hrl,hs1,hs2,matAV,List.append_nil];refine⟨⟨s.nx,p+1,markL regs s.way p,some (p,markL regs s.la p)⟩,⟨w8,hnext,by simpa using hr⟩,hme,?_⟩;exact Ac rfl rfl (hk4 ⟨s.nx,p+1,markL regs s.way p,some (p,markL regs s.la p)⟩) (hun ⟨s.nx,p+1,markL regs s.way p,some (p,markL regs s.la p)⟩) rfl
    | false=>
      rw[hd]at h44 hr;simp +contextual (disch:=omega) only[Tryz.f21,dd21,go_sem,simprocAttr,mu21,↓AD,↓AC,↓AB,↓AA,h44,h46a,h46b,h45,hge,hwi,w1,w2,w3,w4,w5,w6,w7,w8,w9,w10,hrl,hs1,hs2,List.append_nil];refine⟨⟨s.nx,p+1,markL regs s.way p,res⟩,⟨w8,hnext,by simpa using hr⟩,hme,?_⟩;exact Ac rfl rfl (hk4 ⟨s.nx,p+1,markL regs s.way p,res⟩) (hun ⟨s.nx,p+1,markL regs s.way p,res⟩) rfl
  ·exact Ac rfl rfl (hk4 ⟨0,pos,m18,none⟩) (hun ⟨0,pos,m18,none⟩) rfl
 ·rfl
end
section
attribute [local go_sem] BM evBin evMakeSlice tySzE head?_drop mul_one AQ AU AO AR AS AY
theorem PrgN.b {g:Prg}{a b:Nat} (h:PrgN g a b) (ha:a<=1000000) (hb:b<=1000000):PrgB g:=⟨le_trans h.len ha,fun i hi=>le_trans (h.sets i hi) hb⟩
end
def Way.same (n:Nat) (a b:Way):Prop:=a.pc=b.pc/\a.at_=b.at_/\a.regs.take (2*n)=b.regs.take (2*n)
end Go.Ev
namespace Go.Ev
attribute [local go_sem] evAppend evBuild AV.cells AV.ok splice Ae Al bndO bnd evEq eqCells not_false_eq_true not_true_eq_false AX Array.size_empty length_append map_append
section
attribute [local go_sem] BM evBin tySzE head?_drop mul_one AQ AU AO AR AS AY
noncomputable def polW:Pol:={ pol1 with pure:=fun f=>!(9::12::13::19::20::21::22::23::notPure).contains f,ext:=fun f=>if f=19 then some (call Pg polU 19) else if [9,12,13,20,21,22,23].contains f=true then some (call Pg pol1 f) else pol1.ext f }
theorem OO (g:Prg) (t:List Int):ProgT (progOf g t) g.ins t:=⟨fun _=>rfl,fun _ _=>rfl⟩
end
section
attribute [local go_sem] BM evBin evMakeSlice tySzE head?_drop mul_one AQ AU AO AR AS AY
theorem e62 (c c':List (Int×Int)) (hc:c.length<=1000) (hc':c'.length<=1000) (H:List MB):call Pg pol1 62 [.sl false (c.map spanAV),.sl false (c'.map spanAV)] H=some (.bool (decide (c=c')),H):=by
 refine AT Tryz.func62 rfl rfl rfl rfl rfl rfl (fun _=>rfl) (by simp[AV.plain,AV.plainL,AG]) rfl ?_ H;by_cases hl:c.length=c'.length
 ·have hl':(c.length:Int)=(c'.length:Int):=by rw[hl]
  simp +contextual (disch:=omega) only[Tryz.f62,dd62,go_sem,simprocAttr,mu62,↓AD,↓AC,↓AB,↓AA,hl']
  refine Af (M:=(mskOf (pol1.mask 62) (pol1.gc 62) (pol1.acts 62) 0 4)) rfl c.length (fun i=>(⟨26,[(13,I i),(12,I c.length),(1,.sl false (c'.map spanAV)),(0,.sl false (c.map spanAV))],[]⟩:St))
   (fun i=>∀ k,k<i->c[k]?=c'[k]?) ?_ ?_ (fun k h=>by omega) _ ?_
  ·intro i hi hg;obtain⟨p,hp⟩:∃ p,c[i]?=some p:=⟨_,getElem?_eq_getElem hi⟩;obtain⟨q,hq⟩:∃ q,c'[i]?=some q:=⟨_,getElem?_eq_getElem (by omega)⟩;by_cases hpq:p=q
   ·subst hpq;simp +contextual (disch:=omega) only[Tryz.f62,dd62,go_sem,simprocAttr,mu62,↓AD,↓AC,↓AB,↓AA,hp,hq,spanAV];refine⟨by unfold dOk;kernel_rfl,fun k hk=>?_,rfl⟩;rcases lt_or_ge k i with h|h
    ·exact hg k h
    ·obtain rfl:k=i:=by omega
     rw[hp,hq]
   ·have hne:¬ c=c':=fun he=>hpq (by
     cases he;rw[hp]at hq;exact Option.some.inj hq)
    have hb2:(p.1==q.1&&p.2==q.2)=false:=by
     rw[Bool.eq_false_iff];intro he;simp at he;exact hpq (Prod.ext he.1 he.2)
    rw[decide_eq_false hne];simp +contextual (disch:=omega) only[Tryz.f62,dd62,go_sem,simprocAttr,mu62,↓AD,↓AC,↓AB,↓AA,hp,hq,spanAV,hb2];repeat' (first|intro _|apply And.intro|(unfold dOk;kernel_rfl)|(show (_||_)=true;kernel_rfl)|(show (_&&_)=true;kernel_rfl))
    all_goals exact fzEq rfl rfl
  ·intro hg;have hcc:c=c':=List.ext_getElem? fun k=>by
    rcases lt_or_ge k c.length with h|h
    ·exact hg k h
    ·rw[List.getElem?_eq_none h,List.getElem?_eq_none (by omega)]
   subst hcc;simp +contextual (disch:=omega) only[Tryz.f62,dd62,go_sem,simprocAttr,mu62,↓AD,↓AC,↓AB,↓AA];exact fzEq rfl (by simp)
  ·rw[hl'];rfl
 ·rw[decide_eq_false (fun e=>hl (by rw[e]))];simp +contextual (disch:=omega) only[Tryz.f62,dd62,go_sem,simprocAttr,mu62,↓AD,↓AC,↓AB,↓AA];exact fzEq rfl rfl
theorem e31 (a b:M3) (ha:a.2.2.length<=1000) (hb:b.2.2.length<=1000) (H:List MB):call Pg pol1 31 [mA a,mA b] H=some (.bool (decide (a=b)),H):=by
 obtain⟨s,e,c⟩:=a;obtain⟨s',e',c'⟩:=b;simp only at ha hb;have h62:=e62 c c' ha hb;refine AT Tryz.func31 rfl rfl rfl rfl rfl rfl (fun _=>rfl) (by simp[AV.plain,AV.plainL,C9]) rfl ?_ H;by_cases h1:s=s'
 ·by_cases h2:e=e'
  ·subst h1;subst h2;have hd:decide ((s,e,c)=(s,e,c'))=decide (c=c'):=by simp
   rw[hd];simp +contextual (disch:=omega) only[Tryz.f31,dd31,go_sem,simprocAttr,mu31,↓AD,↓AC,↓AB,↓AA,matAV,h62];exact fzEq rfl rfl
  ·rw[decide_eq_false (fun h=>h2 (by cases h;rfl))];simp +contextual (disch:=omega) only[Tryz.f31,dd31,go_sem,simprocAttr,mu31,↓AD,↓AC,↓AB,↓AA,matAV,h62,h1,h2];exact fzEq rfl rfl
 ·rw[decide_eq_false (fun h=>h1 (by cases h;rfl))];simp +contextual (disch:=omega) only[Tryz.f31,dd31,go_sem,simprocAttr,mu31,↓AD,↓AC,↓AB,↓AA,matAV,h62,h1];exact fzEq rfl rfl
end
section
attribute [local go_sem] BM evBin evMakeSlice tySzE head?_drop mul_one AQ AU AO AR AS AY
noncomputable def polM:Pol:=polL [12,21,25,29,31,33]
theorem C7:polM.dead=pol1.dead:=rfl
theorem Cc:polM.bdead=pol1.bdead:=rfl
theorem Cb:polM.racts=pol1.racts:=rfl
theorem C6:polM.muts=pol1.muts:=rfl
theorem C8:polM.alts=pol1.alts:=rfl
theorem D6 (f:Nat) (h19:f≠19) (hf:[12,21,25,29,31,33].contains f=true) {args:List AV}{H H':List MB}{r:AV} (h:call Pg pol1 f args H=some (r,H')):call Pg polM f args H=some (r,H'):=Si (by decide) f h19 hf h
theorem okM:CfOk Pg (call Pg polM):=okL (by decide)
theorem ND {re:Re}{n:Nat} (hn:n<=9) {top:Int} (hw:wholeG n top re=true) (hcp:compG [] re=true) (hna:noAs re=true) {ins:List Ins} (hins:ins=codeG re 0++[⟨0,0,0,0,[]⟩]) (h:OkP ins) {Q:Nat->Prop} (hQ:Closed ins Q) (hQ0:Q 0) {t:List Int} (i:Nat) (hi:i<=t.length) :
  (runO ins t (t.length+1-i) 0 i m18 none).map (fun x=>(x.1,capsN x.2 n))=(firstP re t i).map (fun p=>(p.i,pairsN p.c n)):=by
 subst hins;have hP:ProgT (progOf ⟨codeG re 0++[⟨0,0,0,0,[]⟩],n,false⟩ t) (codeG re 0++[⟨0,0,0,0,[]⟩]) t:=OO ⟨codeG re 0++[⟨0,0,0,0,[]⟩],n,false⟩ t;obtain⟨r,r1,r2⟩:=If h hP hQ (2*n) (t.length+1-i) 0 i m18 none hQ0 (by omega) hi (by simp[m18]);obtain⟨N,r3⟩:=O9 (caps:=n) (top:=top) (runes:=false) ⟨hw,Ci re [] hcp⟩ hcp hna i hi cap0 (2*n) hP;have e:=r2.uniq r3;rw[r1,Option.or_none];unfold firstP firstM;have hg:=FW (caps:=n) (top:=top) (t:=t) re hw (fun j d=>some (j,d)) (fun j d hd x hx=>by cases hx;exact hd) i cap0 Iz;cases hq:fst t re (fun j d=>some (j,d)) i cap0 with
 | none=>
   rw[hq]at e;cases r with
   | none=>rfl
   | some x=>simp at e
 | some y=>
   rw[hq]at e;cases r with
   | none=>simp at e
   | some x=>
     simp only[Option.map_some,Option.some.injEq,Prod.mk.injEq]at e |-;refine⟨e.1,?_⟩;rw[<- Hq,e.2,Hq];exact MF (hg y hq) n hn
theorem law8 (l:List Int) (hl:∀ x∈l,In64 x) (m:List Int) (hm:∀ x∈m,In64 x) (H:List MB) :
  call Pg polM 8 [.sl false (l.map I),.sl false (m.map I)] H=some (.bool true,H):=by
 have h19:∀ H,call Pg polM 19 [] H=some (.bool true,H):=l19 [12,21,25,29,31,33];obtain⟨_,⟨cap,re,caps,t,hfit,hcomp,hna,rfl⟩,h29⟩:=f31n l m hl hm false;have hna:=hna rfl;have h29:=fun H=>D6 29 (by decide) (by decide) (h29 H);have htl:=hfit.tl;have h25:=fun H=>D6 25 (by decide) (by decide) (f14 ⟨re,caps,false⟩ hfit.wt H);have hcp:compP ⟨re,caps,false⟩=(prgOf re caps false,0):=by
  unfold compP;rw[if_pos hfit.val,if_pos hcomp,if_pos (by have:=hfit.len;simp only;omega)]
 rw[hcp]at h25;obtain⟨hv,hgb⟩:=NH hfit.val (Ci re [] hcomp) (by have:=hfit.len;omega);obtain⟨_,_,hc0,hc9,hwg⟩:=CR hfit.val;simp only at hc0 hc9 hwg;obtain⟨n,rfl⟩:∃ n:Nat,caps=n:=⟨caps.toNat,by omega⟩;have hn9:n<=9:=by omega
 have hsem:=fun i hi=>NC (F:=1048576) (t:=t) hc9 hcomp hwg hna (le_trans hfit.wt2 (by decide)) i hi (le_trans (hfit.cost i hi) (by decide));have hfirst:=fun(ins:List Ins) hins h Q hQ hQ0 i hi=>ND (t:=t) (re:=re) hn9 hwg hcomp hna (ins:=ins) hins h (Q:=Q) hQ hQ0 i hi;have h33:∀ i,i<=t.length->∃ s':Nat,∀ H,call Pg polM 33 [patAV ⟨re,n,false⟩,.sl false (t.map I),NV i,I 1,I 1048576] H=some (allA i n s' (firstP re t i),H):=fun i hi=>by
  obtain⟨⟨k,O',s',h1⟩,h2⟩:=hsem i hi;exact⟨s',fun H=>D6 33 (by decide) (by decide) (s33 re n hn9 hfit.val hfit.wt t hfit.txt (by omega) i hi 1048576 (by omega) k _ (fun p hp=>(h2 p hp).1) O' s' h1 H)⟩
 have hins:(prgOf re n false).ins=codeG re 0++[⟨0,0,0,0,[]⟩]:=rfl;have hgc:(prgOf re n false).caps=(n:Int):=rfl;have hpl:(patC ⟨re,n,false⟩).length=10:=by simp[patC,AM]
 have hpok:(patC ⟨re,n,false⟩).all AV.ok=true:=by have:=Ay re;simp[patC,all_append,this,AV.ok]
 have hppl:AV.plainL (patC ⟨re,n,false⟩)=true:=Az ⟨re,n,false⟩;simp only[patAV]at h29 h25 h33;generalize patC ⟨re,n,false⟩=pc at *;have htk:List.take 10 pc=pc:=take_of_length_le (by omega);generalize prgOf re n false=g at *;have hnp:ofK (Value.pointer none)=.nilp:=rfl;have hgp:=fun k=>AE k _ (AH g.ins);have hpp:=fun k=>AE k _ hppl;have htp:=fun k=>AE k _ (AF t);refine AT Tryz.func8 rfl rfl rfl rfl rfl rfl (fun _=>rfl) (by simp[AV.plain,AV.plainL,AF,AG,AH,AI]) (by simp[AV.plain,AV.plainL,AF,AG,AH,AI]) ?_ H;by_cases hac:acceptG g=0
 ·have hok:=Jd hac;obtain⟨_,⟨xs,fk,hex,rfl⟩,h12⟩:=g12 g hgb hac;obtain⟨_,⟨syms,_,hsy⟩,_⟩:=g40 hok;cases fk with
  | true=>
    rw[if_pos rfl]at h12;have h12:=fun H=>D6 12 (by decide) (by decide) (h12 H);simp +contextual (disch:=omega) only[Tryz.f8,dd8,go_sem,simprocAttr,mu8,↓AD,↓AC,↓AB,↓AA,C7,Cc,Cb,C6,C8,h29,h25,h12,h19,hnp,hpl,hpok,htk];exact⟨_,rfl⟩
  | false=>
    rw[if_neg (by simp)]at h12;have h12:=fun H=>D6 12 (by decide) (by decide) (h12 H);obtain⟨hQ,hQ0⟩:=Ng hok hsy hex;simp +contextual (disch:=omega) only[Tryz.f8,dd8,go_sem,simprocAttr,mu8,↓AD,↓AC,↓AB,↓AA,C7,Cc,Cb,C6,C8,h29,h25,h12,h19,hnp,hpl,hpok,htk];obtain⟨cv,hcv⟩:∃ cv,cv=AV.pt [.sl false (g.ins.map insAV),I g.caps,NV xs.length]:=⟨_,rfl⟩;rw[<- hcv];have hcv':cv=cAV g.ins n xs.length:=by rw[hcv,hgc]
    have ukc:∀ k,AV.under k cv=true:=fun k=>by
     have:=AE k _ (AH g.ins);simp[hcv,AV.under,AV.underL,this]
    have plc:AV.plain cv=true:=by rw[hcv];simp[AV.plain,AV.plainL,AH]
    have hk4:∀ i:Nat,AV.underL 2 [NV i,cv,.sl false (t.map I),.rf 0 1 0 0]=true:=fun i=>by
     have h1:=htp 2;simp[AV.underL,ukc,h1,AV.under]
    have hun:[MB.row 10 [.agg pc] 0,.row 3 [prgAV g] 0].all (MB.under 2)=true:=by
     have h1:=hgp 2;have h2:=hpp 2;simp[MB.under,AV.underL,AV.under,h1,h2]
    refine Af (M:=(mskOf (polM.mask 8) (polM.gc 8) (polM.acts 8) 0 11)) (by rfl) (t.length+1) (fun i=>(⟨96,[(11,NV i),(9,cv),(6,.sl false (t.map I)),(5,.rf 0 1 0 0)],[.row 10 [.agg pc] 0,.row 3 [prgAV g] 0]⟩:St)) (fun _=>True) ?_ ?_ trivial _ ?_
    ·intro i hi _;have hi':i<=t.length:=by omega
     have h21:=fun H=>D6 21 (by decide) (by decide) (g21 hok hQ hQ0 n hn9 xs.length t (by omega) i hi' H);rw[<- hcv']at h21;obtain⟨s',h33⟩:=h33 i hi';have hf:=hfirst g.ins hins hok _ hQ hQ0 i hi';have hlt:((i:Int)<=((t.length:Nat):Int))=True:=eq_true (by omega);have hwi:IntKind.i64.wrap ((i:Int)+1)=((i+1:Nat):Int):=by rw[i64_in]<;>omega
     generalize runO g.ins t (t.length+1-i) 0 i m18 none=R at h21 hf;generalize firstP re t i=q at h33 hf;cases R with
     | none=>
       cases q with
       | some p=>simp at hf
       | none=>
         simp only[mat21,allA,Option.isSome_none]at h21 h33;simp +contextual (disch:=omega) only[Tryz.f8,dd8,go_sem,simprocAttr,mu8,↓AD,↓AC,↓AB,↓AA,C7,Cc,Cb,C6,C8,h21,h33,hlt,hwi,hpl,hpok,htk];exact⟨(by unfold dOk;kernel_rfl),fun _=>Ac rfl rfl (hk4 (i+1)) hun rfl,fun h=>absurd rfl h⟩
     | some x=>
       cases q with
       | none=>simp at hf
       | some p=>
         simp only[Option.map_some,Option.some.injEq,Prod.mk.injEq]at hf;obtain⟨hf1,hf2⟩:=hf;have h31:=fun H=>D6 31 (by decide) (by decide) (e31 (i,x.1,capsN x.2 n) (i,p.i,pairsN p.c n) (by simp only[Dj];omega) (by simp only[G8];omega) H);rw[decide_eq_true (by rw[hf1,hf2])]at h31;simp only[mA,matAV]at h31;simp only[mat21,allA,matAV,Option.isSome_some]at h21 h33;simp +contextual (disch:=omega) only[Tryz.f8,dd8,go_sem,simprocAttr,mu8,↓AD,↓AC,↓AB,↓AA,C7,Cc,Cb,C6,C8,h21,h33,h31,hlt,hwi,hpl,hpok,htk];exact⟨(by unfold dOk;kernel_rfl),fun _=>Ac rfl rfl (hk4 (i+1)) hun rfl,fun h=>absurd rfl h⟩
    ·intro _;have hlt:(((t.length+1:Nat):Int)<=((t.length:Nat):Int))=False:=eq_false (by omega);simp +contextual (disch:=omega) only[Tryz.f8,dd8,go_sem,simprocAttr,mu8,↓AD,↓AC,↓AB,↓AA,C7,Cc,Cb,C6,C8,hlt,h19];exact⟨_,rfl⟩
    ·exact Ac rfl rfl (hk4 0) hun rfl
 ·have ha10:acceptG g=10:=by
   unfold acceptG at hac |-;rw[if_neg (by simp[hv])]at hac |-;split at hac
   ·rename_i h5;rw[if_pos h5]
   ·exact absurd rfl hac
  have h12:=fun H=>D6 12 (by decide) (by decide) (QI g hgb hac H);rw[ha10]at h12;simp +contextual (disch:=omega) only[Tryz.f8,dd8,go_sem,simprocAttr,mu8,↓AD,↓AC,↓AB,↓AA,C7,Cc,Cb,C6,C8,h29,h25,h12,h19,hnp,hpl,hpok,htk];exact⟨_,rfl⟩
end
end Go.Ev
