/- What functions of the program compute; no further conditions. -/
import Derived.Test.YtdklnlnbemogbaaGreatG21
set_option linter.unusedVariables false
set_option linter.unusedSimpArgs false
open List (getElem?_append_left getElem?_eq_getElem getElem?_of_mem getElem?_set_ne getElem?_set_self length_append map_cons map_set map_take mem_append mem_map mem_of_getElem? mem_singleton take_add_one take_length take_of_length_le)
open Nat (le_refl lt_or_ge sub_self zero_add zero_le)
open Go.Proofs Go.RowKit Go.IntWalk
set_option maxHeartbeats 4000000
set_option maxRecDepth 100000
namespace Go.Ev
attribute [local go_sem] strOf Ah Ao bndO bnd evEq eqCells not_false_eq_true not_true_eq_false toList_some Array.size_empty length_append List.map_append tySzE List.head?_drop Nat.mul_one AY Ae AU AZ Aa AS
section
attribute [local go_sem] evAppend evBin AV.cells
theorem f180 (x:Int) (H:List MB):call Pg pol1 180 [I x] H=some (.bool false,H):=by
 refine AQ Tryz.func180 rfl rfl rfl rfl rfl rfl (fun _=>rfl) (by simp[AV.plain,AV.plainL]) (by simp[AV.plain]) ?_ H;simp +contextual (disch:=omega) only[Tryz.f180,RC,go_sem,simprocAttr,Qi,↓AE,↓AD,↓AC,↓AA];exact fzEq rfl rfl
theorem f133 (x y:Int) (H:List MB):call Pg pol1 133 [I x,I y] H=some (I (cmpZ x y),H):=by
 refine AQ Tryz.func133 rfl rfl rfl rfl rfl rfl (fun _=>rfl) (by simp[AV.plain,AV.plainL]) (by simp[AV.plain]) ?_ H;have h1:=f180 x;have h2:=f180 y;by_cases c1:x<y
 ·have e:cmpZ x y = -1:=by simp[cmpZ,c1]
  rw[e];simp +contextual (disch:=omega) only[Tryz.f133,OS,go_sem,simprocAttr,OB,↓AE,↓AD,↓AC,↓AA,h1,h2,c1];exact fzEq rfl rfl
 ·by_cases c2:x > y
  ·have e:cmpZ x y=1:=by unfold cmpZ;rw[if_neg c1,if_pos (by omega)]
   rw[e];simp +contextual (disch:=omega) only[Tryz.f133,OS,go_sem,simprocAttr,OB,↓AE,↓AD,↓AC,↓AA,h1,h2,c1,c2];exact fzEq rfl rfl
  ·have e:cmpZ x y=0:=by unfold cmpZ;rw[if_neg c1,if_neg (by omega)]
   rw[e];simp +contextual (disch:=omega) only[Tryz.f133,OS,go_sem,simprocAttr,OB,↓AE,↓AD,↓AC,↓AA,h1,h2,c1,c2];exact fzEq rfl rfl
theorem f132 (p:Pl) (x:Int) (H:List MB):call Pg pol1 132 [el3 p,I x] H=some (I (cmpZ p.2.1 x),H):=by
 refine AQ Tryz.func132 rfl rfl rfl rfl rfl rfl (fun _=>rfl) (by simp[AV.plain,AV.plainL,el3]) (by simp[AV.plain]) ?_ H;have h1:=f133 p.2.1 x;simp +contextual (disch:=omega) only[Tryz.f132,RE,go_sem,simprocAttr,Qk,↓AE,↓AD,↓AC,↓AA,h1,el3];exact fzEq rfl rfl
structure FindAt (S:List Pl) (x:Int) (k:Nat):Prop where
 le:k<=S.length
 lo:∀(j:Nat) (p:Pl),j<k->S[j]?=some p->p.2.1<x
 hi:∀(j:Nat) (p:Pl),k<=j->S[j]?=some p->x<=p.2.1
def foundB (S:List Pl) (x:Int) (k:Nat):Bool:=match S[k]? with
 | some p=>decide (p.2.1=x)
 | none=>false
structure BS where
 i:Nat
 j:Nat
theorem f131 (S:List Pl) (x:Int) (k:Nat) (hk:FindAt S x k) (hl:S.length<=1000000) (H:List MB) :
  call Pg pol1 131 [.sl false (S.map el3),I x,.clo 132 []] H=some (.tup [I k,.bool (foundB S x k)],H):=by
 have hpl:=A9 S;refine AQ Tryz.func131 rfl rfl rfl rfl rfl rfl (fun _=>rfl) (by simp[AV.plain,AV.plainL,hpl]) (by simp[AV.plain,AV.plainL]) ?_ H;simp +contextual (disch:=omega) only[Tryz.f131,Ke,go_sem,simprocAttr,J6,↓AE,↓AD,↓AC,↓AA];refine ER (σ:=BS) (M:=(mskOf (pol1.mask 131) (pol1.gc 131) (pol1.acts 131) 0 3)) rfl (fun s=>(⟨49,[(10,I s.j),(9,I s.i),(8,I S.length),(2,.clo 132 []),(1,I x),(0,.sl false (S.map el3))],[]⟩:St)) (fun s=>s.i<=k/\k<=s.j/\s.j<=S.length) (fun s=>s.j-s.i) ⟨0,S.length⟩ ?_ ⟨zero_le _,hk.le,le_refl _⟩ _ rfl;rintro⟨i,j⟩ ⟨a1,a2,a3⟩;simp only at a1 a2 a3;by_cases c:i<j
 ·obtain⟨p,hp⟩:∃ p,S[(i+j) / 2]?=some p:=⟨_,getElem?_eq_getElem (by omega)⟩;have hp':(S.map el3)[(i+j) / 2]?=some (.agg [I p.1,I p.2.1,I p.2.2]):=by simp[hp,el3]
  have h132:∀ H,call Pg pol1 132 [.agg [I p.1,I p.2.1,I p.2.2],I x] H=some (I (cmpZ p.2.1 x),H):=f132 p x;have w1:IntKind.i64.wrap ((i:Int)+(j:Int))=((i+j:Nat):Int):=by rw[i64_in]<;>omega
  have w2:IntKind.u64.wrap ((i+j:Nat):Int)=((i+j:Nat):Int):=by simp[IntKind.wrap,IntKind.bits,IntKind.signed];omega
  have w3:evShift .shr .u64 ((i+j:Nat):Int) 1=some (.int .u64 (((i+j) / 2:Nat):Int)):=by
   have:(((i+j:Nat):Int)).fdiv 2=(((i+j) / 2:Nat):Int):=by rw[Int.fdiv_eq_ediv_of_nonneg _ (by omega)];omega
   unfold evShift;rw[if_neg (by omega)];simp only[show min (Int.toNat 1) (IntKind.bits .u64)=1 from rfl,Int.pow_succ,Int.pow_zero,Int.one_mul,this]
  have w3':(((i+j:Nat):Int)).fdiv 2=(((i+j) / 2:Nat):Int):=by rw[Int.fdiv_eq_ediv_of_nonneg _ (by omega)];omega
  have w4:IntKind.i64.wrap ((((i+j) / 2:Nat):Int))=(((i+j) / 2:Nat):Int):=by rw[i64_in]<;>omega
  have hlt:(i+j) / 2<S.length:=by omega
  by_cases c2:p.2.1<x
  ·have e:cmpZ p.2.1 x = -1:=by simp[cmpZ,c2]
   rw[e]at h132;generalize hm:(i+j) / 2=m at *;simp +contextual (disch:=omega) only[Tryz.f131,Ke,go_sem,simprocAttr,J6,↓AE,↓AD,↓AC,↓AA,w1,w2,w3,w4,hp',h132];refine⟨⟨m+1,j⟩,⟨?_,a2,a3⟩,?_,rfl⟩
   ·show m+1<=k;rcases lt_or_ge m k with g|g
    ·exact g
    ·have:=hk.hi m p g hp;omega
   ·show j-(m+1)<j-i;omega
  ·have e:¬ cmpZ p.2.1 x<0:=by unfold cmpZ;split<;>(try split)<;>omega
   generalize cmpZ p.2.1 x=z at *;generalize hm:(i+j) / 2=m at *;simp +contextual (disch:=omega) only[Tryz.f131,Ke,go_sem,simprocAttr,J6,↓AE,↓AD,↓AC,↓AA,w1,w2,w3,w4,hp',h132,e];refine⟨⟨i,m⟩,⟨a1,?_,?_⟩,?_,rfl⟩
   ·show k<=m;rcases lt_or_ge m k with g|g
    ·have:=hk.lo m p g hp;omega
    ·exact g
   ·show m<=S.length;omega
   ·show m-i<j-i;omega
 ·obtain rfl:i=k:=by omega
  by_cases c2:i<S.length
  ·obtain⟨p,hp⟩:∃ p,S[i]?=some p:=⟨_,getElem?_eq_getElem c2⟩;have hp':(S.map el3)[i]?=some (.agg [I p.1,I p.2.1,I p.2.2]):=by simp[hp,el3]
   have h132:∀ H,call Pg pol1 132 [.agg [I p.1,I p.2.1,I p.2.2],I x] H=some (I (cmpZ p.2.1 x),H):=f132 p x;have e:foundB S x i=(cmpZ p.2.1 x==0):=by
    simp only[foundB,hp,cmpZ];split
    ·simp;omega
    ·split
     ·simp;omega
     ·simp;omega
   rw[e];simp +contextual (disch:=omega) only[Tryz.f131,Ke,go_sem,simprocAttr,J6,↓AE,↓AD,↓AC,↓AA,hp',h132];exact fzEq rfl rfl
  ·have e:foundB S x i=false:=by simp[foundB,List.getElem?_eq_none (Nat.le_of_not_lt c2)]
   rw[e];simp +contextual (disch:=omega) only[Tryz.f131,Ke,go_sem,simprocAttr,J6,↓AE,↓AD,↓AC,↓AA];exact fzEq rfl rfl
def findK (S:List Pl) (x:Int):Nat:=S.findIdx fun p=>decide (x<=p.2.1)
theorem DivOk.findAt {cl:Cls}{top:Int} (h:DivOk cl top) (x:Int):FindAt (sortP (placesL 0 cl)) x (findK (sortP (placesL 0 cl)) x):=by
 have ho:=Cf h.chain (fun p hp=>(h.val p hp).2);refine⟨List.findIdx_le_length,fun j p hj hp=>?_,fun j p hj hp=>?_⟩
 ·have hjl:=(List.getElem?_eq_some_iff.1 hp).1;have:=List.not_of_lt_findIdx hj;have e:=(List.getElem?_eq_some_iff.1 hp).2;simp only[e]at this
  simpa using this
 ·have hjl:=(List.getElem?_eq_some_iff.1 hp).1;have hkl:findK (sortP (placesL 0 cl)) x<(sortP (placesL 0 cl)).length:=by omega
  have h1:decide (x<=((sortP (placesL 0 cl))[findK (sortP (placesL 0 cl)) x]'hkl).2.1)=true:=List.findIdx_getElem (p:=fun p:Pl=>decide (x<=p.2.1)) (w:=hkl);simp only[decide_eq_true_eq]at h1;rcases Nat.eq_or_lt_of_le hj with g|g
  ·obtain⟨_,e⟩:=List.getElem?_eq_some_iff.1 hp;subst g;rw[<- e];exact h1
  ·have:=(Ey ho (fun p hp=>(h.val p hp).2) g (by simpa using hjl)).2;simp only[List.getElem_map,spanOf]at this;obtain⟨_,e⟩:=List.getElem?_eq_some_iff.1 hp;rw[e]at this;omega
abbrev findAV (cl:Cls):AV:=.clo 130 [.pt [.sl false ((sortP (placesL 0 cl)).map el3)]]
theorem f130 {cl:Cls}{top:Int} (h:DivOk cl top) (hs:(cl.map List.length).sum<=1000000) {x:Int} (h0:0<=x) (h1:x<=top) (H:List MB) :
  call Pg pol1 130 [I x,.pt [.sl false ((sortP (placesL 0 cl)).map el3)]] H=some (I (clIx cl x),H):=by
 have hlen:(sortP (placesL 0 cl)).length<=1000000:=by rw[B6,Bi];exact hs
 have hf:=h.findAt x;obtain⟨p,hp,hc⟩:=h.search h0 h1 hf.le hf.lo hf.hi;have h131:=f131 _ x _ hf hlen;generalize findK (sortP (placesL 0 cl)) x=k at *;generalize sortP (placesL 0 cl)=S at *;have hpl:=A9 S;have hp':(S.map el3)[k]?=some (.agg [I p.1,I p.2.1,I p.2.2]):=by simp[hp,el3]
 have hkl:=(List.getElem?_eq_some_iff.1 hp).1;refine CE Tryz.func130 rfl rfl rfl rfl (by rfl) ?_;simp +contextual (disch:=omega) only[Tryz.f130,RF,go_sem,simprocAttr,Ql,↓AE,↓AD,↓AC,↓AA,h131,hp',hc];have hko:=Bw H.length [] H;rw[List.append_nil]at hko;exact Jx rfl rfl rfl hko (take_of_length_le (le_refl _))
theorem f73 (cl:Cls) (hl:cl.length<=1000000) (hs:(cl.map List.length).sum<=1000000) (H:List MB):call Pg pol1 73 [.sl false (cl.map setAV9)] H=some (findAV cl,H):=by
 have hpl:=AM cl;have h129:=f129 cl hl hs;have hpe:=A9 (sortP (placesL 0 cl));unfold findAV;generalize sortP (placesL 0 cl)=S at *;refine AQ Tryz.func73 rfl rfl rfl rfl rfl rfl (fun _=>rfl) (by simp[AV.plain,AV.plainL,hpl]) (by simp[AV.plain,AV.plainL,hpe]) ?_ H;have hz:fzS (.rf 0 1 0 0) [.row 1 [.sl false (S.map el3)] 0]=some (.pt [.sl false (S.map el3)],[.row 1 [.sl false (S.map el3)] 1]):=rfl;simp +contextual (disch:=omega) only[Tryz.f73,dd73,go_sem,simprocAttr,mu73,↓AE,↓AD,↓AC,↓AA,h129,hz];exact fzEq (by simp[AV.plain,AV.plainL,hpe]) rfl
def lastHi (s:List (Int×Int)):Int:=((s[s.length-1]?).map (·.2)).getD 0
def topL (cl:Cls):Int:=cl.foldl (fun o s=>max o (lastHi s)) 0
theorem Mh {cl:Cls}{i:Nat}{s:List (Int×Int)} (h:cl[i]?=some s):topL (cl.take (i+1))=max (topL (cl.take i)) (lastHi s):=by
 unfold topL;rw[take_add_one,h,Option.toList_some,List.foldl_append];rfl
theorem f72 (a:AutoL) (hb:AutoB a) (hne:∀ s∈a.cl,s≠[]) (H:List MB):call Pg pol1 72 [autoAV a] H=some (I (topL a.cl),H):=by
 have hpl:=Ac a;have b1:=hb.cl;have hsl:∀ s∈a.cl,s.length<=1000000:=fun s hm=>by
  have:s.length<=(a.cl.map List.length).sum:=CK (mem_map.2 ⟨s,hm,rfl⟩);have:=hb.sum;omega
 obtain⟨cl,nx,ac⟩:=a;simp only at b1 hsl hne |-;refine AQ Tryz.func72 rfl rfl rfl rfl rfl rfl (fun _=>rfl) (by simp only[AV.plainL,hpl];rfl) (by simp[AV.plain]) ?_ H;simp +contextual (disch:=omega) only[Tryz.f72,dd72,go_sem,simprocAttr,mu72,↓AE,↓AD,↓AC,↓AA];refine AR (M:=(mskOf (pol1.mask 72) (pol1.gc 72) (pol1.acts 72) 0 3)) rfl cl.length (fun i=>(⟨24,[(9,I i),(8,I cl.length),(7,.sl false (cl.map setAV9)),(3,I (topL (cl.take i)))],[.row 3 [autoAV ⟨cl,nx,ac⟩] 0]⟩:St)) (fun i=>True) ?_ ?_ trivial _ rfl
 ·intro i hi _;obtain⟨s,hsi⟩:∃ s,cl[i]?=some s:=⟨_,getElem?_eq_getElem hi⟩;have hsi':(cl.map setAV9)[i]?=some (setAV9 s):=by simp[hsi]
  have hs0:=hne s (mem_of_getElem? hsi);have hs1:=hsl s (mem_of_getElem? hsi);have hpos:=List.length_pos_iff.2 hs0;obtain⟨p,hp⟩:∃ p,s[s.length-1]?=some p:=⟨_,getElem?_eq_getElem (by omega)⟩;have hp':(s.map spanAV)[s.length-1]?=some (spanAV p):=by simp[hp]
  have e:lastHi s=p.2:=by simp[lastHi,hp]
  rw[Mh hsi,e];simp +contextual (disch:=omega) only[Tryz.f72,dd72,go_sem,simprocAttr,mu72,↓AE,↓AD,↓AC,↓AA,hsi',hp',FY];rfl
 ·intro _;rw[take_length];simp +contextual (disch:=omega) only[Tryz.f72,dd72,go_sem,simprocAttr,mu72,↓AE,↓AD,↓AC,↓AA];exact fzEq rfl rfl
theorem Jd:∀(A B:List (Int×Int)),topZ (A++B)=max (topZ A) (topZ B)
 | [],B=>by have:=Ek B;simp only[List.nil_append,topZ];omega
 | p::A,B=>by rw[List.cons_append,topZ,topZ,Jd A B];omega
theorem IL:∀(s:List (Int×Int)),s.Pairwise (fun p q=>p.2+1<q.1)->(∀ p∈s,0<=p.1/\p.1<=p.2)->s≠[]->lastHi s=topZ s
 | [],_,_,h=>absurd rfl h
 | [p],_,h,_=>by have:=h p (by simp);simp[lastHi,topZ];omega
 | p::q::s,h1,h2,_=>by
   have ih:=IL (q::s) (List.pairwise_cons.1 h1).2 (fun r hr=>h2 r (by simp at hr |-;right;exact hr)) (by simp);have e:lastHi (p::q::s)=lastHi (q::s):=by simp[lastHi]
   have h3:=(List.pairwise_cons.1 h1).1 q (by simp);have h4:=h2 q (by simp);have h5:=Ir (l:=q::s) (p:=q) (by simp);rw[e,ih];show topZ (q::s)=max p.2 (topZ (q::s));omega
theorem L8:∀(cl:Cls) (o:Int),-1<=o->(∀ s∈cl,lastHi s=topZ s)->cl.foldl (fun o s=>max o (lastHi s)) o=max o (topZ cl.flatten)
 | [],o,ho,_=>by simp only[List.foldl_nil,List.flatten_nil,topZ];omega
 | s::cl,o,ho,h=>by
   have:=Ek s;rw[List.foldl_cons,h s (by simp),L8 cl _ (by omega) (fun t ht=>h t (by simp[ht])),List.flatten_cons,Jd];omega
theorem DivOk.topL_eq {cl:Cls}{top:Int} (h:DivOk cl top):topL cl=topZ cl.flatten/\topZ cl.flatten=top:=by
 have h1:∀ s∈cl,lastHi s=topZ s:=fun s hs=>by
  have:=h.set s hs;exact IL s (A8 this.1) (fun p hp=>by have:=Ak this.1 p hp;omega) this.2
 have hne:(sortP (placesL 0 cl)).map spanOf≠[]:=by
  intro e0;have hc:=h.chain;rw[e0]at hc;simp only[chainA,Option.some.injEq]at hc;have:=h.top_;omega
 have ht:=D9 h.chain (fun p hp=>(h.val p hp).2) hne;rw[Hz]at ht;have:=h.top_;have e:topZ cl.flatten=top:=by omega
 refine⟨?_,e⟩;rw[topL,L8 cl 0 (by omega) h1];omega
theorem Nu {A:DA}{t:List Int}{i:Nat}{x:Int} (h:t[i]?=some x) (s:Nat):A.run s (t.take (i+1))=A.nx (A.run s (t.take i)) (A.cl x):=by
 rw[take_add_one,h,Option.toList_some,DA.run_app];rfl
theorem f25 (a:AutoL) (hb:AutoB a) (t:List Int) (hl:t.length<=1000000) (H:List MB) :
  call Pg pol1 25 [autoAV a,.sl false (t.map I)] H=some (.tup [.bool (accW (dividesA a.cl) a t).1,I (accW (dividesA a.cl) a t).2],H):=by
 have hpl:=Ac a;have hpt:=AF t;have h18:=f18 a hb;have hdv:=@DF a.cl;refine AQ Tryz.func25 rfl rfl rfl rfl rfl rfl (fun _=>rfl) (by simp[AV.plainL,AV.plain,hpt,AM,AT,AJ]) (by simp[AV.plain,AV.plainL]) ?_ H;unfold accW;by_cases hv:validW (dividesA a.cl) a=0
 ·rw[if_neg (by simp[hv])];obtain⟨hg,hd⟩:=BC hv;rw[hv]at h18;have hdo:=hdv hd;have htl:=hdo.topL_eq.1;have h72:=f72 a hb (fun s hs=>(hdo.set s hs).2);rw[htl]at h72;have h73:=f73 a.cl hb.cl hb.sum;have h130:=fun x (h0:0<=x) h1=>f130 hdo hb.sum (x:=x) h0 h1;have hok:=Ch hg hdo;have hacl:=hg.ac;have hrun:∀ i s,s=(autoDA a).run 0 (t.take i)->(∀ x∈t.take i,0<=x/\x<=topZ a.cl.flatten)->s<a.nx.length:=fun i s e h=>by
   subst e;exact hok.run_lt _ 0 h hok.pos
  have hst:=fun i x (h:t[i]?=some x)=>Nu (A:=autoDA a) h 0;have hcl:∀ x,0<=x->x<=topZ a.cl.flatten->clIx a.cl x<a.cl.length:=fun x h0 h1=>(hdo.clIx_lt h0 h1).1;have hrows:=hg.rows;have hnx:∀ s c,(autoDA a).nx s c=stepC a.nx s c:=fun _ _=>rfl;have hclD:(autoDA a).cl=clIx a.cl:=rfl;obtain⟨cl,nx,ac⟩:=a;simp only at htl h73 h130 hrun hcl hacl hrows hnx hclD |-;rw[hclD]at hst;generalize topZ cl.flatten=T at *;unfold findAV at h73;generalize (AV.pt [.sl false ((sortP (placesL 0 cl)).map el3)])=F at *;by_cases h6:65536<t.length
  ·rw[if_pos h6];simp +contextual (disch:=omega) only[Tryz.f25,dd25,go_sem,simprocAttr,mu25,↓AE,↓AD,↓AC,↓AA,h18];exact fzEq rfl rfl
  ·rw[if_neg h6];simp +contextual (disch:=omega) only[Tryz.f25,dd25,go_sem,simprocAttr,mu25,↓AE,↓AD,↓AC,↓AA,h18,h72];refine AR (M:=(mskOf (pol1.mask 25) (pol1.gc 25) (pol1.acts 25) 0 8)) rfl t.length (fun i=>(⟨63,[(26,I i),(25,I t.length),(24,.sl false (t.map I)),(7,I T),(2,.rf 0 1 0 0),(1,.sl false (t.map I))],[.row 3 [autoAV ⟨cl,nx,ac⟩] 0]⟩:St)) (fun i=>∀ k x,k<i->t[k]?=some x->0<=x/\x<=T) ?_ ?_ (fun k x h=>by omega) _ rfl
   ·intro i hi hin;obtain⟨x,hx⟩:∃ x,t[i]?=some x:=⟨_,getElem?_eq_getElem hi⟩;have hx':(t.map I)[i]?=some (I x):=by simp[hx]
    by_cases c1:x<0
    ·have e:t.all (fun x=>decide (0<=x)&&decide (x<=T))=false:=EA hx (by simp;omega);rw[e];simp +contextual (disch:=omega) only[Tryz.f25,dd25,go_sem,simprocAttr,mu25,↓AE,↓AD,↓AC,↓AA,hx',c1];exact fzEq rfl rfl
    ·by_cases c2:x > T
     ·have e:t.all (fun x=>decide (0<=x)&&decide (x<=T))=false:=EA hx (by simp;omega);rw[e];simp +contextual (disch:=omega) only[Tryz.f25,dd25,go_sem,simprocAttr,mu25,↓AE,↓AD,↓AC,↓AA,hx',c1,c2];exact fzEq rfl rfl
     ·simp +contextual (disch:=omega) only[Tryz.f25,dd25,go_sem,simprocAttr,mu25,↓AE,↓AD,↓AC,↓AA,hx',c1,c2];refine⟨fun k y hk hy=>?_,rfl⟩;rcases lt_or_ge k i with h1|h1
      ·exact hin k y h1 hy
      ·obtain rfl:k=i:=by omega
       rw[hx]at hy;cases hy;omega
   ·intro hin;have e:t.all (fun x=>decide (0<=x)&&decide (x<=T))=true:=HT fun k hk x hx=>by
     have:=hin k x hk hx;simp[this]
    rw[if_pos e];have hT:∀ i,∀ x∈t.take i,0<=x/\x<=T:=fun i x hx=>by
     obtain⟨k,hk,e⟩:=List.getElem_of_mem (List.mem_of_mem_take hx);exact hin k x hk (by rw[getElem?_eq_getElem hk,e])
    simp +contextual (disch:=omega) only[Tryz.f25,dd25,go_sem,simprocAttr,mu25,↓AE,↓AD,↓AC,↓AA,h73];refine AR (M:=(mskOf (pol1.mask 25) (pol1.gc 25) (pol1.acts 25) 0 16)) rfl t.length (fun i=>(⟨63,[(43,I i),(42,I t.length),(41,.sl false (t.map I)),(11,I ((autoDA ⟨cl,nx,ac⟩).run 0 (t.take i))),(10,.clo 130 [F]),(2,.rf 0 1 0 0)],[.row 3 [autoAV ⟨cl,nx,ac⟩] 0]⟩:St)) (fun i=>True) ?_ ?_ trivial _ rfl
    ·intro i hi _;obtain⟨x,hx⟩:∃ x,t[i]?=some x:=⟨_,getElem?_eq_getElem hi⟩;have hx':(t.map I)[i]?=some (I x):=by simp[hx]
     have hxb:=hin i x hi hx;have h130':=h130 x hxb.1 hxb.2;have hc:=hcl x hxb.1 hxb.2;rw[hst i x hx,hnx];have hs:=hrun i _ rfl (hT i);generalize (autoDA ⟨cl,nx,ac⟩).run 0 (t.take i)=s at *;generalize clIx cl x=c at *;obtain⟨r,hr⟩:∃ r,nx[s]?=some r:=⟨_,getElem?_eq_getElem hs⟩;have hr':(nx.map rowAV)[s]?=some (rowAV r):=by simp[hr]
     have hro:=hrows r (mem_of_getElem? hr);obtain⟨v,hv2⟩:∃ v,r[c]?=some v:=⟨_,getElem?_eq_getElem (by omega)⟩;have hv':(r.map I)[c]?=some (I v):=by simp[hv2]
     have hvb:=hro.2 v (mem_of_getElem? hv2);have e2:((stepC nx s c:Nat):Int)=v:=by simp only[stepC,hr,hv2,Option.getD_some];omega
     rw[e2];simp +contextual (disch:=omega) only[Tryz.f25,dd25,go_sem,simprocAttr,mu25,↓AE,↓AD,↓AC,↓AA,hx',hr',hv',h130'];exact⟨by unfold dOk;kernel_rfl,rfl⟩
    ·intro _;rw[take_length];have hs:=hrun t.length _ rfl (hT t.length);rw[take_length]at hs;generalize (autoDA ⟨cl,nx,ac⟩).run 0 t=s at *;obtain⟨b,hb2⟩:∃ b,ac[s]?=some b:=⟨_,getElem?_eq_getElem (by omega)⟩;have hb':(ac.map AV.bool)[s]?=some (.bool b):=by simp[hb2]
     rw[hb2];simp +contextual (disch:=omega) only[Tryz.f25,dd25,go_sem,simprocAttr,mu25,↓AE,↓AD,↓AC,↓AA,hb'];exact fzEq rfl rfl
 ·rw[if_pos hv];obtain⟨cl,nx,ac⟩:=a;simp +contextual (disch:=omega) only[Tryz.f25,dd25,go_sem,simprocAttr,mu25,↓AE,↓AD,↓AC,↓AA,h18,hv];exact fzEq rfl rfl
end
section
attribute [local go_sem] evAppend evBin AV.cells
abbrev zA:AutoL:=⟨[],[],[]⟩
def lstW (a:AutoL):AutoL×Int:=if(clsL a.cl (nxN a.nx) a.ac).any (fun s=>decide (64<s.length)) then(zA,4) else(lstA a,0)
def pairAV (r:AutoL×Int):AV:=.tup [autoAV r.1,I r.2]
theorem Ax (r:AutoL×Int):AV.plain (pairAV r)=true:=by
 simp[pairAV,AV.plain,AV.plainL,AM,AT,AJ]
theorem f60L {a:AutoL} (hg:GoodA a) {top:Int} (hd:DivOk a.cl top) (H:List MB):call Pg pol1 60 [autoAV a] H=some (pairAV (lstW a),H):=by
 have hok:=Ch hg hd;rw[Cv]at hok;rw[F8 hg,f60 a.cl (nxN a.nx) a.ac (clIx a.cl) top hok (LW hg hd) H];unfold leastW lstW pairAV;split
 ·rfl
 ·simp only[lstA,F5]
def ofValid (a:AutoL) (f:AutoL->AutoL×Int):AutoL×Int:=if validW (dividesA a.cl) a≠0 then(zA,validW (dividesA a.cl) a) else f a
theorem f26 (a:AutoL) (hb:AutoB a) (H:List MB):call Pg pol1 26 [autoAV a] H=some (pairAV (ofValid a lstW),H):=by
 have hpl:=Ac a;have h18:=f18 a hb;have hpp:=Ax (ofValid a lstW);refine AQ Tryz.func26 rfl rfl rfl rfl rfl rfl (fun _=>rfl) (by simp only[AV.plainL,hpl];rfl) hpp ?_ H;unfold ofValid;by_cases hv:validW (dividesA a.cl) a=0
 ·rw[if_neg (by simp[hv])];obtain⟨hg,hd⟩:=BC hv;have h60:=f60L hg (DF hd);rw[hv]at h18;have hpw:=Ax (lstW a);unfold pairAV at h60 hpw |-;generalize lstW a=r at *;obtain⟨r,e⟩:=r;simp only at h60 hpw |-;obtain⟨cl,nx,ac⟩:=a;simp +contextual (disch:=omega) only[Tryz.f26,dd26,go_sem,simprocAttr,mu26,↓AE,↓AD,↓AC,↓AA,h18,h60];exact fzEq hpw rfl
 ·rw[if_pos hv];unfold pairAV;obtain⟨cl,nx,ac⟩:=a;simp +contextual (disch:=omega) only[Tryz.f26,dd26,go_sem,simprocAttr,mu26,↓AE,↓AD,↓AC,↓AA,h18,hv];exact⟨_,rfl⟩
def notA (a:AutoL):AutoL:=⟨a.cl,a.nx,a.ac.map fun b=>!b⟩
theorem IF {a:AutoL} (h:GoodA a):GoodA (notA a):=⟨h.cl,h.pos,h.nx,by simp only[notA,List.length_map];exact h.ac,h.rows⟩
theorem f28 (a:AutoL) (hb:AutoB a) (H:List MB):call Pg pol1 28 [autoAV a] H=some (pairAV (ofValid a fun a=>lstW (notA a)),H):=by
 have hpl:=Ac a;have h18:=f18 a hb;have hpp:=Ax (ofValid a fun a=>lstW (notA a));have hb3:=hb.ac;refine AQ Tryz.func28 rfl rfl rfl rfl rfl rfl (fun _=>rfl) (by simp only[AV.plainL,hpl];rfl) hpp ?_ H;unfold ofValid;by_cases hv:validW (dividesA a.cl) a=0
 ·rw[if_neg (by simp[hv])];obtain⟨hg,hd⟩:=BC hv;have h60:=f60L (IF hg) (DF hd);rw[hv]at h18;have hpw:=Ax (lstW (notA a))
  dsimp only
  unfold pairAV at h60 hpw |-;generalize lstW (notA a)=r at *;obtain⟨r,e⟩:=r;simp only at h60 hpw |-;obtain⟨cl,nx,ac⟩:=a;unfold notA at h60;simp only at h60 hb3;have hroom:roomFor (ac.length:Int).toNat 1=true:=AS (by omega) (by omega);have hnl:(ac.map fun b=>!b).length=ac.length:=by simp
  have hng:∀(i:Nat) (b:Bool),ac[i]?=some b->(ac.map fun b=>!b)[i]?=some (!b):=fun i b h=>by simp[h]
  generalize ac.map (fun b=>!b)=nac at *;simp +contextual (disch:=omega) only[Tryz.f28,dd28,go_sem,simprocAttr,mu28,↓AE,↓AD,↓AC,↓AA,h18,hroom];refine AR (M:=(mskOf (pol1.mask 28) (pol1.gc 28) (pol1.acts 28) 0 6)) rfl ac.length (fun i=>(⟨41,[(21,I i),(20,I ac.length),(19,.sl false (ac.map AV.bool)),(5,.ms 2 1 ac.length 0 ac.length),(2,.rf 1 1 0 0),(1,.rf 0 1 0 0)],[.row 3 [autoAV ⟨cl,nx,ac⟩] 0,.row 3 [E3] 0,.row 1 ((nac.take i++List.replicate (ac.length-i) false).map AV.bool) 0]⟩:St)) (fun i=>True) ?_ ?_ trivial _ ?_
  ·intro i hi _;obtain⟨b,hbi⟩:∃ b,ac[i]?=some b:=⟨_,getElem?_eq_getElem hi⟩;have hbi':(ac.map AV.bool)[i]?=some (.bool b):=by simp[hbi]
   have hfs:=BP (z:=false) hnl (hng i b hbi);have hfl:=BQ (A:=nac) (z:=false) hnl (i:=i) (by omega);rw[<- hfs];generalize nac.take i++List.replicate (ac.length-i) false=A at *;obtain⟨y,hy⟩:∃ y,A[i]?=some y:=⟨_,getElem?_eq_getElem (by omega)⟩;have hy':(A.map AV.bool)[i]?=some (.bool y):=by simp[hy]
   have hset:(A.map AV.bool).set i (.bool (!b))=(A.set i (!b)).map AV.bool:=by rw[map_set]
   simp +contextual (disch:=omega) only[Tryz.f28,dd28,go_sem,simprocAttr,mu28,↓AE,↓AD,↓AC,↓AA,hbi',hfl,hy',hset];rfl
  ·intro _;rw[Bl hnl];have hz:∀ b0 b1:MB,fz (.agg [.sl false (cl.map setAV9),.sl false (nx.map rowAV),.ms 2 1 ac.length 0 ac.length]) [b0,b1,.row 1 (nac.map AV.bool) 0]=some (autoAV ⟨cl,nx,nac⟩,[b0,b1,.row 1 (nac.map AV.bool) ac.length]):=fun b0 b1=>by
    have h3:=As (id:=2) (k:=1) (z:=0) (tot:=ac.length) (H:=[b0,b1,.row 1 (nac.map AV.bool) 0]) rfl (by simp[hnl]) (AJ nac);have hm:mark [b0,b1,.row 1 (nac.map AV.bool) 0] 2 ac.length=[b0,b1,.row 1 (nac.map AV.bool) ac.length]:=by simp[mark,getRow]
    rw[hm]at h3;exact E6 (Ap _ (by simp[AV.plain,AM])) (Ap _ (by simp[AV.plain,AT])) h3
   have c60:=fun b0 b1:MB=>A3 (P:=Pg) (pol:=pol1) (f:=60) (args:=[.agg [.sl false (cl.map setAV9),.sl false (nx.map rowAV),.ms 2 1 ac.length 0 ac.length]]) (l:=[autoAV ⟨cl,nx,nac⟩]) (H:=[b0,b1,.row 1 (nac.map AV.bool) 0]) (H1:=[b0,b1,.row 1 (nac.map AV.bool) ac.length]) rfl (by simp only[frzArgs,show pol1.byref 60 0=false from rfl,Bool.false_eq_true,if_false,hz]) (by simp[AV.plainL,AV.plain,AM,AT,AJ]);simp only[h60]at c60;simp +contextual (disch:=omega) only[Tryz.f28,dd28,go_sem,simprocAttr,mu28,↓AE,↓AD,↓AC,↓AA,c60];exact fzEq hpw rfl
  ·rw[List.take_zero,List.nil_append,List.map_replicate];rfl
 ·rw[if_pos hv];unfold pairAV;obtain⟨cl,nx,ac⟩:=a;simp +contextual (disch:=omega) only[Tryz.f28,dd28,go_sem,simprocAttr,mu28,↓AE,↓AD,↓AC,↓AA,h18,hv];exact⟨_,rfl⟩
end
section
abbrev U (n:Int):AV:=.int .u64 n
abbrev wAV (w:List Int):AV:=.agg (w.map U)
theorem OW:∀ {a b:List Int},AV.beqL (a.map U) (b.map U)=true↔a=b
 | [],[]=>by simp[AV.beqL]
 | [],_::_=>by simp[AV.beqL]
 | _::_,[]=>by simp[AV.beqL]
 | x::a,y::b=>by
   have:=@OW a b;simp[AV.beqL,AV.beq,this]
theorem GC {a b:List Int}:AV.beq (wAV a) (wAV b)=true↔a=b:=OW
def ent:Nat->List (List Int)->List (AV×AV)
 | _,[]=>[]
 | i,w::ws=>(wAV w,I i)::ent (i+1) ws
theorem KS {w:List Int}:∀ {ws:List (List Int)}{i n:Nat},ws[n]?=some w->(∀ m,ws[m]?=some w->m=n)->findMp (wAV w) (ent i ws)=some (I ((i+n:Nat):Int))
 | [],i,n,h,_=>by simp at h
 | v::ws,i,n,h,hu=>by
   simp only[ent,findMp];by_cases e:v=w
   ·rw[if_pos (GC.2 e)];have:=hu 0 (by simp[e]);subst this;rfl
   ·rw[if_neg (fun h2=>e (GC.1 h2))];cases n with
    | zero=>simp at h;exact absurd h e
    | succ n=>
      rw[KS (ws:=ws) (i:=i+1) (n:=n) (by simpa using h) (fun m hm=>by have:=hu (m+1) (by simpa using hm);omega)];congr 3;omega
theorem FT {w:List Int}:∀ {ws:List (List Int)}{i:Nat},w ∉ ws->findMp (wAV w) (ent i ws)=none
 | [],i,_=>rfl
 | v::ws,i,h=>by
   simp only[ent,findMp];rw[if_neg (fun h2=>h (by rw[GC.1 h2];simp))];exact FT fun h2=>h (by simp[h2])
theorem Ip {w:List Int}:∀ {ws:List (List Int)}{i:Nat},w ∉ ws->updMp (wAV w) (I ((i+ws.length:Nat):Int)) (ent i ws)=ent i (ws++[w])
 | [],i,_=>by simp[ent,updMp]
 | v::ws,i,h=>by
   simp only[ent,updMp,List.cons_append];rw[if_neg (fun h2=>h (by rw[GC.1 h2];simp))];have:=Ip (w:=w) (ws:=ws) (i:=i+1) fun h2=>h (by simp[h2]);rw[<- this];congr 4;simp;omega
theorem Ii (k:IntKind):∀(w:List Int) (n:Nat),w.length=n->cellsOk (List.replicate n (some k)) (w.map (AV.int k))=true
 | [],n,h=>by simp at h;subst h;rfl
 | x::w,n,h=>by
   simp at h;subst h;rw[List.replicate_succ,map_cons];simp only[cellsOk,decide_true,Bool.true_and];exact Ii k w _ rfl
theorem PI {w:List Int} (h:w.length=16):cellsOk [some .u64,some .u64,some .u64,some .u64,some .u64,some .u64,some .u64,some .u64,some .u64,some .u64,some .u64,some .u64,some .u64,some .u64,some .u64,some .u64] (w.map U)=true:=Ii .u64 w 16 h
def clsAV (ids:List Nat) (cls:List Spans):List AV:=List.zipWith (fun id c=>AV.ms id 2 c.length 0 c.length) ids cls
theorem Bt {ids:List Nat}{cls:List Spans} (h:ids.length=cls.length):(clsAV ids cls).length=cls.length:=by simp[clsAV,h]
theorem Kj {ids:List Nat}{cls:List Spans}{n id:Nat}{c:Spans} (h1:ids[n]?=some id) (h2:cls[n]?=some c):(clsAV ids cls)[n]?=some (.ms id 2 c.length 0 c.length):=by
 simp[clsAV,List.getElem?_zipWith,h1,h2]
theorem NU {ids:List Nat}{cls:List Spans}{n id:Nat} (h1:ids[n]?=some id) (c:Spans):(clsAV ids cls).set n (.ms id 2 c.length 0 c.length)=clsAV ids (cls.set n c):=by
 refine List.ext_getElem? fun i=>?_;unfold clsAV;rw[List.getElem?_set,List.getElem?_zipWith,List.getElem?_zipWith,List.getElem?_set,List.length_zipWith];by_cases e:n=i
 ·subst e;have hlt:=(List.getElem?_eq_some_iff.1 h1).1;rw[if_pos rfl,if_pos rfl,h1];by_cases h:n<cls.length
  ·rw[if_pos (by omega),if_pos h]
  ·rw[if_neg (by omega),if_neg h]
 ·rw[if_neg e,if_neg e]
theorem Lr {ids:List Nat}{cls:List Spans} (h:ids.length=cls.length) (id:Nat) (c:Spans):clsAV (ids++[id]) (cls++[c])=clsAV ids cls++[.ms id 2 c.length 0 c.length]:=by
 unfold clsAV;rw[List.zipWith_append h];rfl
theorem KA {H:List MB}{id n i k z:Nat}{els:List AV} (h:getRow H i=some (k,els,z)):∃ z',getRow (mark H id n) i=some (k,els,z'):=by
 unfold mark;cases hr:getRow H id with
 | none=>exact⟨z,h⟩
 | some x=>
   obtain⟨k',els',z0⟩:=x;simp only;have hi:=At h;have hid:=At hr;unfold getRow;by_cases e:id=i
   ·subst e;rw[h]at hr;cases hr;rw[getElem?_set_self (List.getElem?_eq_some_iff.1 hid).1];exact⟨_,rfl⟩
   ·rw[getElem?_set_ne e,hi];exact⟨z,rfl⟩
theorem MT (k:Nat):∀(ids:List Nat) (cls:List Spans) (H:List MB),ids.length=cls.length->(∀(n id:Nat) (c:Spans),ids[n]?=some id->cls[n]?=some c->∃ z,getRow H id=some (2,c.map spanAV,z)) ->
  ∃ H',fzL (fzJ (k+1)) (clsAV ids cls) H=some (cls.map setAV,H')
 | [],[],H,_,_=>⟨H,rfl⟩
 | [],_::_,H,h,_=>by simp at h
 | _::_,[],H,h,_=>by simp at h
 | id::ids,c::cls,H,h,hr=>by
   obtain⟨z,h0⟩:=hr 0 id c rfl rfl;have h1:=JD (n:=k) h0 (List.length_map _) (AH c);obtain⟨H',h2⟩:=MT k ids cls (mark H id c.length) (by simpa using h) (fun n id' c' a b=>by
    obtain⟨z',h3⟩:=hr (n+1) id' c' (by simpa using a) (by simpa using b);exact KA h3)
   refine⟨H',?_⟩;show fzL (fzJ (k+1)) (.ms id 2 c.length 0 c.length::clsAV ids cls) H=_;simp only[fzL,h1,h2];rfl
structure ClsOk (H:List MB) (ids:List Nat) (cls:List Spans):Prop where
 len:ids.length=cls.length
 out:H[2]?=some (.row 1 (clsAV ids cls) 0)
 rows:∀(n id:Nat) (c:Spans),ids[n]?=some id->cls[n]?=some c->H[id]?=some (.row 2 (c.map spanAV) 0)
 nodup:ids.Nodup
 high:∀ id∈ids,3<=id
theorem ClsOk.fz {H:List MB}{ids:List Nat}{cls:List Spans} (h:ClsOk H ids cls) {n:Nat} (hn:cls.length=n):∃ H',fz (.tup [.ms 2 1 n 0 n,I 0]) H=some (.tup [.sl false (cls.map setAV),I 0],H'):=by
 subst hn;have h0:getRow H 2=some (1,clsAV ids cls,0):=by unfold getRow;rw[h.out]
 obtain⟨H',h1⟩:=MT 4 ids cls (mark H 2 (0+cls.length)) h.len (fun n id c a b=>KA (z:=0) (by unfold getRow;rw[h.rows n id c a b]));have hl:=Bt h.len;refine⟨H',?_⟩;unfold Ev.fz;rw[PF];have h2:fzA (fzJ 6) (.ms 2 1 cls.length 0 cls.length) H=some (.sl false (cls.map setAV),H'):=
  JE h0 hl (by omega) (by rw[List.drop_zero,take_of_length_le (by omega)];exact h1)
 simp only[fzL,h2];rfl
theorem ClsOk.put {H:List MB}{ids:List Nat}{cls:List Spans} (h:ClsOk H ids cls) {i:Nat} (hi:i<2) (x:MB):ClsOk (H.set i x) ids cls:=
 ⟨h.len,by rw[getElem?_set_ne (by omega)];exact h.out,fun n id c a b=>by
   have:=h.high id (mem_of_getElem? a);rw[getElem?_set_ne (by omega)];exact h.rows n id c a b,h.nodup,h.high⟩
theorem Li (x r:Int) (n:Nat) (h:r=2 ^ n):evBin .xor .u64 x r=some (U (xorW x n)):=by subst h;rfl
theorem BR {k:IntKind}{a b:Int}:evBin .sub k a b=some (.int k (k.wrap (a-b))):=rfl
theorem BG {k:IntKind}{a b:Int}:evBin .add k a b=some (.int k (k.wrap (a+b))):=rfl
theorem BE {k:IntKind}{a b:Int}:evBin .gtr k a b=some (.bool (decide (a > b))):=rfl
theorem BF {k:IntKind}{a b:Int}:evBin .eql k a b=some (.bool (a==b)):=rfl
theorem KZ (n:Nat) (h:n<=1000000):evBin .quo .i64 (n:Int) 64=some (I ((n / 64:Nat):Int)):=by
 have:IntKind.i64.wrap ((n:Int).tdiv 64)=((n / 64:Nat):Int):=by
  have e:(n:Int).tdiv 64=((n / 64:Nat):Int):=rfl;rw[e,i64_in];omega
 show (if(64:Int)=0 then none else some (I (IntKind.i64.wrap ((n:Int).tdiv 64))))=_;rw[if_neg (by decide),this]
theorem KY (n:Nat):evBin .rem .i64 (n:Int) 64=some (I ((n % 64:Nat):Int)):=by
 have:(n:Int).tmod 64=((n % 64:Nat):Int):=rfl;show (if(64:Int)=0 then none else some (I ((n:Int).tmod 64)))=_;rw[if_neg (by decide),this]
theorem On (n:Nat) (h:n<64):evShift .shl .u64 1 (n:Int)=some (U ((2:Int) ^ n)):=by
 have h1:min (n:Int).toNat IntKind.u64.bits=n:=by show min (n:Int).toNat 64=n;omega
 have h2:(2:Nat) ^ n<2 ^ 64:=Nat.pow_lt_pow_right (by omega) h;have h3:((2 ^ n:Nat):Int)<18446744073709551616:=by
  have h6:(2:Nat) ^ 64=18446744073709551616:=by decide
  rw[h6]at h2;omega
 rw[Int.natCast_pow]at h3;have h4:(0:Int)<=2 ^ n:=Int.pow_nonneg (by omega);have h5:IntKind.u64.wrap (2 ^ n)=2 ^ n:=Int.emod_eq_of_lt h4 h3;show (if(n:Int)<0 then none else some (U (IntKind.u64.wrap (1*2 ^ (min (n:Int).toNat IntKind.u64.bits)))))=_;rw[if_neg (by omega),h1,Int.one_mul,h5]
section split
variable (L:List Spans) (top:Int) (S:List (Int×Int)) (E:List Int)
structure XS where
 k:Nat
 j:Nat
 w:List Int
 ws:List (List Int)
 ids:List Nat
 H:List MB
def KK16:KK:=.flat 144 [some .u64,some .u64,some .u64,some .u64,some .u64,some .u64,some .u64,some .u64,some .u64,some .u64,some .u64,some .u64,some .u64,some .u64,some .u64,some .u64]
structure XI (k j:Nat) (w:List Int) (ws:List (List Int)) (ids:List Nat) (H:List MB):Prop where
 k_le:k<=E.length
 j_le:j<=S.length
 wr:WR w (par (S.take j))
 b0:H[0]?=some (.row 16 [wAV w] 0)
 b1:H[1]?=some (.mp KK16 (ent 0 ws))
 keys:ws.length=(firsts (colK L E top) k).length
 key:∀(n:Nat) (c:List Bool),(firsts (colK L E top) k)[n]?=some c->∃ w,ws[n]?=some w/\WR w fun s=>c.getD s false
 cls:ClsOk H ids (classesA (colK L E top) (pieceA E top) k)
 few:¬ tooBig (colK L E top) (pieceA E top) k
end split
theorem WR.len {w:List Int}{b:Nat->Bool} (h:WR w b):w.length=16:=h.1
theorem HD (L:List Spans) (E:List Int) (top:Int) (k:Nat):(colK L E top k).length=L.length:=by simp[colK,colA]
theorem Cb {L:List Spans}{E:List Int}{top:Int}{k:Nat}{c:List Bool} (h:c∈firsts (colK L E top) k):c.length=L.length:=by
 obtain⟨i,_,rfl⟩:=BD.1 h;exact HD L E top i
theorem OT {c d:List Bool} (h:c.length=d.length) (hl:c.length<=1024) (he:∀ s,s<1024->c.getD s false=d.getD s false):c=d:=by
 refine List.ext_getElem? fun i=>?_;rcases lt_or_ge i c.length with h1|h1
 ·have:=he i (by omega);simp only[List.getD_eq_getElem?_getD]at this;rw[getElem?_eq_getElem h1,getElem?_eq_getElem (by omega)]at this |-
  simpa using this
 ·rw[List.getElem?_eq_none h1,List.getElem?_eq_none (by omega)]
theorem Nq {w:List Int}{i:Nat} (h:i<w.length) (y:Int):List.take i (w.map U)++U y::List.drop (i+1) (w.map U)=(w.set i y).map U:=by
 rw[map_set,List.set_eq_take_append_cons_drop,if_pos (by simpa using h)]
theorem XI.tog {L:List Spans}{top:Int}{S:List (Int×Int)}{E:List Int}{k j s:Nat}{w:List Int}{ws:List (List Int)}{ids:List Nat}{H:List MB} (h:XI L top S E k j w ws ids H) {e:Int×Int} (he:S[j]?=some e) (hes:e.2=(s:Int)) (hs:s<1024) {x:Int} (hx:w[s / 64]?=some x) :
  XI L top S E k (j+1) (w.set (s / 64) (xorW x (s % 64))) ws ids (H.set 0 (.row 16 [wAV (w.set (s / 64) (xorW x (s % 64)))] 0)):=by
 have h1:=h.wr.tog hs hx;have h2:par (S.take (j+1))=fun i=>if i=s then !par (S.take j) i else par (S.take j) i:=by
  obtain⟨a,b⟩:=e;simp only at hes;rw[take_add_one,he,hes];exact N1 _ _ _
 have h0:=(List.getElem?_eq_some_iff.1 h.b0).1;exact⟨h.k_le,(List.getElem?_eq_some_iff.1 he).1,by rw[h2];exact h1,getElem?_set_self h0,by rw[getElem?_set_ne (by omega)];exact h.b1,h.keys,h.key,h.cls.put (by omega) _,h.few⟩
structure Upd (H H1:List MB) (id:Nat) (r:MB):Prop where
 at_:H1[id]?=some r
 len:H.length<=H1.length
 same:∀ i,i≠id->i<H.length->H1[i]?=H[i]?
theorem PW {H:List MB}{id n:Nat}{O:Spans}{p:Int×Int} (hr:H[id]?=some (.row 2 (O.map spanAV) 0)) (hn:O.length=n) (h0:0<n) (hl:n<=1000000) (hO:∀ q∈O,q.2<=1114111) (hp:0<=p.1/\p.1<=p.2/\p.2<=1114111) (hq:∀ q∈O,0<=q.2) :
  ∃ H1,call Pg pol1 90 [.ms id 2 n 0 n,.agg [I p.1,I p.2]] H=some (.ms id 2 (addI O p).length 0 (addI O p).length,H1)/\Upd H H1 id (.row 2 ((addI O p).map spanAV) 0):=by
 have hlt:=(List.getElem?_eq_some_iff.1 hr).1;refine⟨_,sf68 hr hn h0 hl hO hp hq,?_,by simp,fun i hi h=>?_⟩
 ·rw[getElem?_append_left (by rw[List.length_set];exact hlt),getElem?_set_self hlt]
 ·rw[getElem?_append_left (by rw[List.length_set];exact h),getElem?_set_ne (Ne.symm hi)]
theorem Ns (H:List MB) (p:Int×Int):∃ H1,call Pg pol1 90 [.sl true [],.agg [I p.1,I p.2]] H=some (.ms (H.length+1) 2 1 0 1,H1)/\Upd H H1 (H.length+1) (.row 2 ([p].map spanAV) 0):=by
 refine⟨_,Qc H p,?_,by simp,fun i hi h=>?_⟩
 ·rw[List.append_assoc,List.getElem?_append_right (by omega)];simp
 ·rw[List.append_assoc,getElem?_append_left h]
theorem ClsOk.upd {H H1:List MB}{ids:List Nat}{cls:List Spans} (h:ClsOk H ids cls) {n id:Nat}{c:Spans} (hn:ids[n]?=some id) (hu:Upd H H1 id (.row 2 (c.map spanAV) 0)) :
  ClsOk (H1.set 2 (.row 1 ((clsAV ids cls).set n (.ms id 2 c.length 0 c.length)) 0)) ids (cls.set n c):=by
 have hid:=h.high id (mem_of_getElem? hn);have h2:=(List.getElem?_eq_some_iff.1 h.out).1;have hl:=hu.len;refine⟨by rw[List.length_set];exact h.len,?_,fun m id' c' a b=>?_,h.nodup,h.high⟩
 ·rw[getElem?_set_self (by omega),NU hn]
 ·have hid':=h.high id' (mem_of_getElem? a);rw[getElem?_set_ne (by omega)];rw[List.getElem?_set]at b;by_cases e:n=m
  ·subst e;rw[hn]at a;obtain rfl:=Option.some.inj a;rw[if_pos rfl]at b;split at b
   ·rw[<- Option.some.inj b];exact hu.at_
   ·cases b
  ·rw[if_neg e]at b;have hne:id'≠id:=fun e2=>by
    obtain⟨l1,q1⟩:=List.getElem?_eq_some_iff.1 hn;obtain⟨l2,q2⟩:=List.getElem?_eq_some_iff.1 a;have hnd:=List.pairwise_iff_getElem.1 h.nodup;rcases Nat.lt_or_gt_of_ne e with h4|h4
    ·exact hnd n m l1 l2 h4 (q1.trans (e2.symm.trans q2.symm))
    ·exact hnd m n l2 l1 h4 (q2.trans (e2.trans q1.symm))
   have hr:=h.rows m id' c' a b;rw[hu.same id' hne (List.getElem?_eq_some_iff.1 hr).1];exact hr
theorem ClsOk.new {H Hb Hc:List MB}{ids:List Nat}{cls:List Spans} (h:ClsOk H ids cls) {x y:MB}{p:Int×Int} (hb:Hb=(H.set 1 x).set 2 y) (hu:Upd Hb Hc (Hb.length+1) (.row 2 ([p].map spanAV) 0)) :
  ClsOk (Hc.set 2 (.row 1 ((clsAV ids cls++[AV.sl true []]).set cls.length (.ms (Hb.length+1) 2 1 0 1)) 0)) (ids++[Hb.length+1]) (cls++[[p]]):=by
 have hbl:Hb.length=H.length:=by rw[hb];simp
 have h2:=(List.getElem?_eq_some_iff.1 h.out).1;have hl:=hu.len;have hids:∀ id∈ids,id<H.length:=fun id hid=>by
  obtain⟨n,hn⟩:=getElem?_of_mem hid;have h3:=(List.getElem?_eq_some_iff.1 hn).1;obtain⟨c,hc⟩:∃ c,cls[n]?=some c:=⟨_,getElem?_eq_getElem (by rw[<- h.len];exact h3)⟩;exact(List.getElem?_eq_some_iff.1 (h.rows n id c hn hc)).1
 refine⟨by simp[h.len],?_,fun m id c a b=>?_,?_,?_⟩
 ·rw[getElem?_set_self (by omega),Lr h.len];congr 2;rw[List.set_append_right _ _ (by rw[Bt h.len];exact le_refl _),Bt h.len];simp
 ·rcases lt_or_ge m ids.length with h3|h3
  ·rw[getElem?_append_left h3]at a;rw[getElem?_append_left (by rw[<- h.len];exact h3)]at b;have hid:=h.high id (mem_of_getElem? a);have hr:=h.rows m id c a b;have hlt:=hids id (mem_of_getElem? a);rw[getElem?_set_ne (by omega),hu.same id (by omega) (by omega),hb,getElem?_set_ne (by omega),getElem?_set_ne (by omega)];exact hr
  ·have hm:m=ids.length:=by
    have:=(List.getElem?_eq_some_iff.1 a).1;simp at this;omega
   subst hm;rw[List.getElem?_append_right (le_refl _),sub_self]at a;rw[h.len,List.getElem?_append_right (le_refl _),sub_self]at b;simp at a b;rw[<- a,<- b,getElem?_set_ne (by omega)];exact hu.at_
 ·exact List.nodup_append.2 ⟨h.nodup,by simp,fun a ha b hb2 e=>by
   have:=hids a ha;rw[mem_singleton.1 hb2]at e;omega⟩
 ·intro id hid;rcases mem_append.1 hid with h3|h3
  ·exact h.high id h3
  ·rw[mem_singleton.1 h3];omega
section rounds
variable {L:List Spans}{top:Int}{S:List (Int×Int)}{E:List Int}{k j:Nat}{w:List Int}{ws:List (List Int)}{ids:List Nat}{H:List MB}
theorem XI.old (h:XI L top S E k j w ws ids H) (hk:k<E.length) {n id:Nat} (hn:(firsts (colK L E top) k)[n]?=some (colK L E top k)) (hid:ids[n]?=some id) {H1:List MB}
  (hu:Upd H H1 id (.row 2 ((addI (clsOf (colK L E top) (pieceA E top) (colK L E top k) k) (pieceA E top k)).map spanAV) 0)) (h64:¬ 64<(addI (clsOf (colK L E top) (pieceA E top) (colK L E top k) k) (pieceA E top k)).length) :
  XI L top S E (k+1) j w ws ids (H1.set 2 (.row 1 ((clsAV ids (classesA (colK L E top) (pieceA E top) k)).set n (.ms id 2 (addI (clsOf (colK L E top) (pieceA E top) (colK L E top k) k) (pieceA E top k)).length 0 (addI (clsOf (colK L E top) (pieceA E top) (colK L E top k) k) (pieceA E top k)).length)) 0)):=by
 obtain⟨e1,e2,e3⟩:=Dn (pc:=pieceA E top) hn;have hid3:=h.cls.high id (mem_of_getElem? hid);have h0:=(List.getElem?_eq_some_iff.1 h.b0).1;have h1:=(List.getElem?_eq_some_iff.1 h.b1).1;refine⟨hk,h.j_le,h.wr,?_,?_,by rw[e1];exact h.keys,by rw[e1];exact h.key,by rw[e2];exact h.cls.upd hid hu,?_⟩
 ·rw[getElem?_set_ne (by omega),hu.same 0 (by omega) h0];exact h.b0
 ·rw[getElem?_set_ne (by omega),hu.same 1 (by omega) h1];exact h.b1
 ·rintro(h2|⟨c,hc,h2⟩)
  ·rw[e1]at h2;exact h.few (.inl h2)
  ·rw[e1]at hc;simp only[clsOf]at h2;split at h2
   ·rename_i e;subst e;exact h64 h2
   ·exact h.few (.inr ⟨c,hc,h2⟩)
theorem XI.new (h:XI L top S E k j w ws ids H) (hk:k<E.length) (hn:colK L E top k ∉ firsts (colK L E top) k) (hWk:WR w fun s=>(colK L E top k).getD s false) {Hb Hc:List MB}{y:MB}
  (hb:Hb=(H.set 1 (.mp KK16 (ent 0 (ws++[w])))).set 2 y) (hu:Upd Hb Hc (Hb.length+1) (.row 2 ([pieceA E top k].map spanAV) 0)) (hm:¬ 1024<(firsts (colK L E top) k).length+1) :
  XI L top S E (k+1) j w (ws++[w]) (ids++[Hb.length+1]) (Hc.set 2 (.row 1 ((clsAV ids (classesA (colK L E top) (pieceA E top) k)++[AV.sl true []]).set (firsts (colK L E top) k).length (.ms (Hb.length+1) 2 1 0 1)) 0)):=by
 obtain⟨e1,e2⟩:=Do (pc:=pieceA E top) hn;have h0:=(List.getElem?_eq_some_iff.1 h.b0).1;have h1:=(List.getElem?_eq_some_iff.1 h.b1).1;have hbl:Hb.length=H.length:=by rw[hb];simp
 refine⟨hk,h.j_le,h.wr,?_,?_,by rw[e1];simp[h.keys],fun n c hc=>?_,?_,?_⟩
 ·rw[getElem?_set_ne (by omega),hu.same 0 (by omega) (by omega),hb,getElem?_set_ne (by omega),getElem?_set_ne (by omega)];exact h.b0
 ·rw[getElem?_set_ne (by omega),hu.same 1 (by omega) (by omega),hb,getElem?_set_ne (by omega),getElem?_set_self h1]
 ·rw[e1]at hc;rcases lt_or_ge n (firsts (colK L E top) k).length with h3|h3
  ·rw[getElem?_append_left h3]at hc;obtain⟨v,h4,h5⟩:=h.key n c hc;exact⟨v,by rw[getElem?_append_left (by rw[h.keys];exact h3)];exact h4,h5⟩
  ·have hm:n=(firsts (colK L E top) k).length:=by
    have:=(List.getElem?_eq_some_iff.1 hc).1;simp at this;omega
   subst hm;rw[List.getElem?_append_right (le_refl _),sub_self]at hc;simp at hc;subst hc;exact⟨w,by rw[<- h.keys];simp,hWk⟩
 ·rw[e2];have:=h.cls.new hb hu;rw[A4]at this;exact this
 ·rintro(h2|⟨c,hc,h2⟩)
  ·rw[e1,length_append]at h2;exact hm h2
  ·simp only[clsOf]at h2;split at h2
   ·rename_i e;rw[<- e,Ig hn,Ds]at h2;simp at h2
   ·rename_i e;rw[e1]at hc;rcases mem_append.1 hc with h3|h3
    ·exact h.few (.inr ⟨c,h3,h2⟩)
    ·exact e (mem_singleton.1 h3).symm
theorem XI.find (h:XI L top S E k j w ws ids H) (hl:L.length<=1024) (hWk:WR w fun s=>(colK L E top k).getD s false) {n:Nat} (hn:(firsts (colK L E top) k)[n]?=some (colK L E top k)):findMp (wAV w) (ent 0 ws)=some (I n):=by
 obtain⟨v,h1,h2⟩:=h.key n _ hn;have hv:v=w:=h2.uniq hWk fun j _=>rfl;subst hv;rw[KS h1,zero_add];intro m hm;have hml:m<(firsts (colK L E top) k).length:=by rw[<- h.keys];exact(List.getElem?_eq_some_iff.1 hm).1
 obtain⟨c,hc⟩:∃ c,(firsts (colK L E top) k)[m]?=some c:=⟨_,getElem?_eq_getElem hml⟩;obtain⟨v',h3,h4⟩:=h.key m c hc;rw[hm]at h3;obtain rfl:=Option.some.inj h3;have hce:c=colK L E top k:=OT (by rw[Cb (mem_of_getElem? hc),HD]) (by rw[Cb (mem_of_getElem? hc)];exact hl) fun s hs=>h4.inj hWk hs;rw[hce]at hc;obtain⟨l1,q1⟩:=List.getElem?_eq_some_iff.1 hc;obtain⟨l2,q2⟩:=List.getElem?_eq_some_iff.1 hn;have hnd:=List.pairwise_iff_getElem.1 (BX (col:=colK L E top) k);rcases Nat.lt_trichotomy m n with h5|h5|h5
 ·exact absurd (q1.trans q2.symm) (hnd m n l1 l2 h5)
 ·exact h5
 ·exact absurd (q2.trans q1.symm) (hnd n m l2 l1 h5)
theorem XI.none (h:XI L top S E k j w ws ids H) (hl:L.length<=1024) (hWk:WR w fun s=>(colK L E top k).getD s false) (hn:colK L E top k ∉ firsts (colK L E top) k):w ∉ ws:=by
 intro hw;obtain⟨m,hm⟩:=getElem?_of_mem hw;have hml:m<(firsts (colK L E top) k).length:=by rw[<- h.keys];exact(List.getElem?_eq_some_iff.1 hm).1
 obtain⟨c,hc⟩:∃ c,(firsts (colK L E top) k)[m]?=some c:=⟨_,getElem?_eq_getElem hml⟩;obtain⟨v',h3,h4⟩:=h.key m c hc;rw[hm]at h3;obtain rfl:=Option.some.inj h3;have hce:c=colK L E top k:=OT (by rw[Cb (mem_of_getElem? hc),HD]) (by rw[Cb (mem_of_getElem? hc)];exact hl) fun s hs=>h4.inj hWk hs;exact hn (by rw[<- hce];exact mem_of_getElem? hc)
end rounds
theorem Lq {E:List Int}{top:Int} (he:EndsOk top E) (col:Nat->List Bool) (c:List Bool):∀ {n:Nat},n<=E.length->∀ q∈clsOf col (pieceA E top) c n,0<=q.2/\q.2<=top
 | 0,_,q,h=>by simp[clsOf]at h
 | n+1,hn,q,h=>by
   have ih:=Lq he col c (n:=n) (by omega);have st:=he.step (k:=n) (by omega);simp only[clsOf]at h;split at h
   ·have hp:0<=(pieceA E top n).2/\(pieceA E top n).2<=top:=by simp only[pieceA];omega
    rcases List.eq_nil_or_concat (clsOf col (pieceA E top) c n) with e|⟨O,r,e⟩
    ·rw[e,Ds]at h;rw[mem_singleton.1 h];exact hp
    ·rw[List.concat_eq_append]at e;rw[e]at ih h;rw[EB]at h;split at h
     ·rcases mem_append.1 h with h|h
      ·exact ih q (by simp[h])
      ·rw[mem_singleton.1 h];have:=ih r (by simp);simp only;omega
     ·rcases mem_append.1 h with h|h
      ·exact ih q h
      ·rw[mem_singleton.1 h];exact hp
   ·exact ih q h
theorem sf34 (L:List Spans) (top:Int) (h0:0<=top) (htp:top<=1114111) (hs:∀ s∈L,SetV s) (hv:∀ s∈L,refSpans s=0) (hl:L.length<=8192) (hsl:∀ s∈L,s.length<=64) (H:List MB) :
  call Pg pol1 41 [.sl false (L.map setAV),I top] H=some (if 1024<L.length then splitR none else splitR (splitA L (endsR L top) top),H):=by
 have hpl:=Aw L;have h67:=sf67 L top h0 htp hs hl hsl;have h66:∀ s∈L,∀ H,call Pg pol1 88 [setAV s] H=some (I 0,H):=fun s hm H=>by
  rw[f121 s (by have:=hsl s hm;omega) H,hv s hm]
 refine AQ Tryz.func41 rfl rfl rfl rfl rfl rfl (fun _=>rfl) (by simp[AV.plain,AV.plainL,hpl]) (by
  split
  ·rfl
  ·cases splitA L (endsR L top) top with
   | none=>rfl
   | some c=>simp[splitR,AV.plain,AV.plainL,Aw]) ?_ H
 simp +contextual (disch:=omega) only[Tryz.f41,dd41,go_sem,simprocAttr,evAppend,evBin,AV.cells,mu41,↓AE,↓AD,↓AC,↓AA];refine AR (M:=(mskOf (pol1.mask 41) (pol1.gc 41) (pol1.acts 41) 0 2)) rfl L.length (fun i=>(⟨123,[(19,I i),(18,I L.length),(17,.sl false (L.map setAV)),(1,I top),(0,.sl false (L.map setAV))],[]⟩:St)) (fun i=>True) ?_ ?_ trivial _ (by first|rfl|(refine AN rfl (by rfl) (by rfl) (by rfl) ?_ ?_<;>simp[AV.underL,AV.under,MB.under,AG,AI,AF,AH,AK,AL,-map_take,Aw]))
 ·intro i hi _;obtain⟨s,hsi⟩:∃ s,L[i]?=some s:=⟨_,getElem?_eq_getElem hi⟩;have hsi':(L.map setAV)[i]?=some (setAV s):=by simp[hsi]
  have h:=h66 s (mem_of_getElem? hsi);simp +contextual (disch:=omega) only[Tryz.f41,dd41,go_sem,simprocAttr,evAppend,evBin,AV.cells,mu41,↓AE,↓AD,↓AC,↓AA,hsi',h];exact(by first|rfl|(refine AN rfl (by rfl) (by rfl) (by rfl) ?_ ?_<;>simp[AV.underL,AV.under,MB.under,AG,AI,AF,AH,AK,AL,-map_take,Aw]))
 ·intro _;by_cases hbig:1024<L.length
  ·rw[if_pos hbig];simp +contextual (disch:=omega) only[Tryz.f41,dd41,go_sem,simprocAttr,evAppend,evBin,AV.cells,mu41,↓AE,↓AD,↓AC,↓AA];exact⟨_,rfl⟩
  ·rw[if_neg hbig];have hE:=Dj h0 hs;have hmem:=fun x=>D6 (top:=top) h0 hs (x:=x);have hsm:=G3 htp hs;have hsc:ScanOk L top (sortE (endsP top 0 L)) (endsR L top):=⟨hs,h0,by omega,C0 hsm,Cz _,hE,hmem⟩;have hSl:=C1 hsm;have hPl:=D8 (top:=top) (L:=L) (i:=0) hsl;have hEl:=NK h0 hs hsl;generalize endsR L top=E at *;generalize sortE (endsP top 0 L)=S at *;have hpe:=BV S;have hrow0:List.replicate 16 (0:Int)=[0,0,0,0,0,0,0,0,0,0,0,0,0,0,0,0]:=rfl;simp +contextual (disch:=omega) only[Tryz.f41,dd41,go_sem,simprocAttr,evAppend,evBin,AV.cells,mu41,↓AE,↓AD,↓AC,↓AA,h67]
   refine ER (σ:=XS) (M:=(mskOf (pol1.mask 41) (pol1.gc 41) (pol1.acts 41) 0 17)) rfl (fun x=>(⟨123,[(13,I (lastP E top x.k)),(12,.ms 2 1 (firsts (colK L E top) x.k).length 0 (firsts (colK L E top) x.k).length),(11,.mpr 1),(10,.rf 0 1 0 0),(9,.sl false ((S.drop x.j).map el2)),(1,I top)],x.H⟩:St))
    (fun x=>XI L top S E x.k x.j x.w x.ws x.ids x.H/\From S x.j (lastP E top x.k)) (fun x=>E.length-x.k)
    ⟨0,0,List.replicate 16 0,[],[],[.row 16 [wAV (List.replicate 16 0)] 0,.mp KK16 [],.row 1 [] 0]⟩ ?_ ⟨⟨zero_le _,zero_le _,WR.zero,rfl,rfl,rfl,fun n c h=>by simp[firsts]at h,⟨rfl,rfl,fun n id c h=>by simp at h,.nil,fun id h=>by simp at h⟩,by rintro(h|⟨c,h,_⟩)<;>simp[firsts]at h⟩,by rw[show lastP E top 0=0 from BZ hE.first];exact From.zero hsc⟩ _ ?_
   ·rintro⟨k,j,w,ws,ids,H⟩ ⟨hi,hfr⟩;simp only at hi hfr |-;by_cases hk:k<E.length
    ·have hst:=hE.step hk;simp +contextual (disch:=omega) only[Tryz.f41,dd41,go_sem,simprocAttr,evAppend,evBin,AV.cells,mu41,↓AE,↓AD,↓AC,↓AA]
     refine ER (σ:=XS) (M:=(mskOf (pol1.mask 41) (pol1.gc 41) (pol1.acts 41) 0 18)) rfl (fun x=>(⟨123,[(13,I (lastP E top k)),(12,.ms 2 1 (firsts (colK L E top) k).length 0 (firsts (colK L E top) k).length),(11,.mpr 1),(10,.rf 0 1 0 0),(9,.sl false ((S.drop x.j).map el2)),(1,I top)],x.H⟩:St))
      (fun x=>XI L top S E k x.j x.w ws ids x.H/\Mid S x.j (lastP E top k)) (fun x=>S.length-x.j)
      ⟨k,j,w,ws,ids,H⟩ ?_ ⟨hi,hfr.mid⟩ _ (by first|rfl|(refine AN rfl (by rfl) (by rfl) (by rfl) ?_ ?_<;>simp[AV.underL,AV.under,MB.under,AG,AI,AF,AH,AK,AL,-map_take,Aw]))
     rintro⟨_,j,w,_,_,H⟩ ⟨hi,hmid⟩;simp only at hi hmid |-;by_cases hend:∃ e,S[j]?=some e/\e.1=lastP E top k
     ·obtain⟨e,he,hat⟩:=hend;have hjl:=(List.getElem?_eq_some_iff.1 he).1;obtain⟨⟨s,hes,hsl1⟩,_⟩:=hsc.at he;have hdl:(S.drop j).map el2=.agg [I (lastP E top k),I s]::(S.drop (j+1)).map el2:=by
       rw[List.drop_eq_getElem_cons hjl,(List.getElem?_eq_some_iff.1 he).2,map_cons];simp only[el2,hat,hes]
      obtain⟨x,hx1,hx2,_⟩:=hi.wr.2 (s / 64) (by omega);have hx':(w.map U)[s / 64]?=some (U x):=by simp[hx1]
      have hw16:=hi.wr.1;have hb0:=hi.b0;have q1:=KZ s (by omega);have q2:=KY s;have q3:=On (s % 64) (by omega);have q4:=Li x (2 ^ (s % 64)) (s % 64) rfl;rw[hdl];simp +contextual (disch:=omega) only[Tryz.f41,dd41,go_sem,simprocAttr,evAppend,AV.cells,mu41,↓AE,↓AD,↓AC,↓AA,BE,BF,q1,q2,q3,q4,hb0,hx'];rw[Nq (by omega)];refine⟨by unfold dOk;kernel_rfl,by kernel_rfl,List.all_eq_true.2 fun y hy=>?_,⟨k,j+1,w.set (s / 64) (xorW x (s % 64)),ws,ids,H.set 0 (.row 16 [wAV (w.set (s / 64) (xorW x (s % 64)))] 0)⟩,⟨hi.tog he hes (by omega) hx1,hmid.step he hat⟩,by show S.length-(j+1)<S.length-j;omega,?_⟩
      ·obtain⟨z,_,rfl⟩:=mem_map.1 hy;rfl
      ·rw[take_of_length_le (by simp)];rfl
     ·have hpast:=hmid.past hsc.sorted fun e he h=>hend ⟨e,he,h⟩;obtain⟨hnx,hfr2⟩:=Past.next hsc hk hpast;have hpar:=fun s=>Past.par hsc (show lastP E top k<=top by omega) hpast s;have hWk:WR w fun s=>(colK L E top k).getD s false:=hi.wr.congr fun s _=>hpar s;have hb0:=hi.b0;have hb1:H[1]?=some (.mp (.flat 144 [some .u64,some .u64,some .u64,some .u64,some .u64,some .u64,some .u64,some .u64,some .u64,some .u64,some .u64,some .u64,some .u64,some .u64,some .u64,some .u64]) (ent 0 ws)):=hi.b1;have hout:=hi.cls.out;have hw16:=hi.wr.1;have hko:=PI hw16;have htk:List.take 16 (w.map U)=w.map U:=take_of_length_le (by simp[hw16]);have hcellW:(wAV w).cells=w.map U:=rfl;have hcellM:∀ a b c d e,(AV.ms a b c d e).cells=[.ms a b c d e]:=fun _ _ _ _ _=>rfl;have hcellE:∀ a b:Int,(AV.agg [I a,I b]).cells=[I a,I b]:=fun _ _=>rfl;have hcellI:∀ k n,(AV.int k n).cells=[.int k n]:=fun _ _=>rfl;have hfw:(firsts (colK L E top) k).length<=1024:=by
       have:=hi.few;exact Nat.le_of_not_lt fun h=>this (.inl h)
      cases hSj:S[j]? with
      | none=>
        have hd:S.drop j=[]:=List.drop_eq_nil_of_le (List.getElem?_eq_none_iff.1 hSj);rw[hSj]at hnx;simp only at hnx;rw[hd];obtain⟨la,hla⟩:∃ la,la=top:=⟨_,rfl⟩;have hpcx:pieceA E top k=(lastP E top k,top):=by simp only[pieceA,hnx];congr 1;omega
        have hat2:IntKind.i64.wrap (top+1)=lastP E top (k+1):=by rw[i64_in]<;>omega
        by_cases hold:colK L E top k∈firsts (colK L E top) k
        ·obtain⟨n,hn⟩:=getElem?_of_mem hold;have hnl:=(List.getElem?_eq_some_iff.1 hn).1;obtain⟨e1,e2,e3⟩:=Dn (pc:=pieceA E top) hn;have hf:=hi.find (by omega) hWk hn;obtain⟨id,hid⟩:∃ id,ids[n]?=some id:=⟨_,getElem?_eq_getElem (by rw[hi.cls.len,A4];exact hnl)⟩;have hrow:=hi.cls.rows n id _ hid e3;have hCl:(clsAV ids (classesA (colK L E top) (pieceA E top) k)).length=(firsts (colK L E top) k).length:=by rw[Bt hi.cls.len,A4]
         have hCn:=Kj hid e3;have hcpos:=Fa (pc:=pieceA E top) hold;have hc64:¬ 64<(clsOf (colK L E top) (pieceA E top) (colK L E top k) k).length:=fun h=>hi.few (.inr ⟨_,hold,h⟩);have hin:=Lq hE (colK L E top) (colK L E top k) (n:=k) (by omega);obtain⟨H1,h68,hu⟩:=PW (p:=pieceA E top k) hrow rfl hcpos (by omega) (fun q hq=>by have:=(hin q hq).2;omega) (by rw[hpcx];exact⟨by simp only;omega,by simp only;omega,by simp only;omega⟩) (fun q hq=>(hin q hq).1);have hnew:=fun h64=>hi.old hk hn hid hu h64;have hbadk:=fun h64:64<(addI (clsOf (colK L E top) (pieceA E top) (colK L E top k) k) (pieceA E top k)).length=>Cw (L:=L) (E:=E) (top:=top) (n:=k+1) (by omega) (.inr ⟨colK L E top k,by rw[e1];exact hold,by simp only[clsOf,if_true];exact h64⟩);have hid3:=hi.cls.high id (mem_of_getElem? hid);have h2l:=(List.getElem?_eq_some_iff.1 hout).1;have hout1:H1[2]?=some (.row 1 (clsAV ids (classesA (colK L E top) (pieceA E top) k)) 0):=by rw[hu.same 2 (by omega) h2l];exact hout
         have hset:=fun y:MB=>getElem?_set_self (a:=y) (show 2<H1.length by have:=hu.len;omega);rw[hpcx]at h68;simp only at h68;rw[<- hpcx]at h68;generalize (addI (clsOf (colK L E top) (pieceA E top) (colK L E top k) k) (pieceA E top k)).length=m at *;generalize (clsOf (colK L E top) (pieceA E top) (colK L E top k) k).length=c at *;have hCs:∀ v:AV,((clsAV ids (classesA (colK L E top) (pieceA E top) k)).set n v)[n]?=some v:=fun v=>getElem?_set_self (by rw[hCl];exact hnl);generalize clsAV ids (classesA (colK L E top) (pieceA E top) k)=C at *;by_cases h64:64<m
         ·rw[hbadk h64];simp +contextual (disch:=omega) only[Tryz.f41,dd41,go_sem,simprocAttr,evAppend,mu41,↓AE,↓AD,↓AC,↓AA,hd,BE,BF,BG,BR,hb0,hb1,htk,hw16,hko,hf,hout,hCl,hCn,h68,hout1,hset,hCs,List.length_set,hcellW,hcellM,hcellI,hcellE,hfw];exact⟨_,rfl⟩
         ·simp +contextual (disch:=omega) only[Tryz.f41,dd41,go_sem,simprocAttr,evAppend,mu41,↓AE,↓AD,↓AC,↓AA,hd,BE,BF,BG,BR,hb0,hb1,htk,hw16,hko,hf,hout,hCl,hCn,h68,hout1,hset,hCs,List.length_set,hcellW,hcellM,hcellI,hcellE,hat2,hfw];refine⟨⟨k+1,j,w,ws,ids,_⟩,⟨hnew h64,hfr2⟩,by show E.length-(k+1)<E.length-k;omega,?_⟩;simp only[e1];rw[hd];rfl
        ·have e1:=(Do (pc:=pieceA E top) hold).1;have hN1:(firsts (colK L E top) (k+1)).length=(firsts (colK L E top) k).length+1:=by rw[e1];simp
         have hww:=hi.none (by omega) hWk hold;have hf:=FT (i:=0) hww;have hup:=Ip (i:=0) hww;rw[zero_add,hi.keys]at hup;have hCl:(clsAV ids (classesA (colK L E top) (pieceA E top) k)).length=(firsts (colK L E top) k).length:=by rw[Bt hi.cls.len,A4]
         have h2l:=(List.getElem?_eq_some_iff.1 hout).1;have hg2:getRow (H.set 1 (.mp KK16 (ent 0 (ws++[w])))) 2=some (1,clsAV ids (classesA (colK L E top) (pieceA E top) k),0):=by
          unfold getRow;rw[getElem?_set_ne (by omega),hout]
         obtain⟨Hb,hHb⟩:∃ Hb,Hb=(H.set 1 (.mp KK16 (ent 0 (ws++[w])))).set 2 (.row 1 (clsAV ids (classesA (colK L E top) (pieceA E top) k)++[AV.sl true []]) 0):=⟨_,rfl⟩;have ha:∀ t,evAppend Pg (H.set 1 (.mp (.flat 144 [some .u64,some .u64,some .u64,some .u64,some .u64,some .u64,some .u64,some .u64,some .u64,some .u64,some .u64,some .u64,some .u64,some .u64,some .u64,some .u64]) (ent 0 (ws++[w])))) 38 38 (.ms 2 1 (firsts (colK L E top) k).length 0 (firsts (colK L E top) k).length) (.sl t [.sl true []])=some (.ms 2 1 ((firsts (colK L E top) k).length+1) 0 ((firsts (colK L E top) k).length+1),Hb):=fun t=>by
          have hs:srcElems Pg (H.set 1 (.mp KK16 (ent 0 (ws++[w])))) 23 (.sl t [.sl true []])=some [.sl true []]:=rfl;have:=Al (sT:=38) (xT:=38) (e:=23) (by kernel_rfl) (by kernel_rfl) (k:=1) (by kernel_rfl) (by_:=24) (by kernel_rfl) (ze:=.sl true []) (by kernel_rfl) rfl (by omega) hs (by simp[AV.cells,AV.ok]) hg2 hCl (zero_le _) (AS (by simp;omega) (by omega));rw[hHb];exact this
         have hb2:Hb[2]?=some (.row 1 (clsAV ids (classesA (colK L E top) (pieceA E top) k)++[AV.sl true []]) 0):=by rw[hHb];exact getElem?_set_self (by simpa using h2l)
         obtain⟨Hc,h68,hu⟩:=Ns Hb (pieceA E top k);have hbl:Hb.length=H.length:=by rw[hHb];simp
         have hc2:Hc[2]?=some (.row 1 (clsAV ids (classesA (colK L E top) (pieceA E top) k)++[AV.sl true []]) 0):=by rw[hu.same 2 (by omega) (by omega)];exact hb2
         have hset:=fun y:MB=>getElem?_set_self (a:=y) (show 2<Hc.length by have:=hu.len;omega);have hnew:=fun hm=>hi.new hk hold hWk hHb hu hm;have hbadk:=fun hm:1024<(firsts (colK L E top) k).length+1=>Cw (L:=L) (E:=E) (top:=top) (n:=k+1) (by omega) (.inl (by rw[e1,length_append];exact hm));rw[hpcx]at h68;simp only at h68;generalize (firsts (colK L E top) k).length=N at *;generalize hCC:clsAV ids (classesA (colK L E top) (pieceA E top) k)=C at *;have hCn:(C++[AV.sl true []])[N]?=some (AV.sl true []):=by rw[<- hCl];simp
         have hCl2:(C++[AV.sl true []]).length=N+1:=by simp[hCl]
         have hCs:∀ v:AV,((C++[AV.sl true []]).set N v)[N]?=some v:=fun v=>getElem?_set_self (by rw[hCl2];omega);have hCsl:∀ v:AV,((C++[AV.sl true []]).set N v).length=N+1:=fun v=>by rw[List.length_set];exact hCl2
         generalize C++[AV.sl true []]=C2 at *;have hcellN:(AV.sl true []).cells=[.sl true []]:=rfl;by_cases hm:1024<N+1
         ·rw[hbadk hm];simp +contextual (disch:=omega) only[Tryz.f41,dd41,go_sem,simprocAttr,mu41,↓AE,↓AD,↓AC,↓AA,hd,BE,BF,BG,BR,hb0,hb1,htk,hw16,hko,hf,hup,hout,ha,hb2,hc2,hCn,hCl2,hCs,hCsl,h68,hset,List.length_set,hcellW,hcellM,hcellI,hcellE,hcellN];exact⟨_,rfl⟩
         ·simp +contextual (disch:=omega) only[Tryz.f41,dd41,go_sem,simprocAttr,mu41,↓AE,↓AD,↓AC,↓AA,hd,BE,BF,BG,BR,hb0,hb1,htk,hw16,hko,hf,hup,hout,ha,hb2,hc2,hCn,hCl2,hCs,hCsl,h68,hset,List.length_set,hcellW,hcellM,hcellI,hcellE,hcellN,hat2];refine⟨⟨k+1,j,w,ws++[w],ids++[Hb.length+1],_⟩,⟨hnew hm,hfr2⟩,by show E.length-(k+1)<E.length-k;omega,?_⟩;simp only[hN1];rw[hd];rfl
      | some e=>
        have hjl:=(List.getElem?_eq_some_iff.1 hSj).1;have hdl:(S.drop j).map el2=.agg [I e.1,I e.2]::(S.drop (j+1)).map el2:=by
         rw[List.drop_eq_getElem_cons hjl,(List.getElem?_eq_some_iff.1 hSj).2,map_cons];rfl
        have hne:e.1≠lastP E top k:=fun h=>hend ⟨e,hSj,h⟩;have hea:=(hsc.at hSj).2.2;have heg:=hpast.2 j e (le_refl _) hSj;have hwl:IntKind.i64.wrap (e.1-1)=e.1-1:=by rw[i64_in];omega
        rw[hSj]at hnx;simp only at hnx;rw[hdl];obtain⟨la,hla⟩:∃ la,la=(e.1-1):=⟨_,rfl⟩;have hpcx:pieceA E top k=(lastP E top k,(e.1-1)):=by simp only[pieceA,hnx]
        have hat2:IntKind.i64.wrap ((e.1-1)+1)=lastP E top (k+1):=by rw[i64_in]<;>omega
        by_cases hold:colK L E top k∈firsts (colK L E top) k
        ·obtain⟨n,hn⟩:=getElem?_of_mem hold;have hnl:=(List.getElem?_eq_some_iff.1 hn).1;obtain⟨e1,e2,e3⟩:=Dn (pc:=pieceA E top) hn;have hf:=hi.find (by omega) hWk hn;obtain⟨id,hid⟩:∃ id,ids[n]?=some id:=⟨_,getElem?_eq_getElem (by rw[hi.cls.len,A4];exact hnl)⟩;have hrow:=hi.cls.rows n id _ hid e3;have hCl:(clsAV ids (classesA (colK L E top) (pieceA E top) k)).length=(firsts (colK L E top) k).length:=by rw[Bt hi.cls.len,A4]
         have hCn:=Kj hid e3;have hcpos:=Fa (pc:=pieceA E top) hold;have hc64:¬ 64<(clsOf (colK L E top) (pieceA E top) (colK L E top k) k).length:=fun h=>hi.few (.inr ⟨_,hold,h⟩);have hin:=Lq hE (colK L E top) (colK L E top k) (n:=k) (by omega);obtain⟨H1,h68,hu⟩:=PW (p:=pieceA E top k) hrow rfl hcpos (by omega) (fun q hq=>by have:=(hin q hq).2;omega) (by rw[hpcx];exact⟨by simp only;omega,by simp only;omega,by simp only;omega⟩) (fun q hq=>(hin q hq).1);have hnew:=fun h64=>hi.old hk hn hid hu h64;have hbadk:=fun h64:64<(addI (clsOf (colK L E top) (pieceA E top) (colK L E top k) k) (pieceA E top k)).length=>Cw (L:=L) (E:=E) (top:=top) (n:=k+1) (by omega) (.inr ⟨colK L E top k,by rw[e1];exact hold,by simp only[clsOf,if_true];exact h64⟩);have hid3:=hi.cls.high id (mem_of_getElem? hid);have h2l:=(List.getElem?_eq_some_iff.1 hout).1;have hout1:H1[2]?=some (.row 1 (clsAV ids (classesA (colK L E top) (pieceA E top) k)) 0):=by rw[hu.same 2 (by omega) h2l];exact hout
         have hset:=fun y:MB=>getElem?_set_self (a:=y) (show 2<H1.length by have:=hu.len;omega);rw[hpcx]at h68;simp only at h68;rw[<- hpcx]at h68;generalize (addI (clsOf (colK L E top) (pieceA E top) (colK L E top k) k) (pieceA E top k)).length=m at *;generalize (clsOf (colK L E top) (pieceA E top) (colK L E top k) k).length=c at *;have hCs:∀ v:AV,((clsAV ids (classesA (colK L E top) (pieceA E top) k)).set n v)[n]?=some v:=fun v=>getElem?_set_self (by rw[hCl];exact hnl);generalize clsAV ids (classesA (colK L E top) (pieceA E top) k)=C at *;by_cases h64:64<m
         ·rw[hbadk h64];simp +contextual (disch:=omega) only[Tryz.f41,dd41,go_sem,simprocAttr,evAppend,mu41,↓AE,↓AD,↓AC,↓AA,hwl,BE,BF,BG,BR,hb0,hb1,htk,hw16,hko,hf,hout,hCl,hCn,h68,hout1,hset,hCs,List.length_set,hcellW,hcellM,hcellI,hcellE,hfw];exact⟨_,rfl⟩
         ·simp +contextual (disch:=omega) only[Tryz.f41,dd41,go_sem,simprocAttr,evAppend,mu41,↓AE,↓AD,↓AC,↓AA,hwl,BE,BF,BG,BR,hb0,hb1,htk,hw16,hko,hf,hout,hCl,hCn,h68,hout1,hset,hCs,List.length_set,hcellW,hcellM,hcellI,hcellE,hat2,hfw];refine⟨⟨k+1,j,w,ws,ids,_⟩,⟨hnew h64,hfr2⟩,by show E.length-(k+1)<E.length-k;omega,?_⟩;simp only[e1];rw[hdl];rfl
        ·have e1:=(Do (pc:=pieceA E top) hold).1;have hN1:(firsts (colK L E top) (k+1)).length=(firsts (colK L E top) k).length+1:=by rw[e1];simp
         have hww:=hi.none (by omega) hWk hold;have hf:=FT (i:=0) hww;have hup:=Ip (i:=0) hww;rw[zero_add,hi.keys]at hup;have hCl:(clsAV ids (classesA (colK L E top) (pieceA E top) k)).length=(firsts (colK L E top) k).length:=by rw[Bt hi.cls.len,A4]
         have h2l:=(List.getElem?_eq_some_iff.1 hout).1;have hg2:getRow (H.set 1 (.mp KK16 (ent 0 (ws++[w])))) 2=some (1,clsAV ids (classesA (colK L E top) (pieceA E top) k),0):=by
          unfold getRow;rw[getElem?_set_ne (by omega),hout]
         obtain⟨Hb,hHb⟩:∃ Hb,Hb=(H.set 1 (.mp KK16 (ent 0 (ws++[w])))).set 2 (.row 1 (clsAV ids (classesA (colK L E top) (pieceA E top) k)++[AV.sl true []]) 0):=⟨_,rfl⟩;have ha:∀ t,evAppend Pg (H.set 1 (.mp (.flat 144 [some .u64,some .u64,some .u64,some .u64,some .u64,some .u64,some .u64,some .u64,some .u64,some .u64,some .u64,some .u64,some .u64,some .u64,some .u64,some .u64]) (ent 0 (ws++[w])))) 38 38 (.ms 2 1 (firsts (colK L E top) k).length 0 (firsts (colK L E top) k).length) (.sl t [.sl true []])=some (.ms 2 1 ((firsts (colK L E top) k).length+1) 0 ((firsts (colK L E top) k).length+1),Hb):=fun t=>by
          have hs:srcElems Pg (H.set 1 (.mp KK16 (ent 0 (ws++[w])))) 23 (.sl t [.sl true []])=some [.sl true []]:=rfl;have:=Al (sT:=38) (xT:=38) (e:=23) (by kernel_rfl) (by kernel_rfl) (k:=1) (by kernel_rfl) (by_:=24) (by kernel_rfl) (ze:=.sl true []) (by kernel_rfl) rfl (by omega) hs (by simp[AV.cells,AV.ok]) hg2 hCl (zero_le _) (AS (by simp;omega) (by omega));rw[hHb];exact this
         have hb2:Hb[2]?=some (.row 1 (clsAV ids (classesA (colK L E top) (pieceA E top) k)++[AV.sl true []]) 0):=by rw[hHb];exact getElem?_set_self (by simpa using h2l)
         obtain⟨Hc,h68,hu⟩:=Ns Hb (pieceA E top k);have hbl:Hb.length=H.length:=by rw[hHb];simp
         have hc2:Hc[2]?=some (.row 1 (clsAV ids (classesA (colK L E top) (pieceA E top) k)++[AV.sl true []]) 0):=by rw[hu.same 2 (by omega) (by omega)];exact hb2
         have hset:=fun y:MB=>getElem?_set_self (a:=y) (show 2<Hc.length by have:=hu.len;omega);have hnew:=fun hm=>hi.new hk hold hWk hHb hu hm;have hbadk:=fun hm:1024<(firsts (colK L E top) k).length+1=>Cw (L:=L) (E:=E) (top:=top) (n:=k+1) (by omega) (.inl (by rw[e1,length_append];exact hm));rw[hpcx]at h68;simp only at h68;generalize (firsts (colK L E top) k).length=N at *;generalize hCC:clsAV ids (classesA (colK L E top) (pieceA E top) k)=C at *;have hCn:(C++[AV.sl true []])[N]?=some (AV.sl true []):=by rw[<- hCl];simp
         have hCl2:(C++[AV.sl true []]).length=N+1:=by simp[hCl]
         have hCs:∀ v:AV,((C++[AV.sl true []]).set N v)[N]?=some v:=fun v=>getElem?_set_self (by rw[hCl2];omega);have hCsl:∀ v:AV,((C++[AV.sl true []]).set N v).length=N+1:=fun v=>by rw[List.length_set];exact hCl2
         generalize C++[AV.sl true []]=C2 at *;have hcellN:(AV.sl true []).cells=[.sl true []]:=rfl;by_cases hm:1024<N+1
         ·rw[hbadk hm];simp +contextual (disch:=omega) only[Tryz.f41,dd41,go_sem,simprocAttr,mu41,↓AE,↓AD,↓AC,↓AA,hwl,BE,BF,BG,BR,hb0,hb1,htk,hw16,hko,hf,hup,hout,ha,hb2,hc2,hCn,hCl2,hCs,hCsl,h68,hset,List.length_set,hcellW,hcellM,hcellI,hcellE,hcellN];exact⟨_,rfl⟩
         ·simp +contextual (disch:=omega) only[Tryz.f41,dd41,go_sem,simprocAttr,mu41,↓AE,↓AD,↓AC,↓AA,hwl,BE,BF,BG,BR,hb0,hb1,htk,hw16,hko,hf,hup,hout,ha,hb2,hc2,hCn,hCl2,hCs,hCsl,h68,hset,List.length_set,hcellW,hcellM,hcellI,hcellE,hcellN,hat2];refine⟨⟨k+1,j,w,ws++[w],ids++[Hb.length+1],_⟩,⟨hnew hm,hfr2⟩,by show E.length-(k+1)<E.length-k;omega,?_⟩;simp only[hN1];rw[hdl];rfl
    ·have hke:k=E.length:=by have:=hi.k_le;omega
     have hle:lastP E top k=top+1:=CA (by omega);have hok:splitA L E top=some (classesA (colK L E top) (pieceA E top) k):=by
      rw[hke];exact H8 (by rw[<- hke];exact hi.few)
     have hcl:=A4 (col:=colK L E top) (pc:=pieceA E top) k;obtain⟨H',hfin⟩:=hi.cls.fz hcl;rw[hok,hle];simp +contextual (disch:=omega) only[Tryz.f41,dd41,go_sem,simprocAttr,evAppend,evBin,AV.cells,mu41,↓AE,↓AD,↓AC,↓AA];exact⟨H',hfin⟩
   ·simp only[BZ hE.first,List.drop_zero,firsts,List.length_nil];rfl
end
end Go.Ev
