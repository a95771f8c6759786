/- What functions of the program compute; no further conditions. -/
import Derived.Test.YtkolcijbdendhaaGreatF17
set_option linter.unusedVariables false
set_option linter.unusedSimpArgs false
open List (getElem?_eq_getElem getElem?_set_self length_append length_map map_append map_take mem_of_getElem? take_length take_of_length_le)
open Nat (le_refl zero_le)
open Go.Proofs Go.RowKit Go.IntWalk
set_option maxHeartbeats 8000000
set_option maxRecDepth 100000
namespace Go.Ev
attribute [local go_sem] evBin AV.cells Ax A8 bndO bnd evEq eqCells not_false_eq_true not_true_eq_false toList_some Array.size_empty length_append tySzE List.head?_drop Nat.mul_one Aj Aq Ag Ak Al Ae
section
section
variable {l:Spans}
theorem Jl (hg:∀ p∈l,goodS p):∀ p∈l,0<=p.1/\p.1<=p.2:=fun p hp=>⟨(hg p hp).1,(hg p hp).2.1⟩
def endsL (l:Spans):List Int:=putS 1114111 [0] l
theorem HS (hg:∀ p∈l,goodS p):EndsOk 1114111 (endsL l):=(Cr (JA (by omega)) (Jl hg)).1
theorem Ng (hg:∀ p∈l,goodS p):(endsL l).length<=1+2*l.length:=(Cr (JA (by omega)) (Jl hg)).2.1
theorem I9 (hg:∀ p∈l,goodS p) {p:Int×Int} (hp:p∈l) {x:Int} (hx:x=p.1∨x=p.2+1) (ht:x<=1114111):x∈endsL l:=((Cr (JA (by omega)) (Jl hg)).2.2 x).2 (.inr ⟨p,hp,hx,ht⟩)
theorem Is (hg:∀ p∈l,goodS p) {k:Nat}{x:Int} (hxt:x<=1114111) (h1:lastP (endsL l) 1114111 k<=x) (h2:x<lastP (endsL l) 1114111 (k+1)):hasSpan l x=hasSpan l (lastP (endsL l) 1114111 k):=by
 have hE:=HS hg;rw[Bool.eq_iff_iff,Bk,Bk];constructor
 ·rintro⟨p,hp,a1,a2⟩;refine⟨p,hp,?_,by omega⟩;rcases Int.lt_or_le (lastP (endsL l) 1114111 k) p.1 with g|g
  ·have:=Ky hE (I9 hg hp (.inl rfl) (by omega)) g;omega
  ·exact g
 ·rintro⟨p,hp,a1,a2⟩;refine⟨p,hp,by omega,?_⟩;rcases Int.lt_or_le p.2 x with g|g
  ·have:=Ky hE (I9 hg hp (.inr rfl) (by omega)) (show lastP (endsL l) 1114111 k<p.2+1 by omega);omega
  ·exact g
theorem Gq {pc:Nat->Int×Int}{b b':Nat->Bool}:∀ {n:Nat},(∀ k,k<n->b k=b' k)->ofL pc b n=ofL pc b' n
 | 0,_=>rfl
 | n+1,h=>by
   simp only[ofL];rw[h n (by omega),Gq fun k hk=>h k (by omega)]
theorem On (hg:∀ p∈l,goodS p):ofL (pieceA (endsL l) 1114111) (fun k=>((endsL l).map (hasSpan l)).getD k false) (endsL l).length=normL l:=by
 have hE:=HS hg;have hb:∀ k,k<(endsL l).length->((endsL l).map (hasSpan l)).getD k false=decide ([hasSpan l (lastP (endsL l) 1114111 k)]=[true]):=fun k hk=>by
  have e:=getElem?_eq_getElem hk;rw[BI e];simp[List.getD_eq_getElem?_getD,e]
 rw[Gq hb,Jd (pieceA (endsL l) 1114111) (fun k=>[hasSpan l (lastP (endsL l) 1114111 k)]) [true]];have hso:=Mp hE (Int.le_refl _) (fun k=>[hasSpan l (lastP (endsL l) 1114111 k)]) [true] (endsL l).length (le_refl _);obtain⟨n1,n2,_⟩:=Cl hg;refine FG (Dy hso.sep fun p hp=>(hso.good p hp).2.1) (Dy n1.sep fun p hp=>(n1.good p hp).2.1) fun x=>?_;rw[hso.has x,n2 x,Bk];constructor
 ·rintro⟨p,hp,a1,a2⟩;obtain⟨k,hk,hck,rfl⟩:=Dz.1 hp;have hst:=hE.step (k:=k) (by omega);simp only[pieceA]at a1 a2;have hck:hasSpan l (lastP (endsL l) 1114111 k)=true:=by simpa using hck
  rw[Is hg (by omega) a1 (by omega)];exact hck
 ·intro hx;obtain⟨p,hp,b1,b2⟩:=Bk.1 hx;have hgp:=hg p hp;unfold goodS at hgp;obtain⟨k,hk,a1,a2⟩:=Og hE (x:=x) ⟨by omega,by omega⟩;refine⟨pieceA (endsL l) 1114111 k,Dz.2 ⟨k,by omega,?_,rfl⟩,a1,by simp only[pieceA];omega⟩;rw[<- Is hg (by omega) a1 a2,hx]
end
theorem Sa (l:Spans) (hg:∀ p∈l,goodS p) (hl:l.length<=450000000) (H:List MB):call Pg pol1 65 [.sl false [setAV l],I 1114111] H=some (.sl false ((endsL l).map I),H):=by
 have hpl:AV.plainL [setAV l]=true:=by simp[AV.plainL,AV.plain,AF]
 refine AR Tryz.func65 rfl rfl rfl rfl rfl rfl (fun _=>rfl) (by simp[AV.plain,AV.plainL,AF]) (by simp[AV.plain,AG]) ?_ H;simp +contextual (disch:=omega) only[Tryz.f65,dd65,go_sem,simprocAttr,evAppend,map_append,mu65,↓AE,↓AC,↓AB,↓AA];refine CZ (σ:=EK) (M:=(mskOf (pol1.mask 65) (pol1.gc 65) (pol1.acts 65) 0 3)) rfl (fun x=>(⟨48,[(6,I x.i),(5,.sl x.t ((if x.i=0 then [0] else endsL l).map I)),(1,I 1114111),(0,.sl false [setAV l])],[]⟩:St)) (fun x=>x.i<=1) (fun x=>1-x.i) ⟨0,true⟩ ?_ (zero_le _) _ (by first|rfl|(refine AN rfl (by rfl) (by rfl) (by rfl) ?_ ?_<;>simp[AV.underL,AV.under,MB.under,AD,AI,AG,AF,AL,AM,-map_take]));rintro⟨i,t⟩ hi;simp only at hi |-;rcases(by omega:i=0∨i=1) with rfl|rfl
 ·rw[if_pos rfl];simp +contextual (disch:=omega) only[Tryz.f65,dd65,go_sem,simprocAttr,evAppend,map_append,mu65,↓AE,↓AC,↓AB,↓AA];refine CZ (σ:=EK) (M:=(mskOf (pol1.mask 65) (pol1.gc 65) (pol1.acts 65) 0 6)) rfl (fun x=>(⟨48,[(7,I x.i),(6,I 0),(5,.sl x.t ((putS 1114111 [0] (l.take x.i)).map I)),(1,I 1114111),(0,.sl false [setAV l])],[]⟩:St)) (fun x=>x.i<=l.length) (fun x=>l.length-x.i) ⟨0,t⟩ ?_ (zero_le _) _ (by first|rfl|(refine AN rfl (by rfl) (by rfl) (by rfl) ?_ ?_<;>simp[AV.underL,AV.under,MB.under,AD,AI,AG,AF,AL,AM,-map_take]));rintro⟨k,t⟩ hk;simp only at hk |-;obtain⟨e1,l2,_⟩:=Cr (s:=l.take k) (JA (top:=1114111) (by omega)) (fun p hp=>Jl hg p (List.mem_of_mem_take hp));have l3:=List.length_take_le k l;by_cases hkl:k<l.length
  ·obtain⟨p,hp⟩:∃ p,l[k]?=some p:=⟨_,getElem?_eq_getElem hkl⟩;have hp':(l.map spanAV)[k]?=some (spanAV p):=by simp[hp]
   have hgp:=hg p (mem_of_getElem? hp);unfold goodS at hgp;simp only[List.length_cons,List.length_nil]at l2;have l4:=Es (putS 1114111 [0] (l.take k)) p.1 1114111;have h1:=OV t (putS 1114111 [0] (l.take k)) p.1 1114111 e1.sorted (by omega);have h2:=OW (putL (putS 1114111 [0] (l.take k)) p.1 1114111) (p.2+1) 1114111 (e1.put hgp.1).sorted (by omega);have hw:IntKind.i64.wrap (p.2+1)=p.2+1:=by rw[i64_in];omega
   have hst:=IX (top:=1114111) (l:=[0]) hp;have hkl2:(k:Int)<(l.length:Int):=by omega
   simp +contextual (disch:=omega) only[Tryz.f65,dd65,go_sem,simprocAttr,evAppend,map_append,mu65,↓AE,↓AC,↓AB,↓AA,hp',h1,h2,hw,hkl2];exact⟨⟨k+1,false⟩,hkl,by show l.length-(k+1)<l.length-k;omega,by simp only[hst];exact(by first|rfl|(refine AN rfl (by rfl) (by rfl) (by rfl) ?_ ?_<;>simp[AV.underL,AV.under,MB.under,AD,AI,AG,AF,AL,AM,-map_take]))⟩
  ·obtain rfl:k=l.length:=by omega
   rw[take_length];have hkl2:¬ (l.length:Int)<(l.length:Int):=by omega
   simp +contextual (disch:=omega) only[Tryz.f65,dd65,go_sem,simprocAttr,evAppend,map_append,mu65,↓AE,↓AC,↓AB,↓AA,hkl2];exact⟨⟨1,t⟩,le_refl _,by show 1-1<1-0;omega,by simp only[show ¬ (1:Nat)=0 by omega,if_false];exact(by first|rfl|(refine AN rfl (by rfl) (by rfl) (by rfl) ?_ ?_<;>simp[AV.underL,AV.under,MB.under,AD,AI,AG,AF,AL,AM,-map_take]))⟩
 ·rw[if_neg (by omega)];simp +contextual (disch:=omega) only[Tryz.f65,dd65,go_sem,simprocAttr,evAppend,map_append,mu65,↓AE,↓AC,↓AB,↓AA];exact⟨_,C1 (AG _) _⟩
def normR (l:Spans):AV:=if 64<(normL l).length then .tup [.sl false [],I 4] else .tup [.sl false ((normL l).map spanAV),I 0]
theorem f128 (l:Spans) (hg:∀ p∈l,goodS p) (hl:l.length<=400000000) (H:List MB):call Pg pol1 97 [.sl false (l.map spanAV)] H=some (normR l,H):=by
 have hEl:=Ng hg;have h120:=Sa l hg (by omega);have c120:=fun H:List MB=>BB (P:=Pg) (pol:=pol1) (f:=65) (args:=[.sl true [setAV l],I 1114111]) (l:=[.sl false [setAV l],I 1114111]) (H:=H) (H1:=H) rfl (by
  have hz:fz (.sl true [setAV l]) H=some (.sl false [setAV l],H):=C1 (by simp[AV.plainL,AV.plain,AF]) H;simp only[frzArgs,show pol1.byref 65 0=false from rfl,show pol1.byref 65 (0+1)=false from rfl,Bool.false_eq_true,if_false,hz,Ac H (show AV.plain (I 1114111)=true from rfl)]) (by simp[AV.plainL,AV.plain,AF])
 simp only[h120]at c120;have h122:=sf74 (HS hg) (Int.le_refl _) ((endsL l).map (hasSpan l)) (by simp) (by omega);rw[On hg]at h122;have h136:=fun(p:Int×Int) (hp:p∈l)=>f136 p.1 p.2;have hdec:∀ p∈l,decide (0<=p.1/\p.1<=p.2/\p.2<=1114111)=true:=fun p hp=>decide_eq_true (hg p hp);have h175:=fun x=>Mb l x (by omega);have hpn:AV.plain (normR l)=true:=by unfold normR;split<;>simp[AV.plain,AV.plainL,AF]
 refine AR Tryz.func97 rfl rfl rfl rfl rfl rfl (fun _=>rfl) (by simp[AV.plain,AV.plainL,AF]) hpn ?_ H;generalize endsL l=E at *;simp +contextual (disch:=omega) only[Tryz.f97,dd97,go_sem,simprocAttr,evAppend,map_append,mu97,↓AE,↓AC,↓AB,↓AA];refine AY (M:=(mskOf (pol1.mask 97) (pol1.gc 97) (pol1.acts 97) 0 2)) rfl l.length (fun i=>(⟨45,[(4,I i),(0,.sl false (l.map spanAV))],[]⟩:St)) (fun i=>True) ?_ ?_ trivial _ (by first|rfl|(refine AN rfl (by rfl) (by rfl) (by rfl) ?_ ?_<;>simp[AV.underL,AV.under,MB.under,AD,AI,AG,AF,AL,AM,-map_take,AF]))
 ·intro i hi _;obtain⟨p,hp⟩:∃ p,l[i]?=some p:=⟨_,getElem?_eq_getElem hi⟩;have hp':(l.map spanAV)[i]?=some (spanAV p):=by simp[hp]
  have h173:=h136 p (mem_of_getElem? hp);rw[hdec p (mem_of_getElem? hp)]at h173;simp +contextual (disch:=omega) only[Tryz.f97,dd97,go_sem,simprocAttr,evAppend,map_append,mu97,↓AE,↓AC,↓AB,↓AA,hp',h173,spanAV];exact(by first|rfl|(refine AN rfl (by rfl) (by rfl) (by rfl) ?_ ?_<;>simp[AV.underL,AV.under,MB.under,AD,AI,AG,AF,AL,AM,-map_take,AF]))
 ·intro _;simp +contextual (disch:=omega) only[Tryz.f97,dd97,go_sem,simprocAttr,evAppend,map_append,mu97,↓AE,↓AC,↓AB,↓AA,c120];refine AY (M:=(mskOf (pol1.mask 97) (pol1.gc 97) (pol1.acts 97) 0 10)) rfl E.length (fun i=>(⟨45,[(8,I i),(7,.ms 0 1 i 0 i),(6,.sl false (E.map I)),(0,.sl false (l.map spanAV))],[.row 1 (((E.take i).map (hasSpan l)).map AV.bool) 0]⟩:St)) (fun i=>True) ?_ ?_ trivial _ (by first|rfl|(refine AN rfl (by rfl) (by rfl) (by rfl) ?_ ?_<;>simp[AV.underL,AV.under,MB.under,AD,AI,AG,AF,AL,AM,-map_take,AF,AG]))
  ·intro i hi _;obtain⟨x,hx⟩:∃ x,E[i]?=some x:=⟨_,getElem?_eq_getElem hi⟩;have hx':(E.map I)[i]?=some (I x):=by simp[hx]
   have hX:=h175 x;have hst:(E.take (i+1)).map (hasSpan l)=(E.take i).map (hasSpan l)++[hasSpan l x]:=by rw[AZ hx,map_append];rfl
   have hXl:((E.take i).map (hasSpan l)).length=i:=by rw[length_map,List.length_take];omega
   rw[hst];generalize (E.take i).map (hasSpan l)=X at *;generalize hasSpan l x=v at *;have a1:=fun(t:Bool)=>Pf (H:=[.row 1 (X.map AV.bool) 0]) (i:=0) (n:=i) (x:=v) (t:=t) rfl (zero_le _) hXl (by omega);simp only[List.set_cons_zero]at a1;simp +contextual (disch:=omega) only[Tryz.f97,dd97,go_sem,simprocAttr,mu97,↓AE,↓AC,↓AB,↓AA,hx',hX,a1];generalize X++[v]=X2;exact(by first|rfl|(refine AN rfl (by rfl) (by rfl) (by rfl) ?_ ?_<;>simp[AV.underL,AV.under,MB.under,AD,AI,AG,AF,AL,AM,-map_take,AF,AG,Ad]))
  ·intro _;rw[take_length];have hXl:(E.map (hasSpan l)).length=E.length:=by simp
   have hz:fz (.ms 0 1 E.length 0 E.length) [.row 1 ((E.map (hasSpan l)).map AV.bool) 0]=some (.sl false ((E.map (hasSpan l)).map AV.bool),[.row 1 ((E.map (hasSpan l)).map AV.bool) E.length]):=by
    rw[Az (z:=0) rfl (by simp) (Ad _)];simp[mark,getRow]
   generalize E.map (hasSpan l)=X at *;have c122:=(BB (P:=Pg) (pol:=pol1) (f:=67) (args:=[.sl false (E.map I),.ms 0 1 E.length 0 E.length,I 1114111]) (l:=[.sl false (E.map I),.sl false (X.map AV.bool),I 1114111]) (H:=[.row 1 (X.map AV.bool) 0]) (H1:=[.row 1 (X.map AV.bool) E.length]) rfl (by
    simp only[frzArgs,show pol1.byref 67 0=false from rfl,show pol1.byref 67 (0+1)=false from rfl,show pol1.byref 67 (0+1+1)=false from rfl,Bool.false_eq_true,if_false,hz,Ac _ (show AV.plain (I 1114111)=true from rfl),C1 (AG E)]) (by simp[AV.plainL,AV.plain,AG,Ad])).trans (h122 _)
   have hN:normR l=(if 64<(normL l).length then AV.tup [.sl false [],I 4] else AV.tup [.sl false ((normL l).map spanAV),I 0]):=rfl;rw[<- hN]at c122;unfold normR at c122 hpn |-;split at c122
   ·rename_i h64;rw[if_pos h64];simp +contextual (disch:=omega) only[Tryz.f97,dd97,go_sem,simprocAttr,evAppend,map_append,mu97,↓AE,↓AC,↓AB,↓AA,c122];exact fzEq rfl rfl
   ·rename_i h64;rw[if_neg h64];generalize normL l=O at *;simp +contextual (disch:=omega) only[Tryz.f97,dd97,go_sem,simprocAttr,evAppend,map_append,mu97,↓AE,↓AC,↓AB,↓AA,c122];exact fzEq (by simp[AV.plain,AV.plainL,AF]) rfl
end
section
attribute [local go_sem] evAppend map_append
def idxR (p:Re->Bool) (l:List Re):Int:=if l.findIdx p<l.length then(l.findIdx p:Int) else -1
theorem KP {f:Nat}{r:AV}{H:List MB} (hk:pol1.keep f=false) (ho:pol1.own f=false) (h:AV.plain r=true):retPol pol1 f H r H=some (r,H):=
 Am hk ho h (by have:=BO H.length [] H;simpa using this) (take_length)
theorem d103 (t:Bool) (g:Nat) (p:Re->Bool) (l:List Re) (hl:l.length<=1000000000) (hy:g≠yldF) (hg:∀ r∈l,∀ H,call Pg pol1 g [reAV r] H=some (.bool (p r),H)) (H:List MB) :
  call Pg pol1 103 [.sl t (l.map reAV),.clo g []] H=some (I (idxR p l),H):=by
 have hfr:frzArgs pol1 103 0 [.sl t (l.map reAV),.clo g []] H=some ([.sl t (l.map reAV),.clo g []],H):=rfl;have rp:=fun r:Int=>KP (f:=103) (H:=H) rfl rfl (show AV.plain (I r)=true from rfl);refine AX (pol:=pol1) Tryz.func103 rfl rfl rfl rfl hfr ?_;simp +contextual (disch:=omega) only[Tryz.f103,F7,go_sem,simprocAttr,Fx,↓AE,↓AC,↓AB,↓AA];have hfi:l.findIdx p<=l.length:=List.findIdx_le_length;refine AY (M:=(mskOf (pol1.mask 103) (pol1.gc 103) (pol1.acts 103) 0 2)) (by rfl) l.length (fun i=>(⟨19,[(8,I i),(7,I l.length),(1,.clo g []),(0,.sl t (l.map reAV))],H⟩:St)) (fun i=>i<=l.findIdx p) ?_ ?_ (zero_le _) _ (by rfl)
 ·intro i hi hinv;obtain⟨r,hr⟩:∃ r,l[i]?=some r:=⟨_,getElem?_eq_getElem hi⟩;have hr':=At hr;have hgr:=hg r (mem_of_getElem? hr);have hlt:(i:Int)<(l.length:Int):=by omega
  cases hp:p r with
  | true=>
    have e:l.findIdx p=i:=by
     rcases Nat.lt_or_eq_of_le hinv with h|h
     ·have:=List.not_of_lt_findIdx h;have h2:l[i]=r:=by rw[getElem?_eq_getElem hi]at hr;exact Option.some.inj hr
      rw[h2]at this;rw[hp]at this;cases this
     ·exact h.symm
    rw[hp]at hgr;have e2:idxR p l=(i:Int):=by unfold idxR;rw[e,if_pos hi]
    rw[e2];simp +contextual (disch:=omega) only[Tryz.f103,F7,go_sem,simprocAttr,Fx,↓AE,↓AC,↓AB,↓AA,hr',hgr,hlt,hy,AK,AJ];exact rp _
  | false=>
    rw[hp]at hgr;have hinv2:i+1<=l.findIdx p:=by
     rcases Nat.lt_or_eq_of_le hinv with h|h
     ·exact h
     ·exfalso;have h1:l.findIdx p<l.length:=by omega
      have:=List.findIdx_getElem (xs:=l) (p:=p) (w:=h1);have h2:l[l.findIdx p]=r:=by
       rw[getElem?_eq_getElem hi]at hr;have:=Option.some.inj hr;simp only[<- h];exact this
      rw[h2,hp]at this;cases this
    simp +contextual (disch:=omega) only[Tryz.f103,F7,go_sem,simprocAttr,Fx,↓AE,↓AC,↓AB,↓AA,hr',hgr,hlt,hy,AK,AJ]
    first|exact⟨hinv2,by rfl⟩|rfl
 ·intro hinv;have e2:idxR p l = -1:=by unfold idxR;rw[if_neg (by omega)]
  rw[e2];simp +contextual (disch:=omega) only[Tryz.f103,F7,go_sem,simprocAttr,Fx,↓AE,↓AC,↓AB,↓AA];exact rp _
theorem Kl (p:Re->Bool) (l:List Re):decide (0<=idxR p l)=l.any p:=by
 unfold idxR;by_cases h:l.findIdx p<l.length
 ·rw[if_pos h];have:=List.findIdx_getElem (xs:=l) (p:=p) (w:=h);have h2:l.any p=true:=List.any_eq_true.2 ⟨_,List.getElem_mem h,this⟩;rw[h2];simp
 ·rw[if_neg h];have h2:l.any p=false:=by
   rw[List.any_eq_false];intro x hx hp;exact h (List.findIdx_lt_length_of_exists ⟨x,hx,hp⟩)
  rw[h2];rfl
theorem d73 (g:Nat) (p:Re->Bool) (l:List Re) (hl:l.length<=1000000000) (hy:g≠yldF) (hg:∀ r∈l,∀ H,call Pg pol1 g [reAV r] H=some (.bool (p r),H)) (H:List MB) :
  call Pg pol1 73 [.sl false (l.map reAV),.clo g []] H=some (.bool (l.any p),H):=by
 have hpl:=AH l;have h103:=fun t=>d103 t g p l hl hy hg;refine AR Tryz.func73 rfl rfl rfl rfl rfl rfl (fun _=>rfl) (by simp only[AV.plainL,AV.plain,hpl];rfl) rfl ?_ H;rw[<- Kl];generalize idxR p l=k at *;by_cases h0:0<=k
 ·rw[decide_eq_true h0];simp +contextual (disch:=omega) only[Tryz.f73,dd73,go_sem,simprocAttr,mu73,↓AE,↓AC,↓AB,↓AA,h103,h0];exact fzEq rfl rfl
 ·rw[decide_eq_false h0];simp +contextual (disch:=omega) only[Tryz.f73,dd73,go_sem,simprocAttr,mu73,↓AE,↓AC,↓AB,↓AA,h103,h0];exact fzEq rfl rfl
mutual
def regG:Re->Bool
 | .mk op set kids mn mx md n neg=>(decide (op=0∨op=1∨op=2∨op=3∨op=5)||(decide (op=4)&&!decide (md=2)))&&regL kids
def regL:List Re->Bool
 | []=>true
 | k::ks=>regG k&&regL ks
end
theorem Gb:∀ l:List Re,regL l = !(l.any fun k=>!regG k)
 | []=>rfl
 | k::ks=>by rw[regL,Gb ks];simp[Bool.not_or]
theorem d47:∀(N:Nat) (r:Re),r.wt<=N->r.wt<=1000000000->∀ H,call Pg pol1 47 [reAV r] H=some (.bool (regG r),H)
 | 0,r,h,_=>by have:=r.wt_pos;omega
 | N+1,.mk op set kids mn mx md n neg,h,hw=>fun H=>by
   have hk:∀ k∈kids,∀ H,call Pg pol1 74 [reAV k] H=some (.bool (!regG k),H):=fun k hk H=>by
    have hle:=Re.wtL_mem hk;simp only[Re.wt]at h hw;have h47:=d47 N k (by omega) (by omega);have hpl:=AO k;have hl8:=AK k;refine AR Tryz.func74 rfl rfl rfl rfl rfl rfl (fun _=>rfl) (by simp only[AV.plainL,AV.plain,hpl];rfl) rfl ?_ H;generalize regG k=v at *;simp +contextual (disch:=omega) only[Tryz.f74,dd74,go_sem,simprocAttr,mu74,↓AE,↓AC,↓AB,↓AA,h47,AK,AP,AJ];exact⟨_,rfl⟩
   have hpl:AV.plain (reAV (.mk op set kids mn mx md n neg))=true:=AO _;have h73:=d73 74 (fun k=>!regG k) kids (by simp only[Re.wt]at hw;have:=Re.wtL_len kids;omega) (by decide) hk;refine AR Tryz.func47 rfl rfl rfl rfl rfl rfl (fun _=>rfl) (by simp only[AV.plainL,hpl];rfl) rfl ?_ H;rw[regG,Gb];generalize (kids.any fun k=>!regG k)=v at *;rw[show reAV (.mk op set kids mn mx md n neg)=.agg (nodeL op set kids mn mx md n neg) from by rw[reAV,Ab]];obtain⟨b,hb⟩:∃ b,((decide (op=0∨op=1∨op=2∨op=3∨op=5)||(decide (op=4)&&!decide (md=2)))&&!v)=b:=⟨_,rfl⟩;rw[hb];by_cases c0:op=0
   ·subst c0;obtain rfl:(!v)=b:=by rw[<- hb];simp
    simp +contextual (disch:=omega) only[Tryz.f47,dd47,go_sem,simprocAttr,mu47,↓AE,↓AC,↓AB,↓AA,h73];exact⟨_,rfl⟩
   by_cases c1:op=1
   ·subst c1;obtain rfl:(!v)=b:=by rw[<- hb];simp
    simp +contextual (disch:=omega) only[Tryz.f47,dd47,go_sem,simprocAttr,mu47,↓AE,↓AC,↓AB,↓AA,h73];exact⟨_,rfl⟩
   by_cases c2:op=2
   ·subst c2;obtain rfl:(!v)=b:=by rw[<- hb];simp
    simp +contextual (disch:=omega) only[Tryz.f47,dd47,go_sem,simprocAttr,mu47,↓AE,↓AC,↓AB,↓AA,h73];exact⟨_,rfl⟩
   by_cases c3:op=3
   ·subst c3;obtain rfl:(!v)=b:=by rw[<- hb];simp
    simp +contextual (disch:=omega) only[Tryz.f47,dd47,go_sem,simprocAttr,mu47,↓AE,↓AC,↓AB,↓AA,h73];exact⟨_,rfl⟩
   by_cases c5:op=5
   ·subst c5;obtain rfl:(!v)=b:=by rw[<- hb];simp
    simp +contextual (disch:=omega) only[Tryz.f47,dd47,go_sem,simprocAttr,mu47,↓AE,↓AC,↓AB,↓AA,h73];exact⟨_,rfl⟩
   by_cases c4:op=4
   ·subst c4;by_cases cm:md=2
    ·subst cm;obtain rfl:false=b:=by rw[<- hb];simp
     simp +contextual (disch:=omega) only[Tryz.f47,dd47,go_sem,simprocAttr,mu47,↓AE,↓AC,↓AB,↓AA,h73];exact⟨_,rfl⟩
    ·obtain rfl:(!v)=b:=by rw[<- hb];simp[cm]
     simp +contextual (disch:=omega) only[Tryz.f47,dd47,go_sem,simprocAttr,mu47,↓AE,↓AC,↓AB,↓AA,h73,cm];exact⟨_,rfl⟩
   ·obtain rfl:false=b:=by rw[<- hb];simp[c0,c1,c2,c3,c4,c5]
    simp +contextual (disch:=omega) only[Tryz.f47,dd47,go_sem,simprocAttr,mu47,↓AE,↓AC,↓AB,↓AA,h73,c0,c1,c2,c3,c4,c5];exact⟨_,rfl⟩
end
section
theorem AU (r:Re):AV.plain (reAV r)=true:=AO r
theorem d82 (H:List MB):call Pg pol1 82 [] H=some (reAV emptyR,H):=by
 refine AR Tryz.func82 rfl rfl rfl rfl rfl rfl (fun _=>rfl) rfl rfl ?_ H;simp +contextual (disch:=omega) only[Tryz.f82,dd82,go_sem,simprocAttr,evAppend,map_append,mu82,↓AE,↓AC,↓AB,↓AA];exact⟨_,rfl⟩
theorem d91 (H:List MB):call Pg pol1 91 [] H=some (reAV nothR,H):=by
 refine AR Tryz.func91 rfl rfl rfl rfl rfl rfl (fun _=>rfl) rfl rfl ?_ H;simp +contextual (disch:=omega) only[Tryz.f91,dd91,go_sem,simprocAttr,evAppend,map_append,mu91,↓AE,↓AC,↓AB,↓AA];exact⟨_,rfl⟩
theorem d108 (r:Re) (H:List MB):call Pg pol1 108 [reAV r] H=some (.bool (decide (r.op=0)),H):=by
 obtain⟨op,set,kids,mn,mx,md,n,neg⟩:=r;rw[show reAV (.mk op set kids mn mx md n neg)=.agg (nodeL op set kids mn mx md n neg) from congrArg AV.agg Ab];refine AR Tryz.func108 rfl rfl rfl rfl rfl rfl (fun _=>rfl) (by simp[AV.plain,AV.plainL,AF,AH]) rfl ?_ H;rw[show (Re.mk op set kids mn mx md n neg).op=op from rfl];by_cases h:op=0
 ·subst h;simp +contextual (disch:=omega) only[Tryz.f108,RY,go_sem,simprocAttr,evAppend,map_append,RR,↓AE,↓AC,↓AB,↓AA];exact⟨_,rfl⟩
 ·rw[decide_eq_false h];simp +contextual (disch:=omega) only[Tryz.f108,RY,go_sem,simprocAttr,evAppend,map_append,RR,↓AE,↓AC,↓AB,↓AA,h];exact⟨_,rfl⟩
theorem d109 (r:Re) (H:List MB):call Pg pol1 109 [reAV r] H=some (.bool (isNoth r),H):=by
 obtain⟨op,set,kids,mn,mx,md,n,neg⟩:=r;rw[show reAV (.mk op set kids mn mx md n neg)=.agg (nodeL op set kids mn mx md n neg) from congrArg AV.agg Ab];refine AR Tryz.func109 rfl rfl rfl rfl rfl rfl (fun _=>rfl) (by simp[AV.plain,AV.plainL,AF,AH]) rfl ?_ H;rw[show isNoth (Re.mk op set kids mn mx md n neg)=(decide (op=1)&&decide (set.length=0)) from rfl];by_cases h:op=1
 ·subst h;by_cases g:set.length=0
  ·obtain rfl:=List.length_eq_zero_iff.1 g;simp +contextual (disch:=omega) only[Tryz.f109,PS,go_sem,simprocAttr,evAppend,map_append,O4,↓AE,↓AC,↓AB,↓AA];exact⟨_,rfl⟩
  ·rw[decide_eq_false g];have g2:¬ (set.length:Int)=0:=by omega
   simp +contextual (disch:=omega) only[Tryz.f109,PS,go_sem,simprocAttr,evAppend,map_append,O4,↓AE,↓AC,↓AB,↓AA,g2];exact⟨_,rfl⟩
 ·rw[decide_eq_false h];simp +contextual (disch:=omega) only[Tryz.f109,PS,go_sem,simprocAttr,evAppend,map_append,O4,↓AE,↓AC,↓AB,↓AA,h];exact⟨_,rfl⟩
theorem d63 (r:Re) (H:List MB):call Pg pol1 63 [reAV r] H=some (.bool (isNoth r),H):=by
 obtain⟨op,set,kids,mn,mx,md,n,neg⟩:=r;rw[show reAV (.mk op set kids mn mx md n neg)=.agg (nodeL op set kids mn mx md n neg) from congrArg AV.agg Ab];refine AR Tryz.func63 rfl rfl rfl rfl rfl rfl (fun _=>rfl) (by simp[AV.plain,AV.plainL,AF,AH]) rfl ?_ H;rw[show isNoth (Re.mk op set kids mn mx md n neg)=(decide (op=1)&&decide (set.length=0)) from rfl];by_cases h:op=1
 ·subst h;by_cases g:set.length=0
  ·obtain rfl:=List.length_eq_zero_iff.1 g;simp +contextual (disch:=omega) only[Tryz.f63,dd63,go_sem,simprocAttr,evAppend,map_append,mu63,↓AE,↓AC,↓AB,↓AA];exact⟨_,rfl⟩
  ·rw[decide_eq_false g];have g2:¬ (set.length:Int)=0:=by omega
   simp +contextual (disch:=omega) only[Tryz.f63,dd63,go_sem,simprocAttr,evAppend,map_append,mu63,↓AE,↓AC,↓AB,↓AA,g2];exact⟨_,rfl⟩
 ·rw[decide_eq_false h];simp +contextual (disch:=omega) only[Tryz.f63,dd63,go_sem,simprocAttr,evAppend,map_append,mu63,↓AE,↓AC,↓AB,↓AA,h];exact⟨_,rfl⟩
theorem d87 (b:Bool) (H:List MB):call Pg pol1 87 [.bool b] H=some (I (neg01 b),H):=by
 refine AR Tryz.func87 rfl rfl rfl rfl rfl rfl (fun _=>rfl) rfl rfl ?_ H;cases b
 ·simp +contextual (disch:=omega) only[Tryz.f87,dd87,go_sem,simprocAttr,evAppend,map_append,mu87,↓AE,↓AC,↓AB,↓AA,neg01];exact⟨_,rfl⟩
 ·simp +contextual (disch:=omega) only[Tryz.f87,dd87,go_sem,simprocAttr,evAppend,map_append,mu87,↓AE,↓AC,↓AB,↓AA,neg01];exact⟨_,rfl⟩
theorem Ix {op a b c d:Int}{l:List Re}{g t u:Bool}{H:List MB}:∃ H',fz (.agg [I op,.sl t [],.sl u (l.map reAV),I a,I b,I c,I d,.bool g]) H=some (.agg [I op,.sl false [],.sl false (l.map reAV),I a,I b,I c,I d,.bool g],H'):=
 ⟨H,by
   have h:=AH l;simp only[fz,fzA,fzL,fzJ,A9 _ _ _ h,Option.bind_some,Option.map_some]⟩
abbrev zeR:AV:=.agg [I 0,.sl true [],.sl true [],I 0,I 0,I 0,I 0,.bool false]
theorem d90 (op:Int) (l:List Re) (z:Re) (H:List MB):call Pg pol1 90 [I op,.sl false (l.map reAV),reAV z] H=some (reAV (joinR op l z),H):=by
 have hz:=AO z;have hk:=AH l;have h8:=AK z;have h8t:=AJ z;have h8o:=AP z;refine AR Tryz.func90 rfl rfl rfl rfl rfl rfl (fun _=>rfl) (by simp[AV.plain,AV.plainL,AH,AO]) (AU _) ?_ H;rcases l with _|⟨x,_|⟨y,l⟩⟩
 ·rw[show joinR op [] z=z from rfl];simp +contextual (disch:=omega) only[Tryz.f90,dd90,go_sem,simprocAttr,evAppend,map_append,mu90,↓AE,↓AC,↓AB,↓AA,h8,h8t,h8o];exact fzEq (AU _) rfl
 ·rw[show joinR op [x] z=x from rfl];have x8:=AK x;have x8t:=AJ x;have x8o:=AP x;simp +contextual (disch:=omega) only[Tryz.f90,dd90,go_sem,simprocAttr,evAppend,map_append,mu90,↓AE,↓AC,↓AB,↓AA,h8,h8t,h8o,x8,x8t,x8o];exact fzEq (AU _) rfl
 ·have hl:(x::y::l).length=l.length+2:=rfl;have e:reAV (joinR op (x::y::l) z)=.agg [I op,.sl false [],.sl false ((x::y::l).map reAV),I 0,I 0,I 0,I 0,.bool false]:=congrArg AV.agg Ab;rw[e];generalize (x::y::l)=L at *;have a0:¬ (L.length:Int)=0:=by omega
  have a1:¬ (L.length:Int)=1:=by omega
  simp +contextual (disch:=omega) only[Tryz.f90,dd90,go_sem,simprocAttr,evAppend,map_append,mu90,↓AE,↓AC,↓AB,↓AA,h8,h8t,h8o,a0,a1];exact Ix
theorem d95 (op:Int) (l:List Re) (z:Re) (H:List MB):call Pg pol1 95 [I op,.sl false (l.map reAV),reAV z] H=some (reAV (joinR op l z),H):=by
 have hz:=AO z;have hk:=AH l;have h8:=AK z;have h8t:=AJ z;have h8o:=AP z;refine AR Tryz.func95 rfl rfl rfl rfl rfl rfl (fun _=>rfl) (by simp[AV.plain,AV.plainL,AH,AO]) (AU _) ?_ H;rcases l with _|⟨x,_|⟨y,l⟩⟩
 ·rw[show joinR op [] z=z from rfl];simp +contextual (disch:=omega) only[Tryz.f95,dd95,go_sem,simprocAttr,evAppend,map_append,mu95,↓AE,↓AC,↓AB,↓AA,h8,h8t,h8o];exact fzEq (AU _) rfl
 ·rw[show joinR op [x] z=x from rfl];have x8:=AK x;have x8t:=AJ x;have x8o:=AP x;simp +contextual (disch:=omega) only[Tryz.f95,dd95,go_sem,simprocAttr,evAppend,map_append,mu95,↓AE,↓AC,↓AB,↓AA,h8,h8t,h8o,x8,x8t,x8o];exact fzEq (AU _) rfl
 ·have hl:(x::y::l).length=l.length+2:=rfl;have e:reAV (joinR op (x::y::l) z)=.agg [I op,.sl false [],.sl false ((x::y::l).map reAV),I 0,I 0,I 0,I 0,.bool false]:=congrArg AV.agg Ab;rw[e];generalize (x::y::l)=L at *;have a0:¬ (L.length:Int)=0:=by omega
  have a1:¬ (L.length:Int)=1:=by omega
  simp +contextual (disch:=omega) only[Tryz.f95,dd95,go_sem,simprocAttr,evAppend,map_append,mu95,↓AE,↓AC,↓AB,↓AA,h8,h8t,h8o,a0,a1];exact Ix
theorem Rk (l:List Re):(l.map reAV).all (fun y=>decide (y.cells.length=8)&&y.cells.all AV.ok)=true:=by
 rw[List.all_eq_true];intro y hy;obtain⟨r,_,rfl⟩:=List.mem_map.1 hy;simp only[AV.cells,AK,AP,decide_true,Bool.and_self]
theorem EZ {H:List MB}{i n z:Nat}{rs xs:List Re}{t:Bool} (hi:getRow H i=some (8,rs.map reAV,z)) (hz:z<=n) (hn:rs.length=n) (hr:n+xs.length<=4000000000) :
  evAppend Pg H 24 24 (.ms i 8 n 0 n) (.sl t (xs.map reAV))=some (.ms i 8 (n+xs.length) 0 (n+xs.length),H.set i (.row 8 ((rs++xs).map reAV) z)):=by
 have hs:srcElems Pg H 26 (.sl t (xs.map reAV))=some (xs.map reAV):=rfl;rw[Ai (e:=26) (by kernel_rfl) (by kernel_rfl) (k:=8) (by kernel_rfl) (by_:=96) (by kernel_rfl) (ze:=zeR) (by kernel_rfl) rfl (by omega) hs (Rk xs) hi (by rw[length_map];exact hn) hz (Ae (by simp;omega) (by omega))];rw[map_append,length_map]
theorem BY {H:List MB}{i n z:Nat}{rs:List Re}{x:Re}{t:Bool} (hi:getRow H i=some (8,rs.map reAV,z)) (hz:z<=n) (hn:rs.length=n) (hr:n+1<=4000000000) :
  evAppend Pg H 24 24 (.ms i 8 n 0 n) (.sl t [reAV x])=some (.ms i 8 (n+1) 0 (n+1),H.set i (.row 8 ((rs++[x]).map reAV) z)):=
 EZ (xs:=[x]) hi hz hn hr
theorem d107 (op:Int) (l:List Re) (hw:Re.wtL l<=1000000000) (H:List MB) :
  call Pg pol1 107 [.sl false (l.map reAV),I op] H=some (.ms H.length 8 (flatR op l).length 0 (flatR op l).length,H++[.row 8 ((flatR op l).map reAV) 0]):=by
 have hll:=Re.wtL_len l;have hfl:∀ i,(flatR op (l.take i)).length<=1000000000:=fun i=>by
  have h1:=Re.wtL_len (flatR op (l.take i));have h2:=B9 op (l.take i);have h3:Re.wtL (l.take i)<=Re.wtL l:=by
   conv=>rhs;rw[<- List.take_append_drop i l,Re.wtL_app]
   omega
  omega
 refine N6 (k:=8) (els:=(flatR op l).map reAV) Tryz.func107 rfl rfl rfl rfl (fun _=>rfl) (by simp[AV.plain,AV.plainL,AH]) (AH _) ?_ H;simp +contextual (disch:=omega) only[Tryz.f107,Mn,go_sem,simprocAttr,evAppend,map_append,MY,↓AE,↓AC,↓AB,↓AA];refine AY (M:=(mskOf (pol1.mask 107) (pol1.gc 107) (pol1.acts 107) 0 3)) (by rfl) l.length (fun i=>(⟨28,[(10,I i),(9,I l.length),(8,.sl false (l.map reAV)),(5,.ms 0 8 (flatR op (l.take i)).length 0 (flatR op (l.take i)).length),(1,I op)],[.row 8 ((flatR op (l.take i)).map reAV) 0]⟩:St)) (fun _=>True) ?_ ?_ trivial _ (by first|rfl|(refine AN rfl (by rfl) (by rfl) (by rfl) ?_ ?_<;>simp[AV.underL,AV.under,MB.under,AD,AI,AG,AF,AL,AM,-map_take,AH]))
 ·intro i hi _;obtain⟨k,hk⟩:∃ k,l[i]?=some k:=⟨_,getElem?_eq_getElem hi⟩;have hlt:(i:Int)<(l.length:Int):=by omega
  have hk':=At hk;have hb:=hfl i;have hb2:=hfl (i+1);have hst:=Lu (op:=op) hk;rw[hst]at hb2 |-;obtain⟨kop,set,kids,mn,mx,md,n,neg⟩:=k;rw[show (Re.mk kop set kids mn mx md n neg).op=kop from rfl,show (Re.mk kop set kids mn mx md n neg).sub=kids from rfl]at hb2 |-;have e8:reAV (.mk kop set kids mn mx md n neg)=.agg (nodeL kop set kids mn mx md n neg):=congrArg AV.agg Ab;generalize hX:flatR op (l.take i)=X at *;by_cases hop:kop=op
  ·rw[if_pos hop]at hb2 |-;rw[length_append]at hb2;have a1:=fun K=>EZ (H:=.row 8 (X.map reAV) 0::K) (i:=0) (n:=X.length) (xs:=kids) (t:=false) (rs:=X) rfl (zero_le _) rfl (by omega);simp only[List.set_cons_zero]at a1;rw[e8]at hk';simp +contextual (disch:=omega) only[Tryz.f107,Mn,go_sem,simprocAttr,MY,↓AE,↓AC,↓AB,↓AA,hk',hlt,hop,a1];generalize X++kids=X2 at *;rw[<- length_append];generalize (X++kids).length=N2 at *;exact(by first|rfl|(refine AN rfl (by rfl) (by rfl) (by rfl) ?_ ?_<;>simp[AV.underL,AV.under,MB.under,AD,AI,AG,AF,AL,AM,-map_take,AH]))
  ·rw[if_neg hop]at hb2 |-;rw[length_append]at hb2;have a1:=fun K=>BY (H:=.row 8 (X.map reAV) 0::K) (i:=0) (n:=X.length) (x:=.mk kop set kids mn mx md n neg) (t:=true) (rs:=X) rfl (zero_le _) rfl (by simp at hb2;omega);simp only[List.set_cons_zero,e8]at a1;rw[e8]at hk';simp +contextual (disch:=omega) only[Tryz.f107,Mn,go_sem,simprocAttr,MY,↓AE,↓AC,↓AB,↓AA,hk',hlt,hop,a1];generalize X++[Re.mk kop set kids mn mx md n neg]=X2 at *;generalize X.length+1=N2 at *;exact(by first|rfl|(refine AN rfl (by rfl) (by rfl) (by rfl) ?_ ?_<;>simp[AV.underL,AV.under,MB.under,AD,AI,AG,AF,AL,AM,-map_take,AH]))
 ·intro _;rw[take_length];generalize flatR op l=X at *;have hp:=AH X;have hro:retPol pol1 107 [] (.ms 0 8 X.length 0 X.length) [.row 8 (X.map reAV) 0]=some (.ms 0 8 X.length 0 X.length,[.row 8 (X.map reAV) 0]):=
   Lg (z:=0) rfl rfl rfl (by simp) (NY _ hp) rfl hp (by simp)
  simp +contextual (disch:=omega) only[Tryz.f107,Mn,go_sem,simprocAttr,evAppend,map_append,MY,↓AE,↓AC,↓AB,↓AA,hro]
end
section
attribute [local go_sem] evAppend map_append
def plB (b:MB):Prop:=∀ n,MB.under n b=true
def HP (H:List MB):Prop:=∀ b∈H,plB b
theorem HP.all {H:List MB} (h:HP H) (n:Nat):H.all (MB.under n)=true:=List.all_eq_true.2 fun b hb=>h b hb n
theorem Aa {k z:Nat}{e:List AV} (he:AV.plainL e=true):plB (.row k e z):=fun n=>AD n e he
theorem HP.set {H:List MB} (h:HP H) {i k z:Nat}{e:List AV} (he:AV.plainL e=true):HP (H.set i (.row k e z)):=fun b hb=>by
 rcases List.mem_or_eq_of_mem_set hb with g|rfl
 ·exact h b g
 ·exact Aa he
theorem HP.push {H:List MB} (h:HP H) {b:MB} (hb:plB b):HP (H++[b]):=fun c hc=>by
 rcases List.mem_append.1 hc with g|g
 ·exact h c g
 ·rw[List.mem_singleton.1 g];exact hb
theorem HP.nil:HP []:=fun b hb=>by cases hb
theorem HP.cons {H:List MB} (h:HP H) {b:MB} (hb:plB b):HP (b::H):=fun c hc=>by
 rcases List.mem_cons.1 hc with rfl|g
 ·exact hb
 ·exact h c g
theorem So (g:Nat) (p:Re->Bool) (l:List Re) {H:List MB}{id n z:Nat} (hr:H[id]?=some (.row 8 (l.map reAV) z)) (hn:l.length=n) (hl:n<=1000000000) (hy:g≠yldF) (hg:∀ r∈l,∀ H,call Pg pol1 g [reAV r] H=some (.bool (p r),H)) :
  call Pg pol1 103 [.ms id 8 n 0 n,.clo g []] H=some (I (idxR p l),H):=by
 subst hn;have hfr:frzArgs pol1 103 0 [.ms id 8 l.length 0 l.length,.clo g []] H=some ([.ms id 8 l.length 0 l.length,.clo g []],H):=rfl;have rp:=fun r:Int=>KP (f:=103) (H:=H) rfl rfl (show AV.plain (I r)=true from rfl);refine AX (pol:=pol1) Tryz.func103 rfl rfl rfl rfl hfr ?_;have hlen:(l.map reAV).length=l.length:=by simp
 obtain⟨E,hE⟩:∃ E,l.map reAV=E:=⟨_,rfl⟩;rw[hE]at hr hlen;simp +contextual (disch:=omega) only[Tryz.f103,F7,go_sem,simprocAttr,Fx,↓AE,↓AC,↓AB,↓AA];have hfi:l.findIdx p<=l.length:=List.findIdx_le_length;refine AY (M:=(mskOf (pol1.mask 103) (pol1.gc 103) (pol1.acts 103) 0 2)) (by rfl) l.length (fun i=>(⟨19,[(8,I i),(7,I l.length),(1,.clo g []),(0,.ms id 8 l.length 0 l.length)],H⟩:St)) (fun i=>i<=l.findIdx p) ?_ ?_ (zero_le _) _ (by rfl)
 ·intro i hi hinv;obtain⟨r,hri⟩:∃ r,l[i]?=some r:=⟨_,getElem?_eq_getElem hi⟩;have hr':=At hri;rw[hE]at hr';have hgr:=hg r (mem_of_getElem? hri);have hlt:(i:Int)<(l.length:Int):=by omega
  cases hp:p r with
  | true=>
    have e:l.findIdx p=i:=by
     rcases Nat.lt_or_eq_of_le hinv with h|h
     ·have:=List.not_of_lt_findIdx h;have h2:l[i]=r:=by rw[getElem?_eq_getElem hi]at hri;exact Option.some.inj hri
      rw[h2]at this;rw[hp]at this;cases this
     ·exact h.symm
    rw[hp]at hgr;have e2:idxR p l=(i:Int):=by unfold idxR;rw[e,if_pos hi]
    rw[e2];simp +contextual (disch:=omega) only[Tryz.f103,F7,go_sem,simprocAttr,Fx,↓AE,↓AC,↓AB,↓AA,hr,hr',hgr,hlt,hy,AK,AJ,AP,hlen];exact rp _
  | false=>
    rw[hp]at hgr;have hinv2:i+1<=l.findIdx p:=by
     rcases Nat.lt_or_eq_of_le hinv with h|h
     ·exact h
     ·exfalso;have h1:l.findIdx p<l.length:=by omega
      have:=List.findIdx_getElem (xs:=l) (p:=p) (w:=h1);have h2:l[l.findIdx p]=r:=by
       rw[getElem?_eq_getElem hi]at hri;have:=Option.some.inj hri;simp only[<- h];exact this
      rw[h2,hp]at this;cases this
    simp +contextual (disch:=omega) only[Tryz.f103,F7,go_sem,simprocAttr,Fx,↓AE,↓AC,↓AB,↓AA,hr,hr',hgr,hlt,hy,AK,AJ,AP,hlen]
    first|exact⟨hinv2,by rfl⟩|rfl
 ·intro hinv;have e2:idxR p l = -1:=by unfold idxR;rw[if_neg (by omega)]
  rw[e2];simp +contextual (disch:=omega) only[Tryz.f103,F7,go_sem,simprocAttr,Fx,↓AE,↓AC,↓AB,↓AA,hr];exact rp _
def keepR (l:List Re):List Re:=l.filter fun r=>!decide (r.op=0)
def zerosR (k:Nat):List AV:=List.replicate k zeR
theorem NU {p:Re->Bool}{l:List Re} (h:idxR p l = -1):l.filter (fun r=>!p r)=l:=by
 rw[List.filter_eq_self];intro a ha;have h2:=Kl p l;rw[h]at h2;have h3:l.any p=false:=by rw[<- h2];rfl
 rw[List.any_eq_false]at h3;have:=h3 a ha;simp only[Bool.not_eq_true]at this;rw[this];rfl
theorem NT {p:Re->Bool}{l:List Re} (h:idxR p l≠-1):∃ k r,idxR p l=((k:Nat):Int)/\k<l.length/\l[k]?=some r/\p r=true/\(l.take (k+1)).filter (fun r=>!p r)=l.take k:=by
 unfold idxR at h |-;split at h
 ·rename_i hlt;rw[if_pos hlt];have hp:=List.findIdx_getElem (xs:=l) (p:=p) (w:=hlt);refine⟨l.findIdx p,l[l.findIdx p],rfl,hlt,getElem?_eq_getElem hlt,hp,?_⟩;rw[AZ (getElem?_eq_getElem hlt),List.filter_append];have e1:(l.take (l.findIdx p)).filter (fun r=>!p r)=l.take (l.findIdx p):=by
   rw[List.filter_eq_self];intro a ha;obtain⟨i,hi,rfl⟩:=List.mem_iff_getElem.1 ha;have hi2:i<l.findIdx p:=by rw[List.length_take]at hi;omega
   have:=List.not_of_lt_findIdx hi2;rw[List.getElem_take];have:p l[i]=false:=by simpa using this
   rw[this];rfl
  rw[e1];simp[hp]
 ·exact absurd rfl h
theorem d106 (l:List Re) {H:List MB}{id n:Nat} (hr:H[id]?=some (.row 8 (l.map reAV) 0)) (hn:l.length=n) (hl:n<=1000000000) (hH:HP H) :
  ∃ Z:List AV,Z.length=n-(keepR l).length/\call Pg pol1 106 [.ms id 8 n 0 n,.clo 108 []] H=some (.ms id 8 n 0 (keepR l).length,H.set id (.row 8 ((keepR l).map reAV++Z) 0)):=by
 have hfr:frzArgs pol1 106 0 [.ms id 8 n 0 n,.clo 108 []] H=some ([.ms id 8 n 0 n,.clo 108 []],H):=rfl;have rp:∀ H1 r H,retPol pol1 106 H1 r H=some (r,H):=fun H1 r H=>rfl;have h103:=So 108 (fun r=>decide (r.op=0)) l hr hn hl (by decide) (fun r _ H=>d108 r H);have hid:=(List.getElem?_eq_some_iff.1 hr).1;by_cases hx:idxR (fun r=>decide (r.op=0)) l = -1
 ·have hk:keepR l=l:=NU hx;refine⟨[],by rw[hk,hn,Nat.sub_self];rfl,?_⟩;rw[hk,List.append_nil];subst hn;refine AX (pol:=pol1) Tryz.func106 rfl rfl rfl rfl hfr ?_;have hs:H.set id (.row 8 (l.map reAV) 0)=H:=by
   apply List.ext_getElem?;intro q;by_cases e:id=q
   ·subst e;rw[getElem?_set_self hid,hr]
   ·rw[List.getElem?_set_ne e]
  rw[hs];rw[hx]at h103;simp +contextual (disch:=omega) only[Tryz.f106,K3,go_sem,simprocAttr,Kb,↓AE,↓AC,↓AB,↓AA,h103];exact rp _ _ _
 ·obtain⟨k,r0,e1,hk,hr0,hp0,hf⟩:=NT hx;rw[e1]at h103;have hk1:¬ ((k:Nat):Int) = -1:=by omega
  refine⟨zerosR (n-(keepR l).length),by simp[zerosR],?_⟩;refine AX (pol:=pol1) Tryz.func106 rfl rfl rfl rfl hfr ?_;simp +contextual (disch:=omega) only[Tryz.f106,K3,go_sem,simprocAttr,Kb,↓AE,↓AC,↓AB,↓AA,h103,hk1];have hFl:∀ j,(keepR (l.take j)).length<=j:=fun j=>by
   have h1:=List.length_filter_le (fun r:Re=>!decide (r.op=0)) (l.take j);have h2:=List.length_take_le j l;unfold keepR;omega
  have hf':keepR (l.take (k+1))=l.take k:=hf;have hkeep1:(keepR (l.take (k+1))).length=k:=by rw[hf',List.length_take];omega
  have hle:∀ s,(keepR (l.take (k+1+s))).length<=k+s:=fun s=>by
   induction s with
   | zero=>rw[Nat.add_zero,hkeep1];omega
   | succ s ih=>
     by_cases hs:k+1+s<l.length
     ·rw[show k+1+(s+1)=k+1+s+1 by omega,AZ (getElem?_eq_getElem hs)];unfold keepR at ih |-;rw[List.filter_append,length_append];have:=List.length_filter_le (fun r:Re=>!decide (r.op=0)) [l[k+1+s]];simp only[List.length_cons,List.length_nil]at this;omega
     ·rw[take_of_length_le (by omega)];rw[take_of_length_le (by omega)]at ih;omega
  refine AY (M:=mskOf (pol1.mask 106) (pol1.gc 106) (pol1.acts 106) H.length 5) (by rfl) (l.length-(k+1)) (fun s=>(⟨42,[(6,I (k+1+s:Nat)),(5,I (keepR (l.take (k+1+s))).length),(1,.clo 108 []),(0,.ms id 8 n 0 n)],H.set id (.row 8 ((keepR (l.take (k+1+s))++l.drop (keepR (l.take (k+1+s))).length).map reAV) 0)⟩:St)) (fun _=>True) ?_ ?_ trivial _ ?_
  ·intro s hs _;obtain⟨r,hri⟩:∃ r,l[k+1+s]?=some r:=⟨_,getElem?_eq_getElem (by omega)⟩;have h108:=d108 r;have hle1:=hle s;have hst:keepR (l.take (k+1+(s+1)))=keepR (l.take (k+1+s))++(if r.op=0 then [] else [r]):=by
    rw[show k+1+(s+1)=k+1+s+1 by omega,AZ hri];unfold keepR;rw[List.filter_append];by_cases h:r.op=0<;>simp[h]
   rw[hst];generalize hF:keepR (l.take (k+1+s))=F at *;have hget:((F++l.drop F.length).map reAV)[k+1+s]?=some (reAV r):=by
    rw[List.getElem?_map,List.getElem?_append_right (by omega),List.getElem?_drop,show F.length+(k+1+s-F.length)=k+1+s by omega,hri];rfl
   have hrow:(H.set id (.row 8 ((F++l.drop F.length).map reAV) 0))[id]?=some (.row 8 ((F++l.drop F.length).map reAV) 0):=getElem?_set_self hid;have hrow2:=fun x:MB=>show (H.set id (.row 8 ((F++l.drop F.length).map reAV) 0)++[x])[id]?=_ from(List.getElem?_append_left (by simpa using hid)).trans hrow;have hset2:=fun x y:MB=>show (H.set id (.row 8 ((F++l.drop F.length).map reAV) 0)++[x]).set id y=H.set id y++[x] by rw[List.set_append_left _ _ (by simpa using hid),List.set_set]
   have hlen:((F++l.drop F.length).map reAV).length=n:=by simp;omega
   have hlt:((k+1+s:Nat):Int)<(n:Int):=by omega
   have hFn:F.length<n:=by omega
   have hFi:((F.length:Nat):Int)<(n:Int):=by omega
   by_cases h:r.op=0
   ·rw[if_pos h,List.append_nil];rw[decide_eq_true h]at h108;generalize hE:(F++l.drop F.length).map reAV=E at *;simp +contextual (disch:=omega) only[Tryz.f106,K3,go_sem,simprocAttr,Kb,↓AE,↓AC,↓AB,↓AA,hrow,hget,hlen,hlt,h108,AK,AJ,AP,Bt,Ij,hrow2,hset2];subst hE;exact AN (n:=H.length) rfl rfl (by rfl) (by rw[List.take_append_of_le_length (by simp),take_of_length_le (by simp)]) (by simp[AV.underL,AV.under,hid]) ((hH.set (AH _)).all _)
   ·rw[if_neg h];rw[decide_eq_false h]at h108;obtain⟨r2,hr2⟩:∃ r2,l[F.length]?=some r2:=⟨_,getElem?_eq_getElem (by omega)⟩;have hget2:((F++l.drop F.length).map reAV)[F.length]?=some (reAV r2):=by
     rw[List.getElem?_map,List.getElem?_append_right (le_refl _),List.getElem?_drop,show F.length+(F.length-F.length)=F.length by omega,hr2];rfl
    have hd2:(reC r2).drop 8=[]:=List.drop_of_length_le (by rw[AK];omega);have hset:((F++l.drop F.length).map reAV).set F.length (reAV r)=((F++[r])++l.drop (F++[r]).length).map reAV:=by
     rw[<- List.map_set,List.set_append_right _ _ (le_refl _),Nat.sub_self];have:l.drop F.length=l[F.length]'(by omega)::l.drop (F.length+1):=List.drop_eq_getElem_cons (by omega);rw[this,List.set_cons_zero,length_append,List.append_assoc];rfl
    have hpE:=AH ((F++[r])++l.drop (F++[r]).length);generalize ((F++[r])++l.drop (F++[r]).length).map reAV=E2 at *;generalize hE:(F++l.drop F.length).map reAV=E at *;simp +contextual (disch:=omega) only[Tryz.f106,K3,go_sem,simprocAttr,Kb,↓AE,↓AC,↓AB,↓AA,hrow,hget,hlen,hlt,h108,hFi,hFn,AK,AJ,AP,hset,Bt,Ij,hrow2,hset2,hget2,hd2];exact AN (n:=H.length) rfl rfl (by rfl) (by rw[List.take_append_of_le_length (by simp),take_of_length_le (by simp)]) (by simp[AV.underL,AV.under,hid]) ((hH.set hpE).all _)
  ·intro _;have hj:k+1+(l.length-(k+1))=l.length:=by omega
   rw[hj,take_length];have hle2:(keepR l).length<=l.length:=List.length_filter_le _ _;have hmn:¬ ((l.length:Nat):Int)<(n:Int):=by omega
   have hmi:((keepR l).length:Int)<=(n:Int):=by omega
   have hrow:(H.set id (.row 8 ((keepR l++l.drop (keepR l).length).map reAV) 0))[id]?=some (.row 8 ((keepR l++l.drop (keepR l).length).map reAV) 0):=getElem?_set_self hid;have hlen:((keepR l++l.drop (keepR l).length).map reAV).length=n:=by simp;omega
   have htk:((keepR l++l.drop (keepR l).length).map reAV).take (keepR l).length=(keepR l).map reAV:=by
    rw[<- map_take,List.take_left' rfl]
   have hclr:evClear Pg (H.set id (.row 8 ((keepR l++l.drop (keepR l).length).map reAV) 0)) 24 (.ms id 8 n (keepR l).length (n-(keepR l).length))=some (H.set id (.row 8 ((keepR l).map reAV++zerosR (n-(keepR l).length)) 0)):=by
    unfold evClear;have hg:getRow (H.set id (.row 8 ((keepR l++l.drop (keepR l).length).map reAV) 0)) id=some (8,(keepR l++l.drop (keepR l).length).map reAV,0):=by unfold getRow;rw[hrow]
    have e1:tyElem Pg 24=some 26:=by kernel_rfl
    have e2:tyZero Pg 26=some zeR:=by kernel_rfl
    simp only[hg,e1,e2];rw[if_neg (by omega),if_pos ⟨⟨hlen,trivial,by omega⟩,⟨by omega,trivial,rfl⟩,rfl⟩,htk,List.set_set];rfl
   generalize (keepR l++l.drop (keepR l).length).map reAV=E at *;simp +contextual (disch:=omega) only[Tryz.f106,K3,go_sem,simprocAttr,Kb,↓AE,↓AC,↓AB,↓AA,hrow,hlen,hmn,hmi,hclr,hle2];rw[Nat.sub_zero];exact rp _ _ _
  ·have hs:H.set id (.row 8 (l.map reAV) 0)=H:=by
    apply List.ext_getElem?;intro q;by_cases e:id=q
    ·subst e;rw[getElem?_set_self hid,hr]
    ·rw[List.getElem?_set_ne e]
   rw[Nat.add_zero,hkeep1,hf',List.take_append_drop,hs];exact AN (n:=H.length) rfl rfl (by rfl) (take_length) (by simp[AV.underL,AV.under,hid]) (hH.all _)
end
section
attribute [local go_sem] evAppend map_append
theorem PG {L:List Re}{Z:List AV}{H:List MB}{id n m z:Nat} (hr:getRow H id=some (8,L.map reAV++Z,z)) (hm:L.length=m) (hn:m+Z.length=n):fz (.ms id 8 n 0 m) H=some (.sl false (L.map reAV),mark H id m):=by
 have ht:(L.map reAV++Z).take m=L.map reAV:=List.take_left' (by simp[hm]);have:=PH (n:=5) hr (by simp[hm,hn]) (show m<=n by omega) (by rw[ht];exact AH L);rw[ht]at this;exact this
theorem Kg (l:List Re):(keepR l).length<=l.length:=List.length_filter_le _ _
theorem d79 (kids:List Re) (hw:Re.wtL kids<=1000000000) (H:List MB):call Pg pol1 79 [.sl false (kids.map reAV)] H=some (reAV (catR (flatR 2 kids)),H):=by
 have h107:=d107 2 kids hw;have hfl:(flatR 2 kids).length<=1000000000:=by
  have h1:=Re.wtL_len (flatR 2 kids);have h2:=B9 2 kids;omega
 have hkl:=Kg (flatR 2 kids);refine AR Tryz.func79 rfl rfl rfl rfl rfl rfl (fun _=>rfl) (by simp[AV.plain,AV.plainL,AH]) (AU _) ?_ H;have hcat:catR (flatR 2 kids)=if(keepR (flatR 2 kids)).any isNoth then nothR else joinR 2 (keepR (flatR 2 kids)) emptyR:=rfl
 rw[hcat];generalize flatR 2 kids=F at *;obtain⟨Z,hZ,h106⟩:=d106 F (H:=[.row 8 [zeR] 0,.row 8 (F.map reAV) 0]) (id:=1) (n:=F.length) rfl rfl hfl ((HP.nil.cons (Aa (AH F))).cons fun _=>rfl);have hz:∀ z,fz (.ms 1 8 F.length 0 (keepR F).length) [.row 8 [zeR] 0,.row 8 ((keepR F).map reAV++Z) z]=some (.sl false ((keepR F).map reAV),[.row 8 [zeR] 0,.row 8 ((keepR F).map reAV++Z) (max z (keepR F).length)]):=fun z=>by
  rw[PG (z:=z) rfl rfl (by omega)];rfl
 simp only[List.set_cons_succ,List.set_cons_zero]at h106;generalize keepR F=K at *;have h73:=d73 109 isNoth K (by omega) (by decide) (fun r _ H=>d109 r H);have c73:=fun z=>(BB (P:=Pg) (pol:=pol1) (f:=73) (args:=[.ms 1 8 F.length 0 K.length,.clo 109 []]) (l:=[.sl false (K.map reAV),.clo 109 []]) (H:=[.row 8 [zeR] 0,.row 8 (K.map reAV++Z) z]) (H1:=[.row 8 [zeR] 0,.row 8 (K.map reAV++Z) (max z K.length)]) rfl (by
  simp only[frzArgs,show pol1.byref 73 0=false from rfl,show pol1.byref 73 (0+1)=false from rfl,Bool.false_eq_true,if_false,hz,Ac _ (show AV.plain (.clo 109 [])=true from rfl)]) (by simp[AV.plainL,AV.plain,AH])).trans (h73 _)
 have h90:=fun H=>d90 2 K emptyR H;have c90:=fun z=>(BB (P:=Pg) (pol:=pol1) (f:=90) (args:=[I 2,.ms 1 8 F.length 0 K.length,reAV emptyR]) (l:=[I 2,.sl false (K.map reAV),reAV emptyR]) (H:=[.row 8 [zeR] 0,.row 8 (K.map reAV++Z) z]) (H1:=[.row 8 [zeR] 0,.row 8 (K.map reAV++Z) (max z K.length)]) rfl (by
  simp only[frzArgs,show pol1.byref 90 0=false from rfl,show pol1.byref 90 (0+1)=false from rfl,show pol1.byref 90 (0+1+1)=false from rfl,Bool.false_eq_true,if_false,hz,Ac _ (show AV.plain (I 2)=true from rfl),Ac _ (AU emptyR)]) (by simp[AV.plainL,AV.plain,AH,AO])).trans (h90 _)
 cases hn:K.any isNoth with
 | true=>
   rw[hn]at c73;rw[if_pos rfl];simp +contextual (disch:=omega) only[Tryz.f79,dd79,go_sem,simprocAttr,mu79,↓AE,↓AC,↓AB,↓AA,h107,h106,c73,c90,d91,AK,AJ,AP];exact fzEq (AU _) rfl
 | false=>
   rw[hn]at c73;rw[if_neg (by simp)];simp +contextual (disch:=omega) only[Tryz.f79,dd79,go_sem,simprocAttr,mu79,↓AE,↓AC,↓AB,↓AA,h107,h106,c73,c90,d82,AK,AJ,AP];exact fzEq (AU _) rfl
def repA (mn mx:Int) (k:Re):AV:=match k with
 | .mk op set kids kmn kmx md n neg=>
   if op=0∨(isNoth (.mk op set kids kmn kmx md n neg)=true/\mn=0) then .tup [reAV emptyR,.bool true] else if isNoth (.mk op set kids kmn kmx md n neg)=true∨(op=4/\kmn=0/\kmx = -1)∨(mn=1/\mx=1) then .tup [reAV emptyR,.bool false] else .tup [reAV (.mk 4 [] [.mk op set kids kmn kmx md n neg] mn mx 0 0 false),.bool true]
theorem Ja {mn mx op kmn kmx md n:Int}{set:List (Int×Int)}{kids:List Re}{neg:Bool}:repA mn mx (.mk op set kids kmn kmx md n neg)=(if op=0∨(isNoth (.mk op set kids kmn kmx md n neg)=true/\mn=0) then .tup [reAV emptyR,.bool true] else if isNoth (.mk op set kids kmn kmx md n neg)=true∨(op=4/\kmn=0/\kmx = -1)∨(mn=1/\mx=1) then .tup [reAV emptyR,.bool false] else .tup [reAV (.mk 4 [] [.mk op set kids kmn kmx md n neg] mn mx 0 0 false),.bool true]):=rfl
theorem Qc {r:AV}{H H':List MB}{x:AV}{b:Bool} (h:fz r H=some (x,H')):∃ H',fz (.tup [r,.bool b]) H=some (.tup [x,.bool b],H'):=by
 refine⟨H',?_⟩;unfold fz at h |-;simp only[fzA,fzL,h,Option.bind_some,Option.map_some]
theorem d81 (op:Int) (set:List (Int×Int)) (ks:List Re) (mn mx md n:Int) (neg:Bool) (k:Re) (H:List MB) :
  call Pg pol1 81 [reAV (.mk op set ks mn mx md n neg),.sl false [reAV k]] H=some (repA mn mx k,H):=by
 obtain⟨kop,kset,kkids,kmn,kmx,kmd,kn,kneg⟩:=k;have hp1:AV.plain (reAV (.mk op set ks mn mx md n neg))=true:=AU _;have hp2:AV.plain (reAV (.mk kop kset kkids kmn kmx kmd kn kneg))=true:=AU _;have hpr:AV.plain (repA mn mx (.mk kop kset kkids kmn kmx kmd kn kneg))=true:=by
  rw[Ja];split
  ·rfl
  ·split
   ·rfl
   ·simp only[AV.plain,AV.plainL,AO];rfl
 have h109:=d109 (.mk kop kset kkids kmn kmx kmd kn kneg);refine AR Tryz.func81 rfl rfl rfl rfl rfl rfl (fun _=>rfl) (by simp[AV.plain,AV.plainL,AO]) hpr ?_ H;have e8:reAV (.mk kop kset kkids kmn kmx kmd kn kneg)=.agg (nodeL kop kset kkids kmn kmx kmd kn kneg):=congrArg AV.agg Ab;rw[Ja];generalize isNoth (.mk kop kset kkids kmn kmx kmd kn kneg)=v at *;have eR:reAV (.mk 4 [] [.mk kop kset kkids kmn kmx kmd kn kneg] mn mx 0 0 false)=.agg [I 4,.sl false [],.sl false [reAV (.mk kop kset kkids kmn kmx kmd kn kneg)],I mn,I mx,I 0,I 0,.bool false]:=congrArg AV.agg Ab;rw[eR];have e8':=e8;rw[e8]at hp2 h109;rw[show [reAV (.mk op set ks mn mx md n neg),AV.sl false [reAV (.mk kop kset kkids kmn kmx kmd kn kneg)]]=[.agg (nodeL op set ks mn mx md n neg),.sl false [.agg (nodeL kop kset kkids kmn kmx kmd kn kneg)]] from by rw[e8];exact congrArg (fun x=>[AV.agg x,_]) Ab];clear hpr;obtain⟨R1,hR1⟩:∃ R1:AV,R1=AV.tup [.agg [I 4,.sl false [],.sl false [reAV (.mk kop kset kkids kmn kmx kmd kn kneg)],I mn,I mx,I 0,I 0,.bool false],.bool true]:=⟨_,rfl⟩;rw[<- hR1];have hz:∀ H:List MB,∃ H',fz (.tup [.agg [I 4,.sl true [],.sl false [.agg (nodeL kop kset kkids kmn kmx kmd kn kneg)],I mn,I mx,I 0,I 0,.bool false],.bool true]) H=some (R1,H'):=fun H=>by
  obtain⟨H',h⟩:=Ix (op:=4) (a:=mn) (b:=mx) (c:=0) (d:=0) (l:=[.mk kop kset kkids kmn kmx kmd kn kneg]) (g:=false) (t:=true) (u:=false) (H:=H);simp only[List.map_cons,List.map_nil]at h;rw[hR1,<- e8'];exact Qc h
 have f1:¬ (1:Int)=0:=by omega
 cases v
 ·by_cases c0:kop=0
  ·subst c0;rw[if_pos (.inl rfl)];simp +contextual (disch:=omega) only[Tryz.f81,dd81,go_sem,simprocAttr,mu81,↓AE,↓AC,↓AB,↓AA,h109,d82,AK,AJ,AP];exact⟨_,rfl⟩
  rw[if_neg (by simp[c0])];by_cases a4:kop=4
  ·subst a4;by_cases a5:kmn=0
   ·subst a5;by_cases a6:kmx = -1
    ·subst a6;rw[if_pos (.inr (.inl ⟨rfl,rfl,rfl⟩))];simp +contextual (disch:=omega) only[Tryz.f81,dd81,go_sem,simprocAttr,mu81,↓AE,↓AC,↓AB,↓AA,h109,d82,AK,AJ,AP];exact⟨_,rfl⟩
    ·by_cases m1:mn=1
     ·subst m1;by_cases m2:mx=1
      ·subst m2;rw[if_pos (.inr (.inr ⟨rfl,rfl⟩))];simp +contextual (disch:=omega) only[Tryz.f81,dd81,go_sem,simprocAttr,mu81,↓AE,↓AC,↓AB,↓AA,h109,d82,AK,AJ,AP,a6];exact⟨_,rfl⟩
      ·rw[if_neg (by simp[a6,m2])];simp +contextual (disch:=omega) only[Tryz.f81,dd81,go_sem,simprocAttr,mu81,↓AE,↓AC,↓AB,↓AA,h109,d82,AK,AJ,AP,a6,m2];exact hz _
     ·rw[if_neg (by simp[a6,m1])];simp +contextual (disch:=omega) only[Tryz.f81,dd81,go_sem,simprocAttr,mu81,↓AE,↓AC,↓AB,↓AA,h109,d82,AK,AJ,AP,a6,m1];exact hz _
   ·by_cases m1:mn=1
    ·subst m1;by_cases m2:mx=1
     ·subst m2;rw[if_pos (.inr (.inr ⟨rfl,rfl⟩))];simp +contextual (disch:=omega) only[Tryz.f81,dd81,go_sem,simprocAttr,mu81,↓AE,↓AC,↓AB,↓AA,h109,d82,AK,AJ,AP,a5];exact⟨_,rfl⟩
     ·rw[if_neg (by simp[a5,m2])];simp +contextual (disch:=omega) only[Tryz.f81,dd81,go_sem,simprocAttr,mu81,↓AE,↓AC,↓AB,↓AA,h109,d82,AK,AJ,AP,a5,m2];exact hz _
    ·rw[if_neg (by simp[a5,m1])];simp +contextual (disch:=omega) only[Tryz.f81,dd81,go_sem,simprocAttr,mu81,↓AE,↓AC,↓AB,↓AA,h109,d82,AK,AJ,AP,a5,m1];exact hz _
  ·by_cases m1:mn=1
   ·subst m1;by_cases m2:mx=1
    ·subst m2;rw[if_pos (.inr (.inr ⟨rfl,rfl⟩))];simp +contextual (disch:=omega) only[Tryz.f81,dd81,go_sem,simprocAttr,mu81,↓AE,↓AC,↓AB,↓AA,h109,d82,AK,AJ,AP,c0,a4];exact⟨_,rfl⟩
    ·rw[if_neg (by simp[a4,m2])];simp +contextual (disch:=omega) only[Tryz.f81,dd81,go_sem,simprocAttr,mu81,↓AE,↓AC,↓AB,↓AA,h109,d82,AK,AJ,AP,c0,a4,m2];exact hz _
   ·rw[if_neg (by simp[a4,m1])];simp +contextual (disch:=omega) only[Tryz.f81,dd81,go_sem,simprocAttr,mu81,↓AE,↓AC,↓AB,↓AA,h109,d82,AK,AJ,AP,c0,a4,m1];exact hz _
 ·by_cases c0:kop=0
  ·subst c0;rw[if_pos (.inl rfl)];simp +contextual (disch:=omega) only[Tryz.f81,dd81,go_sem,simprocAttr,mu81,↓AE,↓AC,↓AB,↓AA,h109,d82,AK,AJ,AP];exact⟨_,rfl⟩
  by_cases c1:mn=0
  ·subst c1;rw[if_pos (.inr ⟨rfl,rfl⟩)];simp +contextual (disch:=omega) only[Tryz.f81,dd81,go_sem,simprocAttr,mu81,↓AE,↓AC,↓AB,↓AA,h109,d82,AK,AJ,AP,c0];exact⟨_,rfl⟩
  rw[if_neg (by simp[c0,c1]),if_pos (.inl rfl)];by_cases a4:kop=4
  ·subst a4;by_cases a5:kmn=0
   ·subst a5;by_cases a6:kmx = -1
    ·subst a6;simp +contextual (disch:=omega) only[Tryz.f81,dd81,go_sem,simprocAttr,mu81,↓AE,↓AC,↓AB,↓AA,h109,d82,AK,AJ,AP,c1];exact⟨_,rfl⟩
    ·simp +contextual (disch:=omega) only[Tryz.f81,dd81,go_sem,simprocAttr,mu81,↓AE,↓AC,↓AB,↓AA,h109,d82,AK,AJ,AP,c1,a6];exact⟨_,rfl⟩
   ·simp +contextual (disch:=omega) only[Tryz.f81,dd81,go_sem,simprocAttr,mu81,↓AE,↓AC,↓AB,↓AA,h109,d82,AK,AJ,AP,c1,a5];exact⟨_,rfl⟩
  ·simp +contextual (disch:=omega) only[Tryz.f81,dd81,go_sem,simprocAttr,mu81,↓AE,↓AC,↓AB,↓AA,h109,d82,AK,AJ,AP,c0,c1,a4];exact⟨_,rfl⟩
end
end Go.Ev
