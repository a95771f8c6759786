/- Normal forms: plain. -/
import Derived.Test.YtkolcijbdendhaaGreatF15
set_option linter.unusedVariables false
set_option linter.unusedSimpArgs false
open List (append_assoc append_nil cons_append getElem?_eq_getElem length_nil map_cons map_replicate map_set map_take mem_append mem_cons mem_cons_of_mem mem_filter mem_flatMap mem_map mem_of_getElem? mem_singleton nil_append)
open Nat (le_refl lt_or_ge)
open Go.Proofs Go.RowKit Go.IntWalk
set_option maxHeartbeats 8000000
set_option maxRecDepth 100000
namespace Go.Ev
structure SetN (s:List (Int×Int)):Prop where
 sep:s.Pairwise fun p q=>p.2+2<=q.1
 good:∀ p∈s,goodS p
 len:s.length<=64
theorem SetN.nil:SetN []:=⟨.nil,fun p hp=>(by cases hp),Nat.zero_le _⟩
theorem SetN.normS {s:List (Int×Int)} (h:SetN s):NormS s:=Dy h.sep fun p hp=>(h.good p hp).2.1
theorem Bs {s:List (Int×Int)} (h:SetN s):normL s=s:=by
 obtain⟨n1,n2,_⟩:=Cl h.good;exact FG (Dy n1.sep fun p hp=>(n1.good p hp).2.1) h.normS fun x=>by rw[n2 x]
theorem Lj {s:List (Int×Int)} (h:∀ p∈s,goodS p) (hl:(normL s).length<=64):SetN (normL s):=by
 obtain⟨n1,_,_⟩:=Cl h;exact⟨n1.sep,n1.good,hl⟩
inductive OkD:Re->Prop
 | empty:OkD emptyR
 | set (s:List (Int×Int)) (h:SetN s):OkD (setR s)
 | cat (kids:List Re) (h:∀ k∈kids,OkD k):OkD (.mk 2 [] kids 0 0 0 0 false)
 | alt (kids:List Re) (h:∀ k∈kids,OkD k):OkD (.mk 3 [] kids 0 0 0 0 false)
 | rep (k:Re) (mn mx md:Int) (h:OkD k) (h1:0<=mn/\mn<=32) (h2:mx = -1∨(1<=mx/\mx<=32/\mn<=mx)):OkD (.mk 4 [] [k] mn mx md 0 false)
 | cap (k:Re) (n:Int) (h:OkD k):OkD (.mk 5 [] [k] 0 0 0 n false)
def isStar:Re->Prop
 | .mk op _ _ mn mx _ _ _=>op=4/\mn=0/\mx = -1
inductive NF:Re->Prop
 | empty:NF emptyR
 | set (s:List (Int×Int)) (h:SetN s):NF (setR s)
 | cat (kids:List Re) (h2:2<=kids.length) (h:∀ k∈kids,NF k) (ho:∀ k∈kids,k.op≠0/\k.op≠2/\isNoth k=false):NF (.mk 2 [] kids 0 0 0 0 false)
 | alt (kids:List Re) (h2:2<=kids.length) (h:∀ k∈kids,NF k) (ho:∀ k∈kids,k.op≠3/\isNoth k=false) (hr:kids.Pairwise ltR) (hs:∀ k∈kids,k.op=1->k.set=spansOf kids):NF (.mk 3 [] kids 0 0 0 0 false)
 | rep (k:Re) (mn mx:Int) (h:NF k) (h0:k.op≠0) (hn:isNoth k=false) (hs:¬ isStar k) (hm:¬ (mn=1/\mx=1)) (h1:0<=mn/\mn<=32) (h2:mx = -1∨(1<=mx/\mx<=32/\mn<=mx)):NF (.mk 4 [] [k] mn mx 0 0 false)
theorem NF.op0 {r:Re} (h:NF r) (h0:r.op=0):r=emptyR:=by
 cases h<;>first|rfl|(simp[Re.op]at h0)
theorem NF.op1 {r:Re} (h:NF r) (h1:r.op=1):∃ s,SetN s/\r=setR s:=by
 cases h with
 | set s h=>exact⟨s,h,rfl⟩
 | _=>simp[Re.op]at h1
theorem D0 {r:Re} (h:NF r) (hn:isNoth r=true):r=nothR:=by
 simp only[isNoth,Bool.and_eq_true,decide_eq_true_eq]at hn;obtain⟨s,_,rfl⟩:=h.op1 hn.1;have:s=[]:=List.length_eq_zero_iff.1 hn.2;rw[this]
theorem DF {op:Int}{l:List Re} (h:∀ k∈l,k.op≠op):flatR op l=l:=by
 induction l with
 | nil=>rfl
 | cons x l ih=>
   have:flatR op (x::l)=(if x.op=op then x.sub else [x])++flatR op l:=by simp[flatR]
   rw[this,if_neg (h x (by simp)),ih fun k hk=>h k (mem_cons_of_mem x hk)];rfl
theorem Iz {op:Int}{l:List Re}{x:Re}:x∈flatR op l↔∃ k∈l,(k.op=op/\x∈k.sub)∨(k.op≠op/\x=k):=by
 unfold flatR;rw[mem_flatMap];constructor
 ·rintro⟨k,hk,h⟩;refine⟨k,hk,?_⟩;split at h
  ·rename_i e;exact .inl ⟨e,h⟩
  ·rename_i e;exact .inr ⟨e,mem_singleton.1 h⟩
 ·rintro⟨k,hk,⟨e,h⟩|⟨e,rfl⟩⟩
  ·exact⟨k,hk,by rw[if_pos e];exact h⟩
  ·exact⟨x,hk,by rw[if_neg e];simp⟩
theorem Jq {op:Int} (hop:op=2∨op=3) {l:List Re} (h:∀ k∈l,NF k):∀ x∈flatR op l,NF x/\x.op≠op:=fun x hx=>by
 obtain⟨k,hk,⟨e,hx'⟩|⟨e,rfl⟩⟩:=Iz.1 hx
 ·have hn:=h k hk;cases hn with
  | empty=>simp[Re.op]at e;omega
  | set s _=>simp[Re.op]at e;omega
  | cat kids h2 h ho=>
    have:op=2:=by simpa [Re.op] using e.symm
    subst this;exact⟨h x hx',(ho x hx').2.1⟩
  | alt kids h2 h ho hr hs=>
    have:op=3:=by simpa [Re.op] using e.symm
    subst this;exact⟨h x hx',(ho x hx').1⟩
  | rep k mn mx _ _ _ _ _ _ _=>simp[Re.op]at e;omega
 ·exact⟨h x hk,e⟩
theorem Q6 {l:List Re} (h:∀ x∈l,NF x/\x.op≠2):NF (catR l):=by
 unfold catR;split
 ·exact .set [] .nil
 ·rename_i hn;have hm:∀ x∈l.filter (fun r=>!decide (r.op=0)),NF x/\x.op≠2/\x.op≠0/\isNoth x=false:=fun x hx=>by
   obtain⟨h1,h2⟩:=mem_filter.1 hx;obtain⟨a,b⟩:=h x h1;refine⟨a,b,by simpa using h2,?_⟩;cases hx2:isNoth x with
   | false=>rfl
   | true=>exact absurd (List.any_eq_true.2 ⟨x,hx,hx2⟩) hn
  generalize l.filter (fun r=>!decide (r.op=0))=L at hm
  match L,hm with
  | [],_=>exact .empty
  | [x],hm=>exact(hm x (by simp)).1
  | x::y::l,hm=>exact .cat (x::y::l) (by simp) (fun k hk=>(hm k hk).1) fun k hk=>⟨(hm k hk).2.2.1,(hm k hk).2.1,(hm k hk).2.2.2⟩
theorem JR {l:List Re} (h:∀ x∈l,NF x):∀ p∈spansOf l,goodS p:=fun p hp=>by
 unfold spansOf at hp;obtain⟨k,hk,hp⟩:=mem_flatMap.1 hp;split at hp
 ·rename_i e;obtain⟨s,hs,rfl⟩:=(h k hk).op1 e;exact hs.good p hp
 ·cases hp
theorem Ej {l:List Re} (h:∀ x∈l,x.op≠1):spansOf l=[]:=by
 unfold spansOf;rw[List.flatMap_eq_nil_iff];intro x hx;rw[if_neg (h x hx)]
theorem Fk {u:List (Int×Int)}:∀ {l:List Re},l.Pairwise ltR->(∀ k∈l,k.op=1->k=setR u)->∀ k∈l,k.op=1->k.set=spansOf l
 | x::l,hr,h,k,hk,h1=>by
   obtain⟨a1,a2⟩:=List.pairwise_cons.1 hr;have e:spansOf (x::l)=(if x.op=1 then x.set else [])++spansOf l:=by simp[spansOf]
   rw[e];by_cases hx:x.op=1
   ·have hx2:=h x (by simp) hx;have hno:∀ y∈l,y.op≠1:=fun y hy hy1=>by
     have:=h y (mem_cons_of_mem x hy) hy1;rw[<- hx2]at this;subst this;exact GJ (a1 _ hy)
    rw[if_pos hx,Ej hno,append_nil];rw[h k hk h1,hx2]
   ·rw[if_neg hx,nil_append];rcases mem_cons.1 hk with rfl|hk
    ·exact absurd h1 hx
    ·exact Fk a2 (fun y hy=>h y (mem_cons_of_mem x hy)) k hk h1
theorem RE {l:List Re} (h:∀ x∈l,NF x/\x.op≠3) (hb:altBad l=false):NF (altR l):=by
 have hg:=JR fun x hx=>(h x hx).1;have hlen:(normL (spansOf l)).length<=64:=by
  unfold altBad at hb;have:¬ 64<(normL (spansOf l)).length:=by simpa using hb
  omega
 have hN:=Lj hg hlen;have hm:∀ x∈putAll [] (altL l),NF x/\x.op≠3/\isNoth x=false/\(x.op=1->x=setR (normL (spansOf l))):=fun x hx=>by
  rcases CE.1 hx with hx|hx
  ·cases hx
  unfold altL at hx;rcases mem_append.1 hx with hx|hx
  ·obtain⟨h1,h2⟩:=mem_filter.1 hx;have h3:x.op≠1:=by simpa using h2
   refine⟨(h x h1).1,(h x h1).2,?_,fun e=>absurd e h3⟩;simp[isNoth,h3]
  ·split at hx
   ·cases hx
   ·rename_i hc;rw[mem_singleton.1 hx];refine⟨.set _ hN,by simp[Re.op],?_,fun _=>rfl⟩;have:normL (spansOf l)≠[]:=fun e=>hc (.inr e);have:¬ (normL (spansOf l)).length=0:=fun e=>this (List.length_eq_zero_iff.1 e);simp[isNoth,Re.op,Re.set,this]
 have hri:(putAll [] (altL l)).Pairwise ltR:=Bx (by simp);unfold altR;generalize putAll [] (altL l)=L at hm hri
 match L,hm,hri with
 | [],_,_=>exact .set [] .nil
 | [x],hm,_=>exact(hm x (by simp)).1
 | x::y::l',hm,hri=>exact .alt (x::y::l') (by simp) (fun k hk=>(hm k hk).1) (fun k hk=>⟨(hm k hk).2.1,(hm k hk).2.2.1⟩) hri (Fk hri fun k hk=>(hm k hk).2.2.2)
theorem P9 {k:Re}{mn mx:Int} (h:NF k) (h1:0<=mn/\mn<=32) (h2:mx = -1∨(1<=mx/\mx<=32/\mn<=mx)):NF (repR mn mx k):=by
 obtain⟨op,set,kids,kmn,kmx,md,n,neg⟩:=k;simp only[repR];split
 ·exact .empty
 ·rename_i c1;split
  ·exact h
  ·rename_i c2;refine .rep _ mn mx h (fun e=>c1 (.inl e)) ?_ (fun e=>c2 (.inr (.inl e))) (fun e=>c2 (.inr (.inr e))) h1 h2;cases hn:isNoth (.mk op set kids kmn kmx md n neg) with
   | false=>rfl
   | true=>exact absurd (.inl hn) c2
theorem Dr {l:List Re} (h:badRL l=false):∀ k∈l,badR k=false:=fun k hk=>by
 rw[CO]at h
 simpa using List.any_eq_false.1 h k hk
theorem Id {t:Re} (h:OkD t):badR t=false->NF (nf t):=by
 induction h with
 | empty=>intro _;exact .empty
 | set s h=>intro _;exact .set s h
 | cat kids h ih=>
   intro hb;simp only[badR,Bool.or_eq_false_iff]at hb;have hk:∀ k∈nfL kids,NF k:=fun k hk=>by
    rw[Be]at hk;obtain⟨k',hk',rfl⟩:=mem_map.1 hk;exact ih k' hk' (Dr hb.1 k' hk')
   have:=Q6 (Jq (op:=2) (.inl rfl) hk)
   simpa [nf,formN] using this
 | alt kids h ih=>
   intro hb;simp only[badR,Bool.or_eq_false_iff]at hb;have hk:∀ k∈nfL kids,NF k:=fun k hk=>by
    rw[Be]at hk;obtain⟨k',hk',rfl⟩:=mem_map.1 hk;exact ih k' hk' (Dr hb.1 k' hk')
   have:=RE (Jq (op:=3) (.inr rfl) hk) (by simpa using hb.2)
   simpa [nf,formN] using this
 | rep k mn mx md h h1 h2 ih=>
   intro hb;simp only[badR,badRL,Bool.or_false,Bool.or_eq_false_iff]at hb;have:=P9 (ih hb.1) h1 h2
   simpa [nf,formN,nfL] using this
 | cap k n h ih=>
   intro hb;simp only[badR,badRL,Bool.or_false,Bool.or_eq_false_iff]at hb
   simpa [nf,formN,nfL] using ih hb.1
theorem HH {l:List Re} (h:∀ k∈l,k.op≠0):l.filter (fun r=>!decide (r.op=0))=l:=by
 rw[List.filter_eq_self];intro a ha;simp[h a ha]
theorem Ip {op:Int}{l:List Re}{z:Re} (h:2<=l.length):joinR op l z=.mk op [] l 0 0 0 0 false:=by
 match l,h with
 | x::y::l,_=>rfl
theorem Q5 {kids:List Re} (h2:2<=kids.length) (ho:∀ k∈kids,k.op≠0/\k.op≠2/\isNoth k=false):catR (flatR 2 kids)=.mk 2 [] kids 0 0 0 0 false:=by
 rw[DF fun k hk=>(ho k hk).2.1];unfold catR;rw[HH fun k hk=>(ho k hk).1,if_neg ?_,Ip h2];rw[List.any_eq_true];rintro⟨k,hk,h⟩;rw[(ho k hk).2.2]at h;cases h
theorem M2 {kids:List Re} (h:∀ k∈kids,NF k) (ho:∀ k∈kids,isNoth k=false) (hr:kids.Pairwise ltR) (hs:∀ k∈kids,k.op=1->k.set=spansOf kids):altBad kids=false/\putAll [] (altL kids)=kids:=by
 by_cases hset:∃ k∈kids,k.op=1
 ·obtain⟨k,hk,h1⟩:=hset;obtain⟨s,hN,rfl⟩:=(h k hk).op1 h1;have hsp:spansOf kids=s:=(hs _ hk h1).symm;have hno:=ho _ hk;have hne:s≠[]:=fun e=>by subst e;simp[isNoth,Re.op,Re.set]at hno
  have hb:altBad kids=false:=by
   unfold altBad;rw[hsp,Bs hN];have:=hN.len;simp;omega
  refine⟨hb,Du (Bx (by simp)) hr fun x=>?_⟩;rw[CE];unfold altL;rw[hsp,Bs hN,hb,if_neg (by simp[hne]),mem_append,mem_singleton];unfold othersOf;rw[mem_filter];constructor
  ·rintro(h' | h' | rfl)
   ·cases h'
   ·exact h'.1
   ·exact hk
  ·intro hx;by_cases e:x.op=1
   ·obtain⟨s',_,rfl⟩:=(h x hx).op1 e;have:=hs _ hx e;rw[hsp]at this;have:s' = s:=this;exact .inr (.inr (by rw[this]))
   ·exact .inr (.inl ⟨hx,by simp[e]⟩)
 ·have hno:∀ k∈kids,k.op≠1:=fun k hk e=>hset ⟨k,hk,e⟩;have hsp:spansOf kids=[]:=Ej hno;have hb:altBad kids=false:=by
   unfold altBad;rw[hsp,Bs .nil];simp
  refine⟨hb,Du (Bx (by simp)) hr fun x=>?_⟩;rw[CE];unfold altL;rw[hsp,Bs .nil,hb,if_pos (.inr rfl),append_nil];unfold othersOf;rw[mem_filter];constructor
  ·rintro(h' | h')
   ·cases h'
   ·exact h'.1
  ·intro hx;exact .inr ⟨hx,by simp[hno x hx]⟩
theorem RD {kids:List Re} (h2:2<=kids.length) (h:∀ k∈kids,NF k) (ho:∀ k∈kids,k.op≠3/\isNoth k=false) (hr:kids.Pairwise ltR) (hs:∀ k∈kids,k.op=1->k.set=spansOf kids):altBad (flatR 3 kids)=false/\altR (flatR 3 kids)=.mk 3 [] kids 0 0 0 0 false:=by
 rw[DF fun k hk=>(ho k hk).1];obtain⟨a1,a2⟩:=M2 h (fun k hk=>(ho k hk).2) hr hs;refine⟨a1,?_⟩;unfold altR;rw[a2,Ip h2]
theorem Q3 {k:Re} (h:NF k):catR (flatR 2 [k])=k:=by
 by_cases e2:k.op=2
 ·cases h with
  | cat kids h2 h ho=>
    have:flatR 2 [.mk 2 [] kids 0 0 0 0 false]=flatR 2 kids:=by
     rw[DF fun k hk=>(ho k hk).2.1];simp[flatR,Re.op,Re.sub]
    rw[this,Q5 h2 ho]
  | _=>simp[Re.op]at e2
 ·rw[DF (by simpa using e2)];by_cases h0:k.op=0
  ·rw[h.op0 h0];rfl
  ·unfold catR;rw[HH (by simpa using h0)];by_cases hn:isNoth k=true
   ·rw[if_pos (by simpa using hn),D0 h hn]
   ·rw[if_neg (by simpa using hn)];rfl
theorem RB {k:Re} (h:NF k):altBad (flatR 3 [k])=false/\altR (flatR 3 [k])=k:=by
 by_cases h3:k.op=3
 ·cases h with
  | alt kids h2 h ho hr hs=>
    have:flatR 3 [.mk 3 [] kids 0 0 0 0 false]=flatR 3 kids:=by
     rw[DF fun k hk=>(ho k hk).1];simp[flatR,Re.op,Re.sub]
    rw[this];exact RD h2 h ho hr hs
  | _=>simp[Re.op]at h3
 ·rw[DF (by simpa using h3)];by_cases hn:isNoth k=true
  ·rw[D0 h hn];have e:spansOf [nothR]=[]:=rfl;have hb:altBad [nothR]=false:=by unfold altBad;rw[e,Bs .nil];simp
   refine⟨hb,?_⟩;unfold altR altL;rw[e,Bs .nil,if_pos (.inr rfl)];rfl
  ·have hn':isNoth k=false:=by simpa using hn
   obtain⟨a1,a2⟩:=M2 (kids:=[k]) (by simpa using h) (by simpa using hn') (by simp) (by
    intro x hx h1;obtain rfl:=mem_singleton.1 hx;simp[spansOf,h1])
   refine⟨a1,?_⟩;unfold altR;rw[a2];rfl
end Go.Ev
namespace Go.Ev
mutual
def drv (x:Int):Re->Re
 | .mk op set kids mn mx md n neg=>
   if op=1 then(if hasSpan set x=true then emptyR else nothR)
   else if op=5 then(drvL x kids).headD nothR
   else if op=3 then joinR 3 (drvL x kids) nothR
   else if op=2 then joinR 3 (catD x kids) nothR
   else if op=4 then(if mx=1 then(drvL x kids).headD nothR else .mk 2 [] [(drvL x kids).headD nothR,.mk op set kids (max (mn-1) 0) (if mx = -1 then mx else mx-1) md n neg] 0 0 0 0 false)
   else nothR
def drvL (x:Int):List Re->List Re
 | []=>[]
 | k::ks=>drv x k::drvL x ks
def catD (x:Int):List Re->List Re
 | []=>[]
 | k::ks=>joinR 2 (drv x k::ks) emptyR::(if nullG k=true then catD x ks else [])
end
mutual
def drr (x:Int):Re->Re
 | .mk op set kids mn mx md n neg=>
   if op=1 then(if hasSpan set x=true then emptyR else nothR)
   else if op=5 then(drrL x kids).headD nothR
   else if op=3 then .mk 3 [] (drrL x kids) 0 0 0 0 false
   else if op=2 then .mk 3 [] (catX x kids) 0 0 0 0 false
   else if op=4 then(if mx=1 then .mk 2 [] [(drrL x kids).headD nothR] 0 0 0 0 false else .mk 2 [] [(drrL x kids).headD nothR,.mk op set kids (max (mn-1) 0) (if 0<mx then mx-1 else mx) 0 n neg] 0 0 0 0 false)
   else nothR
def drrL (x:Int):List Re->List Re
 | []=>[]
 | k::ks=>drr x k::drrL x ks
def catX (x:Int):List Re->List Re
 | []=>[]
 | k::ks=>.mk 2 [] (drr x k::ks) 0 0 0 0 false::(if nullG k=true then catX x ks else [])
end
theorem GM (x:Int):∀ l:List Re,drvL x l=l.map (drv x)
 | []=>rfl
 | k::l=>by rw[drvL,GM x l];rfl
theorem GN (x:Int):∀ l:List Re,drrL x l=l.map (drr x)
 | []=>rfl
 | k::l=>by rw[drrL,GN x l];rfl
def Sim (a b:Re):Prop:=badR a=badR b/\(badR a=false->nf a=nf b)
theorem Sim.refl (a:Re):Sim a a:=⟨rfl,fun _=>rfl⟩
theorem Sim.trans {a b c:Re} (h1:Sim a b) (h2:Sim b c):Sim a c:=⟨h1.1.trans h2.1,fun h=>(h1.2 h).trans (h2.2 (by rw[<- h1.1];exact h))⟩
theorem Sim.symm {a b:Re} (h:Sim a b):Sim b a:=⟨h.1.symm,fun g=>(h.2 (by rw[h.1];exact g)).symm⟩
def SimL:List Re->List Re->Prop
 | [],[]=>True
 | a::l,b::m=>Sim a b/\SimL l m
 | _,_=>False
theorem SimL.refl:∀ l,SimL l l
 | []=>trivial
 | a::l=>⟨.refl a,.refl l⟩
theorem SimL.spec:∀ {l m:List Re},SimL l m->badRL l=badRL m/\(badRL l=false->nfL l=nfL m)
 | [],[],_=>⟨rfl,fun _=>rfl⟩
 | [],_::_,h=>h.elim
 | _::_,[],h=>h.elim
 | a::l,b::m,⟨h1,h2⟩=>by
   obtain⟨g1,g2⟩:=SimL.spec h2;refine⟨by rw[badRL,badRL,h1.1,g1],fun h=>?_⟩;rw[badRL,Bool.or_eq_false_iff]at h;rw[nfL,nfL,h1.2 h.1,g2 h.2]
theorem GX {op:Int}{l m:List Re}{mn mx md md' n:Int}{neg:Bool}{set:List (Int×Int)} (h:SimL l m):Sim (.mk op set l mn mx md n neg) (.mk op set m mn mx md' n neg):=by
 obtain⟨h1,h2⟩:=h.spec;by_cases hb:badRL l=false
 ·have e:=h2 hb;refine⟨by simp only[badR,<- h1,<- e],fun _=>by simp only[nf,e]⟩
 ·have hb':badRL l=true:=by simpa using hb
  refine⟨by simp only[badR,<- h1,hb',Bool.true_or],fun g=>?_⟩;simp only[badR,hb',Bool.true_or]at g;cases g
theorem IQ {l:List Re} (h:∀ k∈l,OkD k):Sim (joinR 2 l emptyR) (.mk 2 [] l 0 0 0 0 false):=by
 match l,h with
 | [],_=>exact⟨rfl,fun _=>rfl⟩
 | [k],h=>
   have e:badR (.mk 2 [] [k] 0 0 0 0 false)=badR k:=by simp[badR,badRL]
   refine⟨e.symm,fun hb=>?_⟩;have:=Q3 (Id (h k (by simp)) hb);simp only[nf,formN,nfL];exact this.symm
 | x::y::l,_=>exact .refl _
theorem IP {l:List Re} (h:∀ k∈l,OkD k):Sim (joinR 3 l nothR) (.mk 3 [] l 0 0 0 0 false):=by
 match l,h with
 | [],_=>
   have e:altBad []=false:=by unfold altBad;rw[show spansOf []=[] from rfl,Bs .nil];simp
   refine⟨?_,fun _=>?_⟩
   ·show false=_;simp[badR,badRL,nfL,flatR,e]
   ·show nothR=_;simp only[nf,formN,nfL];have:altR (flatR 3 [])=nothR:=by
     unfold altR altL;rw[show flatR 3 []=[] from rfl,show spansOf []=[] from rfl,Bs .nil,if_pos (.inr rfl)];rfl
    exact this.symm
 | [k],h=>
   by_cases hb:badR k=false
   ·obtain⟨a1,a2⟩:=RB (Id (h k (by simp)) hb);refine⟨?_,fun _=>?_⟩
    ·show badR k=_;simp[badR,badRL,nfL,hb,a1]
    ·simp only[nf,formN,nfL];exact a2.symm
   ·have hb':badR k=true:=by simpa using hb
    refine⟨by simp[joinR,badR,badRL,hb'],fun g=>absurd g hb⟩
 | x::y::l,_=>exact .refl _
theorem G4 {op:Int} (hop:op=2∨op=3) {l:List Re}{z:Re} (hz:OkD z) (h:∀ k∈l,OkD k):OkD (joinR op l z):=by
 match l,h with
 | [],_=>exact hz
 | [k],h=>exact h k (by simp)
 | x::y::l,h=>
   rcases hop with rfl|rfl
   ·exact .cat _ h
   ·exact .alt _ h
theorem Ml {x:Int}:∀ {kids:List Re},(∀ k∈kids,OkD k)->(∀ k∈kids,OkD (drv x k)/\OkD (drr x k)/\Sim (drv x k) (drr x k))->(∀ k∈catD x kids,OkD k)/\(∀ k∈catX x kids,OkD k)/\SimL (catD x kids) (catX x kids)
 | [],_,_=>⟨fun k hk=>by simp[catD]at hk,fun k hk=>by simp[catX]at hk,by simp[catD,catX,SimL]⟩
 | k::ks,h,ih=>by
   obtain⟨a1,a2,a3⟩:=Ml (kids:=ks) (fun k hk=>h k (mem_cons_of_mem _ hk)) (fun k hk=>ih k (mem_cons_of_mem _ hk));obtain⟨b1,b2,b3⟩:=ih k (by simp);have c1:∀ q∈drv x k::ks,OkD q:=fun q hq=>by
    rcases mem_cons.1 hq with rfl|hq
    ·exact b1
    ·exact h q (mem_cons_of_mem _ hq)
   have c2:∀ q∈drr x k::ks,OkD q:=fun q hq=>by
    rcases mem_cons.1 hq with rfl|hq
    ·exact b2
    ·exact h q (mem_cons_of_mem _ hq)
   have d3:Sim (joinR 2 (drv x k::ks) emptyR) (.mk 2 [] (drr x k::ks) 0 0 0 0 false):=(IQ c1).trans (GX ⟨b3,.refl ks⟩);have d1:=G4 (op:=2) (.inl rfl) .empty c1;have d2:OkD (.mk 2 [] (drr x k::ks) 0 0 0 0 false):=.cat _ c2;rw[catD,catX];by_cases hn:nullG k=true
   ·rw[if_pos hn,if_pos hn];refine⟨fun q hq=>?_,fun q hq=>?_,d3,a3⟩
    ·rcases mem_cons.1 hq with rfl|hq
     ·exact d1
     ·exact a1 q hq
    ·rcases mem_cons.1 hq with rfl|hq
     ·exact d2
     ·exact a2 q hq
   ·rw[if_neg hn,if_neg hn];refine⟨fun q hq=>?_,fun q hq=>?_,d3,trivial⟩
    ·rw[mem_singleton.1 hq];exact d1
    ·rw[mem_singleton.1 hq];exact d2
theorem Jz {x:Int}{t:Re} (h:OkD t):OkD (drv x t)/\OkD (drr x t)/\Sim (drv x t) (drr x t):=by
 induction h with
 | empty=>exact⟨by simp[drv];exact .set _ .nil,by simp[drr];exact .set _ .nil,by simp[drv,drr];exact .refl _⟩
 | set s h=>
   have e1:drv x (setR s)=if hasSpan s x=true then emptyR else nothR:=by simp[drv]
   have e2:drr x (setR s)=if hasSpan s x=true then emptyR else nothR:=by simp[drr]
   rw[e1,e2];have:OkD (if hasSpan s x=true then emptyR else nothR):=by
    split
    ·exact .empty
    ·exact .set _ .nil
   exact⟨this,this,.refl _⟩
 | cat kids h ih=>
   obtain⟨a1,a2,a3⟩:=Ml h ih;have e1:drv x (.mk 2 [] kids 0 0 0 0 false)=joinR 3 (catD x kids) nothR:=by simp[drv]
   have e2:drr x (.mk 2 [] kids 0 0 0 0 false)=.mk 3 [] (catX x kids) 0 0 0 0 false:=by simp[drr]
   rw[e1,e2];exact⟨G4 (.inr rfl) (.set _ .nil) a1,.alt _ a2,(IP a1).trans (GX a3)⟩
 | alt kids h ih=>
   have e1:drv x (.mk 3 [] kids 0 0 0 0 false)=joinR 3 (kids.map (drv x)) nothR:=by simp[drv,GM]
   have e2:drr x (.mk 3 [] kids 0 0 0 0 false)=.mk 3 [] (kids.map (drr x)) 0 0 0 0 false:=by simp[drr,GN]
   rw[e1,e2];have a1:∀ k∈kids.map (drv x),OkD k:=fun k hk=>by
    obtain⟨q,hq,rfl⟩:=mem_map.1 hk;exact(ih q hq).1
   have a2:∀ k∈kids.map (drr x),OkD k:=fun k hk=>by
    obtain⟨q,hq,rfl⟩:=mem_map.1 hk;exact(ih q hq).2.1
   have a3:∀ l:List Re,(∀ k∈l,Sim (drv x k) (drr x k))->SimL (l.map (drv x)) (l.map (drr x)):=fun l=>by
    induction l with
    | nil=>intro _;trivial
    | cons k l ihl=>intro hl;exact⟨hl k (by simp),ihl fun q hq=>hl q (mem_cons_of_mem _ hq)⟩
   exact⟨G4 (.inr rfl) (.set _ .nil) a1,.alt _ a2,(IP a1).trans (GX (a3 kids fun k hk=>(ih k hk).2.2))⟩
 | rep k mn mx md h h1 h2 ih=>
   by_cases hm:mx=1
   ·subst hm;have e1:drv x (.mk 4 [] [k] mn 1 md 0 false)=drv x k:=by simp[drv,drvL]
    have e2:drr x (.mk 4 [] [k] mn 1 md 0 false)=.mk 2 [] [drr x k] 0 0 0 0 false:=by simp[drr,drrL]
    rw[e1,e2];refine⟨ih.1,.cat _ fun q hq=>?_,ih.2.2.trans (IQ (l:=[drr x k]) ?_)⟩
    ·rw[mem_singleton.1 hq];exact ih.2.1
    ·intro q hq;rw[mem_singleton.1 hq];exact ih.2.1
   ·have hx:(if 0<mx then mx-1 else mx)=(if mx = -1 then mx else mx-1):=by
     rcases h2 with rfl|h2
     ·simp
     ·rw[if_pos (by omega),if_neg (by omega)]
    have e1:drv x (.mk 4 [] [k] mn mx md 0 false)=.mk 2 [] [drv x k,.mk 4 [] [k] (max (mn-1) 0) (if mx = -1 then mx else mx-1) md 0 false] 0 0 0 0 false:=by simp[drv,drvL,hm]
    have e2:drr x (.mk 4 [] [k] mn mx md 0 false)=.mk 2 [] [drr x k,.mk 4 [] [k] (max (mn-1) 0) (if 0<mx then mx-1 else mx) 0 0 false] 0 0 0 0 false:=by simp[drr,drrL,hm]
    rw[e1,e2,hx];have hr:∀ d,OkD (.mk 4 [] [k] (max (mn-1) 0) (if mx = -1 then mx else mx-1) d 0 false):=fun d=>by
     refine .rep k _ _ d h (by omega) ?_;rcases h2 with rfl|h2
     ·left;simp
     ·right;rw[if_neg (by omega)];omega
    refine⟨.cat _ fun q hq=>?_,.cat _ fun q hq=>?_,GX ⟨ih.2.2,GX (.refl _),trivial⟩⟩
    ·rcases mem_cons.1 hq with rfl|hq
     ·exact ih.1
     ·rw[mem_singleton.1 hq];exact hr md
    ·rcases mem_cons.1 hq with rfl|hq
     ·exact ih.2.1
     ·rw[mem_singleton.1 hq];exact hr 0
 | cap k n h ih=>
   have e1:drv x (.mk 5 [] [k] 0 0 0 n false)=drv x k:=by simp[drv,drvL]
   have e2:drr x (.mk 5 [] [k] 0 0 0 n false)=drr x k:=by simp[drr,drrL]
   rw[e1,e2];exact ih
end Go.Ev
namespace Go.Ev
theorem MN (a b c:Nat):2*(a+b)*c=2*a*c+2*b*c:=by rw[Nat.mul_add 2 a b,Nat.add_mul]
theorem GH (b c:Nat):2*(1+b)*c=2*c+2*b*c:=by rw[Nat.mul_add 2 1 b,Nat.add_mul,Nat.mul_one]
mutual
def gsR:Re->Prop
 | .mk op set kids mn mx md n neg=>(∀ p∈set,goodS p)/\gsL kids
def gsL:List Re->Prop
 | []=>True
 | k::ks=>gsR k/\gsL ks
end
theorem Bf:∀ {l:List Re},gsL l↔∀ k∈l,gsR k
 | []=>by simp[gsL]
 | k::l=>by simp[gsL,Bf (l:=l)]
theorem QX {r:Re} (h:gsR r):∀ p∈r.set,goodS p:=by
 obtain⟨op,set,kids,mn,mx,md,n,neg⟩:=r;exact h.1
theorem QW {r:Re} (h:gsR r):∀ k∈r.sub,gsR k:=by
 obtain⟨op,set,kids,mn,mx,md,n,neg⟩:=r;exact Bf.1 h.2
theorem OkD.gs {t:Re} (h:OkD t):gsR t:=by
 induction h with
 | empty=>exact⟨fun p hp=>(by cases hp),trivial⟩
 | set s h=>exact⟨h.good,trivial⟩
 | cat kids h ih=>exact⟨fun p hp=>(by cases hp),Bf.2 ih⟩
 | alt kids h ih=>exact⟨fun p hp=>(by cases hp),Bf.2 ih⟩
 | rep k mn mx md h h1 h2 ih=>exact⟨fun p hp=>(by cases hp),ih,trivial⟩
 | cap k n h ih=>exact⟨fun p hp=>(by cases hp),ih,trivial⟩
theorem E4 {op:Int}{l:List Re} (h:∀ k∈l,gsR k):∀ k∈flatR op l,gsR k:=fun k hk=>by
 obtain⟨q,hq,⟨_,e⟩|⟨_,rfl⟩⟩:=Iz.1 hk
 ·exact QW (h q hq) k e
 ·exact h k hq
theorem Cj {l:List Re} (h:∀ k∈l,gsR k):∀ p∈spansOf l,goodS p:=fun p hp=>by
 unfold spansOf at hp;obtain⟨k,hk,hp⟩:=mem_flatMap.1 hp;split at hp
 ·exact QX (h k hk) p hp
 ·cases hp
theorem Dj {op:Int}{l:List Re}{z:Re} (hz:z.wt<=1):(joinR op l z).wt<=1+Re.wtL l:=by
 match l with
 | []=>simp[joinR,Re.wtL];omega
 | [x]=>simp[joinR,Re.wtL]
 | x::y::l=>simp[joinR,Re.wt]
theorem G3 {op:Int}{l:List Re}{z:Re} (hz:z.size<=1):(joinR op l z).size<=1+Re.sizeL l:=by
 match l with
 | []=>simp[joinR,Re.sizeL];omega
 | [x]=>simp[joinR,Re.sizeL]
 | x::y::l=>simp[joinR,Re.size]
theorem Kh {op:Int}{l:List Re}{z:Re} (hz:gsR z) (h:∀ k∈l,gsR k):gsR (joinR op l z):=by
 match l,h with
 | [],_=>exact hz
 | [x],h=>exact h x (by simp)
 | x::y::l,h=>exact⟨fun p hp=>(by cases hp),Bf.2 h⟩
theorem GQ (p:Re->Bool):∀ l:List Re,Re.wtL (l.filter p)<=Re.wtL l
 | []=>le_refl _
 | k::l=>by
   have:=GQ p l;rw[List.filter_cons];split<;>simp only[Re.wtL]<;>omega
theorem Dx:∀ l:List Re,Re.wtL (othersOf l)+(if spansOf l=[] then 0 else 1+(spansOf l).length)<=Re.wtL l
 | []=>by simp[othersOf,spansOf,Re.wtL]
 | k::l=>by
   have ih:=Dx l;have hs:=Re.wt_sub k;have e1:spansOf (k::l)=(if k.op=1 then k.set else [])++spansOf l:=by simp[spansOf]
   have e2:othersOf (k::l)=(if k.op=1 then [] else [k])++othersOf l:=by
    by_cases h:k.op=1<;>simp[othersOf,h]
   rw[e1,e2];by_cases h:k.op=1
   ·simp only[if_pos h,nil_append,Re.wtL];by_cases h2:spansOf l=[]
    ·rw[if_pos h2]at ih;rw[h2,append_nil];split<;>omega
    ·rw[if_neg h2]at ih;rw[if_neg (by simp[h2]),List.length_append];omega
   ·simp only[if_neg h,nil_append,Re.wtL,List.singleton_append];omega
theorem MT:∀ {l:List Re}{r:Re},Re.wtL (putR l r)<=Re.wtL l+r.wt
 | [],r=>by simp[putR,Re.wtL]
 | x::l,r=>by
   have:=MT (l:=l) (r:=r);rw[putR];split
   ·simp only[Re.wtL];omega
   ·split<;>simp only[Re.wtL]<;>omega
theorem Dv:∀ {xs l:List Re},Re.wtL (putAll l xs)<=Re.wtL l+Re.wtL xs
 | [],l=>by simp[putAll,Re.wtL]
 | x::xs,l=>by
   have h1:=Dv (xs:=xs) (l:=putR l x);have h2:=MT (l:=l) (r:=x);show Re.wtL (putAll (putR l x) xs)<=_;simp only[Re.wtL];omega
theorem M1 {l:List Re} (h:∀ k∈l,gsR k):Re.wtL (altL l)<=Re.wtL l:=by
 have h1:=Dx l;have h2:=(Cl (Cj h)).2.2;unfold altL;rw[Re.wtL_app];split
 ·simp only[Re.wtL];split at h1<;>omega
 ·rename_i hc;have hne:spansOf l≠[]:=fun e=>hc (.inr (by rw[e];exact List.length_eq_zero_iff.1 (by rw[e]at h2;simpa using h2)));rw[if_neg hne]at h1;simp only[Re.wtL,Re.wt];omega
theorem E3:gsR emptyR:=⟨fun p hp=>(by cases hp),trivial⟩
theorem Me:gsR nothR:=⟨fun p hp=>(by cases hp),trivial⟩
theorem RF {l:List Re} (h:∀ k∈l,gsR k):∀ k∈altL l,gsR k:=fun k hk=>by
 unfold altL at hk;rcases mem_append.1 hk with hk|hk
 ·exact h k (mem_filter.1 hk).1
 ·split at hk
  ·cases hk
  ·rw[mem_singleton.1 hk];exact⟨(Cl (Cj h)).1.good,trivial⟩
theorem RC {l:List Re} (h:∀ k∈l,gsR k):(altR l).wt<=1+Re.wtL l:=by
 have h1:=Dj (op:=3) (l:=putAll [] (altL l)) (z:=nothR) (by simp[Re.wt,Re.wtL]);have h2:=Dv (xs:=altL l) (l:=[]);have h3:=M1 h;simp only[Re.wtL]at h2;unfold altR;omega
theorem Q4 (l:List Re):(catR l).wt<=1+Re.wtL l:=by
 unfold catR;split
 ·simp[Re.wt,Re.wtL]
 ·have h1:=Dj (op:=2) (l:=l.filter fun r=>!decide (r.op=0)) (z:=emptyR) (by simp[Re.wt,Re.wtL]);have h2:=GQ (fun r=>!decide (r.op=0)) l;omega
theorem P7 (mn mx:Int) (k:Re):(repR mn mx k).wt<=1+k.wt:=by
 have:=Re.wt_pos k;obtain⟨op,set,kids,kmn,kmx,md,n,neg⟩:=k;simp only[repR];split
 ·simp[Re.wt,Re.wtL]
 ·split
  ·omega
  ·simp only[Re.wt,Re.wtL,length_nil];omega
theorem P8 {mn mx:Int}{k:Re} (h:gsR k):gsR (repR mn mx k):=by
 obtain⟨op,set,kids,kmn,kmx,md,n,neg⟩:=k;simp only[repR];split
 ·exact E3
 ·split
  ·exact h
  ·exact⟨fun p hp=>(by cases hp),h,trivial⟩
mutual
theorem Ov:∀ t:Re,gsR t->gsR (nf t)/\(nf t).wt<=t.wt
 | .mk op set kids mn mx md n neg,h=>by
   obtain⟨a1,a2⟩:=Cm kids h.2;have hwt:(Re.mk op set kids mn mx md n neg).wt=1+set.length+Re.wtL kids:=by simp[Re.wt]
   rw[hwt];simp only[nf,formN];have hh:gsR ((nfL kids).headD emptyR)/\((nfL kids).headD emptyR).wt<=1+Re.wtL kids:=by
    match hk:nfL kids,a1,a2 with
    | [],_,_=>exact⟨E3,by simp[Re.wt,Re.wtL]⟩
    | k::ks,a1,a2=>exact⟨a1 k (by simp),by simp only[List.headD_cons,Re.wtL]at a2 |-;omega⟩
   split
   ·exact⟨⟨h.1,trivial⟩,by simp[Re.wt,Re.wtL]⟩
   ·split
    ·have h1:=Q4 (flatR 2 (nfL kids));have h2:=B9 2 (nfL kids);refine⟨?_,by omega⟩;unfold catR;split
     ·exact Me
     ·exact Kh E3 fun k hk=>E4 a1 k (mem_filter.1 hk).1
    ·split
     ·have hg:=E4 (op:=3) a1;have h1:=RC hg;have h2:=B9 3 (nfL kids);refine⟨?_,by omega⟩;refine Kh Me fun k hk=>?_;rcases CE.1 hk with hk|hk
      ·cases hk
      ·exact RF hg k hk
     ·split
      ·have:=P7 mn mx ((nfL kids).headD emptyR);refine⟨P8 hh.1,?_⟩
       match hk:nfL kids,a2 with
       | [],_=>
         simp only[List.headD_nil,repR,true_or,if_true];simp[Re.wt,Re.wtL];omega
       | k::ks,a2=>
         rw[hk]at this;simp only[List.headD_cons,Re.wtL]at a2 this |-;omega
      ·split
       ·exact⟨hh.1,by omega⟩
       ·exact⟨E3,by simp[Re.wt,Re.wtL];omega⟩
theorem Cm:∀ l:List Re,gsL l->(∀ k∈nfL l,gsR k)/\Re.wtL (nfL l)<=Re.wtL l
 | [],_=>⟨fun k hk=>by simp[nfL]at hk,le_refl _⟩
 | k::ks,h=>by
   obtain⟨a1,a2⟩:=Ov k h.1;obtain⟨b1,b2⟩:=Cm ks h.2;refine⟨fun q hq=>?_,by simp only[nfL,Re.wtL];omega⟩;simp only[nfL]at hq;rcases mem_cons.1 hq with rfl|hq
   ·exact a1
   ·exact b1 q hq
end
theorem Mq {x:Int}{W:Nat}:∀ {l:List Re},Re.wtL l<=W->(∀ k∈l,(drv x k).wt+(W+2)<=2*k.size*(W+2)/\(drr x k).wt+(W+2)<=2*k.size*(W+2))->Re.wtL (catD x l)<=2*Re.sizeL l*(W+2)/\Re.wtL (catX x l)<=2*Re.sizeL l*(W+2)
 | [],_,_=>by simp[catD,catX,Re.wtL]
 | k::ks,hW,h=>by
   simp only[Re.wtL]at hW;obtain⟨i1,i2⟩:=Mq (l:=ks) (by have:=Re.wt_pos k;omega) fun q hq=>h q (mem_cons_of_mem _ hq);obtain⟨h1,h2⟩:=h k (by simp);have j:=Dj (op:=2) (l:=drv x k::ks) (z:=emptyR) (by simp[Re.wt,Re.wtL]);have e:2*Re.sizeL (k::ks)*(W+2)=2*k.size*(W+2)+2*Re.sizeL ks*(W+2):=by
    simp only[Re.sizeL];exact MN _ _ _
   rw[e];simp only[Re.wtL]at j;have:=Re.wt_pos k;rw[catD,catX];by_cases hn:nullG k=true
   ·simp only[if_pos hn,Re.wtL,Re.wt,length_nil];omega
   ·simp only[if_neg hn,Re.wtL,Re.wt,length_nil];omega
theorem PP {x:Int}{W:Nat}{t:Re} (h:OkD t):t.wt<=W->(drv x t).wt+(W+2)<=2*t.size*(W+2)/\(drr x t).wt+(W+2)<=2*t.size*(W+2):=by
 have base:∀ r s:Re,r.wt<=1->r.wt+(W+2)<=2*s.size*(W+2):=fun r s hr=>by
  have:=Re.size_pos s;have:1*(W+2)<=s.size*(W+2):=Nat.mul_le_mul_right _ this;rw[Nat.mul_assoc];omega
 have w1:nothR.wt<=1:=by simp[Re.wt,Re.wtL]
 have w0:emptyR.wt<=1:=by simp[Re.wt,Re.wtL]
 induction h with
 | empty=>
   intro _;have e1:drv x emptyR=nothR:=by simp[drv]
   have e2:drr x emptyR=nothR:=by simp[drr]
   rw[e1,e2];exact⟨base _ _ w1,base _ _ w1⟩
 | set s h=>
   intro _;have e1:drv x (setR s)=if hasSpan s x=true then emptyR else nothR:=by simp[drv]
   have e2:drr x (setR s)=if hasSpan s x=true then emptyR else nothR:=by simp[drr]
   rw[e1,e2];split
   ·exact⟨base _ _ w0,base _ _ w0⟩
   ·exact⟨base _ _ w1,base _ _ w1⟩
 | cat kids h ih=>
   intro hW;have hW':Re.wtL kids<=W:=by simp only[Re.wt,length_nil]at hW;omega
   obtain⟨a1,a2⟩:=Mq (x:=x) hW' fun k hk=>ih k hk (by have:=Re.wtL_mem hk;omega);have e1:drv x (.mk 2 [] kids 0 0 0 0 false)=joinR 3 (catD x kids) nothR:=by simp[drv]
   have e2:drr x (.mk 2 [] kids 0 0 0 0 false)=.mk 3 [] (catX x kids) 0 0 0 0 false:=by simp[drr]
   have j:=Dj (op:=3) (l:=catD x kids) (z:=nothR) w1;have e:2*(Re.mk 2 [] kids 0 0 0 0 false).size*(W+2)=2*(W+2)+2*Re.sizeL kids*(W+2):=by
    simp only[Re.size];exact GH _ _
   rw[e1,e2,e];simp only[Re.wt,length_nil];omega
 | alt kids h ih=>
   intro hW;have hW':Re.wtL kids<=W:=by simp only[Re.wt,length_nil]at hW;omega
   have hs:∀ l:List Re,(∀ k∈l,(drv x k).wt+(W+2)<=2*k.size*(W+2)/\(drr x k).wt+(W+2)<=2*k.size*(W+2))->Re.wtL (l.map (drv x))<=2*Re.sizeL l*(W+2)/\Re.wtL (l.map (drr x))<=2*Re.sizeL l*(W+2):=fun l=>by
    induction l with
    | nil=>intro _;simp[Re.wtL]
    | cons k l ihl=>
      intro hl;obtain⟨b1,b2⟩:=ihl fun q hq=>hl q (mem_cons_of_mem _ hq);obtain⟨c1,c2⟩:=hl k (by simp);have e:2*Re.sizeL (k::l)*(W+2)=2*k.size*(W+2)+2*Re.sizeL l*(W+2):=by
       simp only[Re.sizeL];exact MN _ _ _
      rw[e];simp only[map_cons,Re.wtL];omega
   obtain⟨a1,a2⟩:=hs kids fun k hk=>ih k hk (by have:=Re.wtL_mem hk;omega);have e1:drv x (.mk 3 [] kids 0 0 0 0 false)=joinR 3 (kids.map (drv x)) nothR:=by simp[drv,GM]
   have e2:drr x (.mk 3 [] kids 0 0 0 0 false)=.mk 3 [] (kids.map (drr x)) 0 0 0 0 false:=by simp[drr,GN]
   have j:=Dj (op:=3) (l:=kids.map (drv x)) (z:=nothR) w1;have e:2*(Re.mk 3 [] kids 0 0 0 0 false).size*(W+2)=2*(W+2)+2*Re.sizeL kids*(W+2):=by
    simp only[Re.size];exact GH _ _
   rw[e1,e2,e];simp only[Re.wt,length_nil];omega
 | rep k mn mx md h h1 h2 ih=>
   intro hW;simp only[Re.wt,Re.wtL,length_nil]at hW;obtain⟨a1,a2⟩:=ih (by omega);have e:2*(Re.mk 4 [] [k] mn mx md 0 false).size*(W+2)=2*(W+2)+2*k.size*(W+2):=by
    simp only[Re.size,Re.sizeL,Nat.add_zero];exact GH _ _
   rw[e];by_cases hm:mx=1
   ·subst hm;have e1:drv x (.mk 4 [] [k] mn 1 md 0 false)=drv x k:=by simp[drv,drvL]
    have e2:drr x (.mk 4 [] [k] mn 1 md 0 false)=.mk 2 [] [drr x k] 0 0 0 0 false:=by simp[drr,drrL]
    rw[e1,e2];simp only[Re.wt,Re.wtL,length_nil];omega
   ·have e1:drv x (.mk 4 [] [k] mn mx md 0 false)=.mk 2 [] [drv x k,.mk 4 [] [k] (max (mn-1) 0) (if mx = -1 then mx else mx-1) md 0 false] 0 0 0 0 false:=by simp[drv,drvL,hm]
    have e2:drr x (.mk 4 [] [k] mn mx md 0 false)=.mk 2 [] [drr x k,.mk 4 [] [k] (max (mn-1) 0) (if 0<mx then mx-1 else mx) 0 0 false] 0 0 0 0 false:=by simp[drr,drrL,hm]
    rw[e1,e2];simp only[Re.wt,Re.wtL,length_nil];omega
 | cap k n h ih=>
   intro hW;simp only[Re.wt,Re.wtL,length_nil]at hW;obtain⟨a1,a2⟩:=ih (by omega);have e1:drv x (.mk 5 [] [k] 0 0 0 n false)=drv x k:=by simp[drv,drvL]
   have e2:drr x (.mk 5 [] [k] 0 0 0 n false)=drr x k:=by simp[drr,drrL]
   have e:2*(Re.mk 5 [] [k] 0 0 0 n false).size*(W+2)=2*(W+2)+2*k.size*(W+2):=by
    simp only[Re.size,Re.sizeL,Nat.add_zero];exact GH _ _
   rw[e1,e2,e];omega
end Go.Ev
namespace Go.Ev
theorem NF.ok {t:Re} (h:NF t):OkD t:=by
 induction h with
 | empty=>exact .empty
 | set s h=>exact .set s h
 | cat kids h2 h ho ih=>exact .cat kids ih
 | alt kids h2 h ho hr hs ih=>exact .alt kids ih
 | rep k mn mx h h0 hn hs hm h1 h2 ih=>exact .rep k mn mx 0 ih h1 h2
theorem KM {l:List Re} (h:∀ k∈l,k.wt<=65*k.size):Re.wtL l<=65*Re.sizeL l:=by
 induction l with
 | nil=>simp[Re.wtL]
 | cons k l ih=>
   have h1:=h k (by simp);have h2:=ih fun q hq=>h q (mem_cons_of_mem _ hq);simp only[Re.wtL,Re.sizeL];omega
theorem OkD.wt65 {t:Re} (h:OkD t):t.wt<=65*t.size:=by
 induction h with
 | empty=>simp[Re.wt,Re.wtL,Re.size,Re.sizeL]
 | set s h=>have:=h.len;simp[Re.wt,Re.wtL,Re.size,Re.sizeL];omega
 | cat kids h ih=>have:=KM ih;simp[Re.wt,Re.size];omega
 | alt kids h ih=>have:=KM ih;simp[Re.wt,Re.size];omega
 | rep k mn mx md h h1 h2 ih=>simp[Re.wt,Re.wtL,Re.size,Re.sizeL];omega
 | cap k n h ih=>simp[Re.wt,Re.wtL,Re.size,Re.sizeL];omega
theorem KJ {s:List (Int×Int)} (h:SetN s):spansG s 1114111=true:=by
 refine Db h.len fun k hk=>?_;unfold badS;rw[getElem?_eq_getElem hk];have hg:=h.good s[k] (List.getElem_mem hk);unfold goodS at hg;have a1:¬ s[k].1<0:=by omega
 have a2:¬ s[k].2<s[k].1:=by omega
 have a3:¬ (1114111:Int)<s[k].2:=by omega
 simp only[a1,a2,a3,decide_false,Bool.false_or];cases k with
 | zero=>rfl
 | succ j=>
   have hj:j<s.length:=by omega
   simp only[getElem?_eq_getElem hj];have:=(List.pairwise_iff_getElem.1 h.sep) j (j+1) hj hk (by omega);have a4:¬ s[j+1].1<s[j].2+2:=by omega
   simp[a4]
theorem NF.whole {t:Re} (caps:Int) (h:NF t):wholeG caps 1114111 t=true:=by
 induction h with
 | empty=>simp[wholeG,wholeL,formedG,kidsG]
 | set s h=>simp[wholeG,wholeL,formedG,kidsG,KJ h]
 | cat kids h2 h ho ih=>
   have:=(CC caps 1114111 kids).2 ih;simp[wholeG,formedG,kidsG,this,h2]
 | alt kids h2 h ho hr hs ih=>
   have:=(CC caps 1114111 kids).2 ih;simp[wholeG,formedG,kidsG,this,h2]
 | rep k mn mx h h0 hn hs hm h1 h2 ih=>
   have:repG mn mx 0=true:=by
    simp only[repG,Bool.and_eq_true,decide_eq_true_eq,Bool.or_eq_true,beq_iff_eq];refine⟨⟨⟨⟨h1.1,h1.2⟩,by omega⟩,by omega⟩,?_⟩;rcases h2 with h2|h2
    ·exact .inl h2
    ·exact .inr ⟨⟨h2.1,h2.2.1⟩,h2.2.2⟩
   simp[wholeG,wholeL,formedG,kidsG,ih,this]
theorem En (p:Re->Bool):∀ l:List Re,Re.sizeL (l.filter p)<=Re.sizeL l
 | []=>le_refl _
 | k::l=>by
   have:=En p l;rw[List.filter_cons];split<;>simp only[Re.sizeL]<;>omega
theorem ER (op:Int):∀ l:List Re,Re.sizeL (flatR op l)<=Re.sizeL l
 | []=>le_refl _
 | k::l=>by
   have ih:=ER op l;have hs:1+Re.sizeL k.sub=k.size:=by cases k;simp[Re.size,Re.sub]
   have e:flatR op (k::l)=(if k.op=op then k.sub else [k])++flatR op l:=by simp[flatR]
   rw[e,Re.sizeL_append];split<;>simp only[Re.sizeL]<;>omega
theorem Fu:∀ l:List Re,Re.sizeL (othersOf l)+(if spansOf l=[] then 0 else 1)<=Re.sizeL l
 | []=>by simp[othersOf,spansOf,Re.sizeL]
 | k::l=>by
   have ih:=Fu l;have hs:=Re.size_pos k;have e1:spansOf (k::l)=(if k.op=1 then k.set else [])++spansOf l:=by simp[spansOf]
   have e2:othersOf (k::l)=(if k.op=1 then [] else [k])++othersOf l:=by
    by_cases h:k.op=1<;>simp[othersOf,h]
   rw[e1,e2];by_cases h:k.op=1
   ·simp only[if_pos h,nil_append,Re.sizeL];split<;>split at ih<;>omega
   ·simp only[if_neg h,nil_append,Re.sizeL,List.singleton_append];omega
theorem IY:∀ {l:List Re}{r:Re},Re.sizeL (putR l r)<=Re.sizeL l+r.size
 | [],r=>by simp[putR,Re.sizeL]
 | x::l,r=>by
   have:=IY (l:=l) (r:=r);rw[putR];split
   ·simp only[Re.sizeL];omega
   ·split<;>simp only[Re.sizeL]<;>omega
theorem Fs:∀ {xs l:List Re},Re.sizeL (putAll l xs)<=Re.sizeL l+Re.sizeL xs
 | [],l=>by simp[putAll,Re.sizeL]
 | x::xs,l=>by
   have h1:=Fs (xs:=xs) (l:=putR l x);have h2:=IY (l:=l) (r:=x);show Re.sizeL (putAll (putR l x) xs)<=_;simp only[Re.sizeL];omega
theorem OF (l:List Re):(altR l).size<=1+Re.sizeL l:=by
 have h1:=G3 (op:=3) (l:=putAll [] (altL l)) (z:=nothR) (by simp[Re.size,Re.sizeL]);have h2:=Fs (xs:=altL l) (l:=[]);have h4:=Fu l;have h3:Re.sizeL (altL l)<=Re.sizeL l:=by
  unfold altL;rw[Re.sizeL_append];split
  ·simp only[Re.sizeL];omega
  ·rename_i hc;have hne:spansOf l≠[]:=fun e=>hc (.inr (by rw[e];exact(Bs .nil)));rw[if_neg hne]at h4;simp only[Re.sizeL,Re.size];omega
 simp only[Re.sizeL]at h2;unfold altR;omega
theorem Nw (l:List Re):(catR l).size<=1+Re.sizeL l:=by
 unfold catR;split
 ·simp[Re.size,Re.sizeL]
 ·have h1:=G3 (op:=2) (l:=l.filter fun r=>!decide (r.op=0)) (z:=emptyR) (by simp[Re.size,Re.sizeL]);have h2:=En (fun r=>!decide (r.op=0)) l;omega
theorem NE (mn mx:Int) (k:Re):(repR mn mx k).size<=1+k.size:=by
 have:=Re.size_pos k;obtain⟨op,set,kids,kmn,kmx,md,n,neg⟩:=k;simp only[repR];split
 ·simp[Re.size,Re.sizeL]
 ·split
  ·omega
  ·simp only[Re.size,Re.sizeL];omega
theorem QL {t:Re} (h:OkD t):(nf t).size<=t.size:=by
 have hL:∀ l:List Re,(∀ k∈l,(nf k).size<=k.size)->Re.sizeL (l.map nf)<=Re.sizeL l:=fun l=>by
  induction l with
  | nil=>intro _;exact le_refl _
  | cons k l ih=>
    intro hl;have h1:=hl k (by simp);have h2:=ih fun q hq=>hl q (mem_cons_of_mem _ hq);simp only[map_cons,Re.sizeL];omega
 induction h with
 | empty=>simp[nf,formN,nfL,Re.size,Re.sizeL]
 | set s h=>simp[nf,formN,Re.size,Re.sizeL]
 | cat kids h ih=>
   have h1:=Nw (flatR 2 (kids.map nf));have h2:=ER 2 (kids.map nf);have h3:=hL kids ih;have e:nf (.mk 2 [] kids 0 0 0 0 false)=catR (flatR 2 (kids.map nf)):=by simp[nf,formN,Be]
   rw[e];simp only[Re.size];omega
 | alt kids h ih=>
   have h1:=OF (flatR 3 (kids.map nf));have h2:=ER 3 (kids.map nf);have h3:=hL kids ih;have e:nf (.mk 3 [] kids 0 0 0 0 false)=altR (flatR 3 (kids.map nf)):=by simp[nf,formN,Be]
   rw[e];simp only[Re.size];omega
 | rep k mn mx md h h1 h2 ih=>
   have h1:=NE mn mx (nf k);have e:nf (.mk 4 [] [k] mn mx md 0 false)=repR mn mx (nf k):=by simp[nf,formN,nfL]
   rw[e];simp only[Re.size,Re.sizeL];omega
 | cap k n h ih=>
   have e:nf (.mk 5 [] [k] 0 0 0 n false)=nf k:=by simp[nf,formN,nfL]
   rw[e];simp only[Re.size,Re.sizeL];omega
structure StT (t:Re):Prop where
 nf:NF t
 size:t.size<=256
theorem StT.wt {t:Re} (h:StT t):t.wt<=16640:=by
 have:=h.nf.ok.wt65;have:=h.size;omega
def stepR (x:Int) (t:Re):Option Re:=
 if badR (drv x t)=true∨256<(nf (drv x t)).size∨24<(nf (drv x t)).depth then none else some (nf (drv x t))
theorem KI {x:Int}{t r:Re} (h:StT t) (hs:stepR x t=some r):StT r:=by
 unfold stepR at hs;split at hs
 ·cases hs
 ·rename_i hc;simp only[not_or]at hc;obtain rfl:=Option.some.inj hs;exact⟨Id (Jz h.nf.ok).1 (by simpa using hc.1),by omega⟩
theorem M6 (x:Int) {t:Re} (h:OkD t):stepR x t=if badR (drr x t)=true∨256<(nf (drr x t)).size∨24<(nf (drr x t)).depth then none else some (nf (drr x t)):=by
 obtain⟨_,_,h1,h2⟩:=Jz (x:=x) h;unfold stepR;cases hb:badR (drv x t) with
 | true=>rw[hb]at h1;simp[<- h1]
 | false=>rw[h2 hb,<- h1,hb]
theorem Nl {x:Int}{t:Re} (h:OkD t) (hs:t.size<=256):(drv x t).wt<=100000000/\(drr x t).wt<=100000000:=by
 have h1:=h.wt65;obtain⟨a,b⟩:=PP (x:=x) (W:=16640) h (by omega);have:2*t.size*(16640+2)<=2*256*(16640+2):=Nat.mul_le_mul_right _ (by omega);omega
end Go.Ev
namespace Go.Ev
def vI (n:Nat):List Int:=if n<128 then [(n:Int)] else((128+n % 128:Nat):Int)::vI (n / 128)
termination_by n
decreasing_by omega
theorem Fj {n:Nat} (h:n<128):vI n=[(n:Int)]:=by rw[vI,if_pos h]
theorem GS {n:Nat} (h:128<=n):vI n=((128+n % 128:Nat):Int)::vI (n / 128):=by rw[vI,if_neg (by omega)]
theorem OK:∀(k n:Nat),n<128 ^ (k+1)->(vI n).length<=k+1
 | 0,n,h=>by rw[Fj (by omega)];simp
 | k+1,n,h=>by
   by_cases h1:n<128
   ·rw[Fj h1];simp
   ·rw[GS (by omega)];have:=OK k (n / 128) (by rw[Nat.div_lt_iff_lt_mul (by omega)];rw[Nat.pow_succ]at h;exact h);simp;omega
theorem Ec {n:Nat} (h:n<18446744073709551616):(vI n).length<=10:=OK 9 n (Nat.lt_trans h (by decide))
theorem Rb (n:Nat):1<=(vI n).length:=by
 by_cases h:n<128
 ·rw[Fj h];simp
 ·rw[GS (by omega)];simp
theorem GG:∀(n:Nat),∀ x∈vI n,0<=x/\x<256:=by
 intro n
 induction n using Nat.strongRecOn with
 | ind n ih=>
   intro x hx;by_cases h:n<128
   ·rw[Fj h]at hx;rw[mem_singleton.1 hx];omega
   ·rw[GS (by omega)]at hx;rcases mem_cons.1 hx with e|e
    ·rw[e];omega
    ·exact ih (n / 128) (by omega) x e
def zz (n:Int):Nat:=if n<0 then(2*(-(n+1))+1).toNat else(2*n).toNat
def unz (z:Nat):Int:=if z % 2=1 then -((z / 2:Nat):Int)-1 else((z / 2:Nat):Int)
theorem OM (n:Int):unz (zz n)=n:=by
 unfold unz zz;split<;>split<;>omega
theorem MM {n:Int} (h:-9223372036854775808<=n/\n<=9223372036854775807):zz n<18446744073709551616:=by
 unfold zz;split<;>omega
def iE (n:Int):List Int:=vI (zz n)
def boolE (b:Bool):List Int:=[if b then 1 else 0]
theorem OJ:∀(a b:Nat) (s t:List Int),vI a++s=vI b++t->a=b/\s=t:=by
 intro a
 induction a using Nat.strongRecOn with
 | ind a ih=>
   intro b s t h;by_cases ha:a<128
   ·rw[Fj ha]at h;by_cases hb:b<128
    ·rw[Fj hb]at h;simp only[List.singleton_append,List.cons.injEq]at h;exact⟨by omega,h.2⟩
    ·rw[GS (by omega)]at h;simp only[List.singleton_append,cons_append,List.cons.injEq]at h;omega
   ·rw[GS (by omega)]at h;by_cases hb:b<128
    ·rw[Fj hb]at h;simp only[List.singleton_append,cons_append,List.cons.injEq]at h;omega
    ·rw[GS (n:=b) (by omega)]at h;simp only[cons_append,List.cons.injEq]at h;obtain⟨h1,h2⟩:=h;obtain⟨e1,e2⟩:=ih (a / 128) (by omega) (b / 128) s t h2;exact⟨by omega,e2⟩
theorem PD {a b:Int}{s t:List Int} (h:iE a++s=iE b++t):a=b/\s=t:=by
 obtain⟨h1,h2⟩:=OJ _ _ _ _ h;refine⟨?_,h2⟩;rw[<- OM a,<- OM b,h1]
def intsE (l:List Int):List Int:=vI l.length++l.flatMap iE
theorem I4:∀ {l m s t:List Int},l.length=m.length->l.flatMap iE++s=m.flatMap iE++t->l=m/\s=t
 | [],[],s,t,_,h=>⟨rfl,h⟩
 | [],_::_,_,_,h,_=>by simp at h
 | _::_,[],_,_,h,_=>by simp at h
 | x::l,y::m,s,t,hl,h=>by
   simp only[List.flatMap_cons,append_assoc]at h;obtain⟨rfl,h2⟩:=PD h;obtain⟨rfl,h3⟩:=I4 (by simpa using hl) h2;exact⟨rfl,h3⟩
theorem Iq {l m s t:List Int} (h:intsE l++s=intsE m++t):l=m/\s=t:=by
 unfold intsE at h;rw[append_assoc,append_assoc]at h;obtain⟨h1,h2⟩:=OJ _ _ _ _ h;exact I4 h1 h2
mutual
def nodeE:Re->List Int
 | .mk op set kids mn mx md n neg=>intsE (op::set.flatMap fun p=>[p.1,p.2])++intsE [mn,mx,md,n,neg01 neg]++iE kids.length++kidsE kids
def kidsE:List Re->List Int
 | []=>[]
 | k::ks=>nodeE k++kidsE ks
end
theorem Na:∀ {l m:List (Int×Int)},(l.flatMap fun p=>[p.1,p.2])=(m.flatMap fun p=>[p.1,p.2])->l=m:=fun {l m} h=>by
 refine HE ?_ h;have h1:=BG l;have h2:=BG m;rw[h]at h1;omega
mutual
theorem Ib:∀(a b:Re) (s t:List Int),nodeE a++s=nodeE b++t->a=b/\s=t
 | .mk op set kids mn mx md n neg,.mk op' set' kids' mn' mx' md' n' neg',s,t,h=>by
   simp only[nodeE,append_assoc]at h;obtain⟨h1,h⟩:=Iq h;obtain⟨h2,h⟩:=Iq h;obtain⟨h3,h⟩:=PD h;simp only[List.cons.injEq]at h1 h2;obtain⟨h4,h5⟩:=Ik kids kids' s t (by omega) h;obtain⟨e1,e2,e3,e4,e5,_⟩:=h2;have e6:neg=neg':=by cases neg<;>cases neg'<;>simp[neg01]at e5<;>rfl
   rw[h1.1,Na h1.2,e1,e2,e3,e4,e6,h4];exact⟨rfl,h5⟩
theorem Ik:∀(a b:List Re) (s t:List Int),a.length=b.length->kidsE a++s=kidsE b++t->a=b/\s=t
 | [],[],s,t,_,h=>⟨rfl,h⟩
 | [],_::_,_,_,h,_=>by simp at h
 | _::_,[],_,_,h,_=>by simp at h
 | x::l,y::m,s,t,hl,h=>by
   simp only[kidsE,append_assoc]at h;obtain⟨h1,h2⟩:=Ib x y _ _ h;obtain⟨h3,h4⟩:=Ik l m s t (by simpa using hl) h2;rw[h1,h3];exact⟨rfl,h4⟩
end
def nameE (r:Re):List Int:=iE 0++boolE false++nodeE r
theorem NM {a b:Re} (h:nameE a=nameE b):a=b:=by
 unfold nameE at h;have h2:=List.append_cancel_left h;exact(Ib a b [] [] (by simpa using h2)).1
end Go.Ev
namespace Go.Ev
attribute [local go_sem] evAppend evBin AV.cells Ax A8 bndO bnd evEq eqCells not_false_eq_true not_true_eq_false toList_some Array.size_empty List.length_append List.map_append tySzE List.head?_drop Nat.mul_one Aj Aq Ag Ak Al Ae
section
theorem f102 (r:Bool) (H:List MB):call Pg pol1 70 [.bool r] H=some (I (if r then 1114111 else 255),H):=by
 cases r
 ·refine AR Tryz.func70 rfl rfl rfl rfl rfl rfl (fun _=>rfl) (by simp[AV.plain,AV.plainL,AG,AF,AL,AM]) (by simp[AV.plain,AV.plainL,AG,AF,AL,AM]) ?_ H;simp +contextual (disch:=omega) only[Tryz.f70,dd70,go_sem,simprocAttr,mu70,↓AE,↓AC,↓AB,↓AA];exact fzEq rfl rfl
 ·refine AR Tryz.func70 rfl rfl rfl rfl rfl rfl (fun _=>rfl) (by simp[AV.plain,AV.plainL,AG,AF,AL,AM]) (by simp[AV.plain,AV.plainL,AG,AF,AL,AM]) ?_ H;simp +contextual (disch:=omega) only[Tryz.f70,dd70,go_sem,simprocAttr,mu70,↓AE,↓AC,↓AB,↓AA];exact fzEq rfl rfl
theorem My {l:List (Int×Int)}{top:Int}{i:Nat}{p:Int×Int} (hp:l[i]?=some p) (h:p.1<0∨p.2<p.1∨top<p.2):badS l top i=true:=by
 simp only[badS,hp];rcases h with h|h|h<;>simp[h]
theorem JJ {l:List (Int×Int)}{top:Int}{p:Int×Int} (hp:l[0]?=some p) (h:¬ (p.1<0∨p.2<p.1∨top<p.2)):badS l top 0=false:=by
 have h1:¬ p.1<0:=fun e=>h (.inl e);have h2:¬ p.2<p.1:=fun e=>h (.inr (.inl e));have h3:¬ top<p.2:=fun e=>h (.inr (.inr e));simp[badS,hp,h1,h2,h3]
theorem Fh {l:List (Int×Int)}{top:Int}{i:Nat}{p q:Int×Int} (hp:l[i+1]?=some p) (hq:l[i]?=some q) (h:¬ (p.1<0∨p.2<p.1∨top<p.2)):badS l top (i+1)=decide (p.1<q.2+2):=by
 have h1:¬ p.1<0:=fun e=>h (.inl e);have h2:¬ p.2<p.1:=fun e=>h (.inr (.inl e));have h3:¬ top<p.2:=fun e=>h (.inr (.inr e));simp[badS,hp,hq,h1,h2,h3]
theorem J7 {l:List (Int×Int)}{top:Int}{i:Nat}{q:Int×Int} (hq:l[i]?=some q) (h:badS l top i=false):0<=q.1/\q.1<=q.2/\q.2<=top:=by
 simp only[badS,hq,Bool.or_eq_false_iff,decide_eq_false_iff_not]at h;omega
theorem f131 (l:List (Int×Int)) (top:Int) (ht:top<=1114111) (hl:l.length<=1000000) (H:List MB):call Pg pol1 101 [.sl false (l.map spanAV),I top] H=some (.bool (spansG l top),H):=by
 refine AR Tryz.func101 rfl rfl rfl rfl rfl rfl (fun _=>rfl) (by simp[AV.plain,AV.plainL,AF]) rfl ?_ H;by_cases h64:64<l.length
 ·rw[Fl h64];simp +contextual (disch:=omega) only[Tryz.f101,HW,go_sem,simprocAttr,Gw,↓AE,↓AC,↓AB,↓AA];exact fzEq rfl rfl
 ·simp +contextual (disch:=omega) only[Tryz.f101,HW,go_sem,simprocAttr,Gw,↓AE,↓AC,↓AB,↓AA];refine AY (M:=(mskOf (pol1.mask 101) (pol1.gc 101) (pol1.acts 101) 0 4)) rfl l.length (fun i=>(⟨50,[(12,I i),(11,I l.length),(10,.sl false (l.map spanAV)),(1,I top),(0,.sl false (l.map spanAV))],[]⟩:St)) (fun i=>∀ k,k<i->badS l top k=false) ?_ ?_ (fun k h=>by omega) _ (by first|rfl|(refine BV (n:=0) (m:=⟨some [12,11,10,1,0],some 0,[]⟩) rfl rfl ?_ ?_ ?_<;>first|rfl|(simp[keepT,AV.underL,AV.under,MB.under,AD,AI,AW,AG,AF,AL,AM,-map_take,-map_replicate,-map_set];done)|(simp[keepT,AV.underL,AV.under,MB.under,AD,AI,AW,AG,AF,AL,AM,-map_take,-map_replicate,-map_set];omega)))
  ·intro i hlt hg;obtain⟨p,hp⟩:∃ p,l[i]?=some p:=⟨_,getElem?_eq_getElem hlt⟩;have ext:badS l top i=false->∀ k,k<i+1->badS l top k=false:=fun h k hk=>by
    rcases lt_or_ge k i with h1|h1
    ·exact hg k h1
    ·obtain rfl:k=i:=by omega
     exact h
   by_cases hgd:p.1<0∨p.2<p.1∨top<p.2
   ·rw[DK hlt (My hp hgd)];have hgd':p.1<0∨(¬ p.1<0/\p.2<p.1)∨(¬ p.1<0/\¬ p.2<p.1/\top<p.2):=by omega
    rcases hgd' with h|⟨h,h'⟩|⟨h,h',h''⟩
    all_goals (
     simp +contextual (disch:=omega) only[Tryz.f101,HW,go_sem,simprocAttr,Gw,↓AE,↓AC,↓AB,↓AA,hp,spanAV];repeat' (first|intro _|apply And.intro|(unfold dOk;kernel_rfl)|exact St.beq_refl _|exact AQ|(show altO _ _ _ _=true;kernel_rfl)|(show (_||_)=true;kernel_rfl)|(show (_&&_)=true;kernel_rfl))
     all_goals exact fzEq rfl rfl)
   ·rcases i with _|i
    ·simp +contextual (disch:=omega) only[Tryz.f101,HW,go_sem,simprocAttr,Gw,↓AE,↓AC,↓AB,↓AA,hp,spanAV];repeat' (first|intro _|apply And.intro|(unfold dOk;kernel_rfl)|exact St.beq_refl _|exact AQ|(show altO _ _ _ _=true;kernel_rfl)|(show (_||_)=true;kernel_rfl)|(show (_&&_)=true;kernel_rfl))
     ·exact ext (JJ hp hgd) _ ‹_›
     ·exact(by first|rfl|(refine BV (n:=0) (m:=⟨some [12,11,10,1,0],some 0,[]⟩) rfl rfl ?_ ?_ ?_<;>first|rfl|(simp[keepT,AV.underL,AV.under,MB.under,AD,AI,AW,AG,AF,AL,AM,-map_take,-map_replicate,-map_set];done)|(simp[keepT,AV.underL,AV.under,MB.under,AD,AI,AW,AG,AF,AL,AM,-map_take,-map_replicate,-map_set];omega)))
    ·obtain⟨q,hq⟩:∃ q,l[i]?=some q:=⟨_,getElem?_eq_getElem (by omega)⟩;have hqb:=J7 hq (hg i (by omega));have hb:=Fh hp hq hgd;by_cases h2:p.1<q.2+2
     ·rw[DK hlt (by rw[hb];simp[h2])];simp +contextual (disch:=omega) only[Tryz.f101,HW,go_sem,simprocAttr,Gw,↓AE,↓AC,↓AB,↓AA,hp,hq,spanAV];repeat' (first|intro _|apply And.intro|(unfold dOk;kernel_rfl)|exact St.beq_refl _|exact AQ|(show altO _ _ _ _=true;kernel_rfl)|(show (_||_)=true;kernel_rfl)|(show (_&&_)=true;kernel_rfl))
      all_goals exact fzEq rfl rfl
     ·simp +contextual (disch:=omega) only[Tryz.f101,HW,go_sem,simprocAttr,Gw,↓AE,↓AC,↓AB,↓AA,hp,hq,spanAV];repeat' (first|intro _|apply And.intro|(unfold dOk;kernel_rfl)|exact St.beq_refl _|exact AQ|(show altO _ _ _ _=true;kernel_rfl)|(show (_||_)=true;kernel_rfl)|(show (_&&_)=true;kernel_rfl))
      ·exact ext (by rw[hb];simp[h2]) _ ‹_›
      ·exact(by first|rfl|(refine BV (n:=0) (m:=⟨some [12,11,10,1,0],some 0,[]⟩) rfl rfl ?_ ?_ ?_<;>first|rfl|(simp[keepT,AV.underL,AV.under,MB.under,AD,AI,AW,AG,AF,AL,AM,-map_take,-map_replicate,-map_set];done)|(simp[keepT,AV.underL,AV.under,MB.under,AD,AI,AW,AG,AF,AL,AM,-map_take,-map_replicate,-map_set];omega)))
  ·intro hg;rw[Db (by omega) hg];simp +contextual (disch:=omega) only[Tryz.f101,HW,go_sem,simprocAttr,Gw,↓AE,↓AC,↓AB,↓AA];exact fzEq rfl rfl
end
section
abbrev nodeL (op:Int) (set:List (Int×Int)) (kids:List Re) (mn mx md n:Int) (neg:Bool):List AV:=[I op,.sl false (set.map spanAV),.sl false (kids.map reAV),I mn,I mx,I md,I n,.bool neg]
theorem f132 (op:Int) (set:List (Int×Int)) (kids:List Re) (mn mx md n:Int) (neg:Bool) (H:List MB):call Pg pol1 102 [.pt (nodeL op set kids mn mx md n neg)] H=some (.bool (repG mn mx md),H):=by
 refine AR Tryz.func102 rfl rfl rfl rfl rfl rfl (fun _=>rfl) (by simp[AV.plain,AV.plainL,AF,AH]) rfl ?_ H;by_cases h:mn<0∨32<mn∨md<0∨2<md
 ·have e:repG mn mx md=false:=by
   simp only[repG,Bool.and_eq_false_iff,decide_eq_false_iff_not];omega
  rw[e];have h':mn<0∨(¬ mn<0/\32<mn)∨(¬ mn<0/\¬ 32<mn/\md<0)∨(¬ mn<0/\¬ 32<mn/\¬ md<0/\2<md):=by omega
  rcases h' with h|⟨h,h1⟩|⟨h,h1,h2⟩|⟨h,h1,h2,h3⟩
  all_goals (
   simp +contextual (disch:=omega) only[Tryz.f102,RZ,go_sem,simprocAttr,RS,↓AE,↓AC,↓AB,↓AA];repeat' (first|intro _|apply And.intro|(unfold dOk;kernel_rfl)|exact St.beq_refl _|exact AQ|(show altO _ _ _ _=true;kernel_rfl)|(show (_||_)=true;kernel_rfl)|(show (_&&_)=true;kernel_rfl))
   all_goals exact fzEq rfl rfl)
 ·have e:repG mn mx md=(mx == -1||(decide (1<=mx)&&decide (mx<=32)&&decide (mn<=mx))):=by
   have h1:0<=mn:=by omega
   have h2:mn<=32:=by omega
   have h3:0<=md:=by omega
   have h4:md<=2:=by omega
   simp[repG,h1,h2,h3,h4]
  rw[e];simp +contextual (disch:=omega) only[Tryz.f102,RZ,go_sem,simprocAttr,RS,↓AE,↓AC,↓AB,↓AA];repeat' (first|intro _|apply And.intro|(unfold dOk;kernel_rfl)|exact St.beq_refl _|exact AQ|(show altO _ _ _ _=true;kernel_rfl)|(show (_||_)=true;kernel_rfl)|(show (_&&_)=true;kernel_rfl))
  all_goals (first|exact fzEq rfl rfl|refine fzEq rfl (congrArg AV.bool ?_))
  all_goals (rw[Bool.eq_iff_iff];simp<;>omega)
theorem f104 (caps top:Int) (ht:top<=1114111) (op:Int) (set:List (Int×Int)) (kids:List Re) (mn mx md n:Int) (neg:Bool) (hs:set.length<=1000000) (hk:kids.length<=1000000) (H:List MB) :
  call Pg pol1 72 [.pt (nodeL op set kids mn mx md n neg),I caps,I top] H=some (.bool (formedG caps top (.mk op set kids mn mx md n neg)),H):=by
 refine AR Tryz.func72 rfl rfl rfl rfl rfl rfl (fun _=>rfl) (by simp[AV.plain,AV.plainL,AF,AH]) rfl ?_ H;have h131:=f131 set top ht hs;have h132:=f132 op set kids mn mx md n neg;by_cases h0:op<0∨11<op
 ·have e:formedG caps top (.mk op set kids mn mx md n neg)=false:=by
   have:¬ (0<=op/\op<=11):=by omega
   simp only[formedG,Bool.and_eq_false_iff,decide_eq_false_iff_not];omega
  rw[e];simp +contextual (disch:=omega) only[Tryz.f72,dd72,go_sem,simprocAttr,mu72,↓AE,↓AC,↓AB,↓AA,h131,h132];repeat' (first|intro _|apply And.intro|(unfold dOk;kernel_rfl)|exact St.beq_refl _|exact AQ|(show altO _ _ _ _=true;kernel_rfl)|(show (_||_)=true;kernel_rfl)|(show (_&&_)=true;kernel_rfl))
  all_goals exact fzEq rfl rfl
 have hop:op=1∨op=4∨op=0∨op=2∨op=3∨op=5∨op=6∨op=7∨op=8∨op=9∨op=10∨op=11:=by omega
 clear h0;rcases hop with rfl|rfl|rfl|rfl|rfl|rfl|rfl|rfl|rfl|rfl|rfl|rfl
 ·cases hsp:spansG set top
  all_goals (
   rw[hsp]at h131;simp +contextual (disch:=omega) only[Tryz.f72,dd72,go_sem,simprocAttr,mu72,↓AE,↓AC,↓AB,↓AA,h131,h132];repeat' (first|intro _|apply And.intro|(unfold dOk;kernel_rfl)|exact St.beq_refl _|exact AQ|(show altO _ _ _ _=true;kernel_rfl)|(show (_||_)=true;kernel_rfl)|(show (_&&_)=true;kernel_rfl))
   all_goals (clear h131 h132;refine fzEq rfl (congrArg AV.bool ?_);first|(simp_all [formedG,kidsG];done)|(simp_all [formedG,kidsG];omega)))
 ·cases hrp:repG mn mx md
  all_goals (
   rw[hrp]at h132;simp +contextual (disch:=omega) only[Tryz.f72,dd72,go_sem,simprocAttr,mu72,↓AE,↓AC,↓AB,↓AA,h131,h132];repeat' (first|intro _|apply And.intro|(unfold dOk;kernel_rfl)|exact St.beq_refl _|exact AQ|(show altO _ _ _ _=true;kernel_rfl)|(show (_||_)=true;kernel_rfl)|(show (_&&_)=true;kernel_rfl))
   all_goals (clear h131 h132;refine fzEq rfl (congrArg AV.bool ?_);first|(simp_all [formedG,kidsG];done)|(simp_all [formedG,kidsG];omega)))
 all_goals (
  simp +contextual (disch:=omega) only[Tryz.f72,dd72,go_sem,simprocAttr,mu72,↓AE,↓AC,↓AB,↓AA,h131,h132];repeat' (first|intro _|apply And.intro|(unfold dOk;kernel_rfl)|exact St.beq_refl _|exact AQ|(show altO _ _ _ _=true;kernel_rfl)|(show (_||_)=true;kernel_rfl)|(show (_&&_)=true;kernel_rfl))
  all_goals (clear h131 h132;refine fzEq rfl (congrArg AV.bool ?_);first|(simp_all [formedG,kidsG,repG];done)|(simp_all [formedG,kidsG,repG];omega)))
end
section
theorem At {kids:List Re}{i:Nat}{k:Re} (h:kids[i]?=some k):(kids.map reAV)[i]?=some (reAV k):=by rw[List.getElem?_map,h];rfl
theorem f112:∀(N:Nat) (r:Re),r.wt<=N->r.wt<=1000000000->∀ H,call Pg pol1 57 [reAV r] H=some (I r.size,H)
 | 0,r,h,_,_=>by have:=r.wt_pos;omega
 | N+1,.mk op set kids mn mx md n neg,h,hN,H=>by
   have hkl:=Re.wtL_len kids;have hwt:1+set.length+Re.wtL kids=(Re.mk op set kids mn mx md n neg).wt:=by simp[Re.wt]
   have ih:=fun k (hk:k∈kids)=>f112 N k (by have:=Re.wtL_mem hk;omega) (by have:=Re.wtL_mem hk;omega);have hsz:=Re.sizeL_wt kids;rw[show reAV (.mk op set kids mn mx md n neg)=.agg (nodeL op set kids mn mx md n neg) from congrArg AV.agg Ab];refine AR Tryz.func57 rfl rfl rfl rfl rfl rfl (fun _=>rfl) (by simp[AV.plain,AV.plainL,AF,AH]) rfl ?_ H;simp +contextual (disch:=omega) only[Tryz.f57,dd57,go_sem,simprocAttr,mu57,↓AE,↓AC,↓AB,↓AA];refine AY (M:=(mskOf (pol1.mask 57) (pol1.gc 57) (pol1.acts 57) 0 3)) rfl kids.length (fun i=>(⟨21,[(4,I i),(3,I ((1+Re.sizeL (kids.take i):Nat):Int)),(1,.rf 0 1 0 0)],[.row 8 [.agg (nodeL op set kids mn mx md n neg)] 0]⟩:St)) (fun _=>True) ?_ ?_ trivial _ (by first|rfl|(refine BV (n:=1) (m:=⟨some [4,3,1],some 1,[]⟩) rfl rfl ?_ ?_ ?_<;>first|rfl|(simp[keepT,AV.underL,AV.under,MB.under,AD,AI,AW,AG,AF,AL,AM,-map_take,-map_replicate,-map_set,Re.sizeL,AH];done)|(simp[keepT,AV.underL,AV.under,MB.under,AD,AI,AW,AG,AF,AL,AM,-map_take,-map_replicate,-map_set,Re.sizeL,AH];omega)))
   ·intro i hi _;obtain⟨k,hk⟩:∃ k,kids[i]?=some k:=⟨_,getElem?_eq_getElem hi⟩;have hkm:=mem_of_getElem? hk;have ihk:=ih k hkm;have hle:=Re.sizeL_take hk;have hle2:=Re.sizeL_le (l:=kids) (i:=i+1);have hadd:((1+Re.sizeL (kids.take i):Nat):Int)+(k.size:Int)=((1+Re.sizeL (kids.take (i+1)):Nat):Int):=by omega
    have hl8:=AK k;have ht8:=AJ k;simp +contextual (disch:=omega) only[Tryz.f57,dd57,go_sem,simprocAttr,mu57,↓AE,↓AC,↓AB,↓AA,hk,ihk,hadd,hl8,ht8];exact(by first|rfl|(refine BV (n:=1) (m:=⟨some [4,3,1],some 1,[]⟩) rfl rfl ?_ ?_ ?_<;>first|rfl|(simp[keepT,AV.underL,AV.under,MB.under,AD,AI,AW,AG,AF,AL,AM,-map_take,-map_replicate,-map_set,AH];done)|(simp[keepT,AV.underL,AV.under,MB.under,AD,AI,AW,AG,AF,AL,AM,-map_take,-map_replicate,-map_set,AH];omega)))
   ·intro _;rw[List.take_length];simp +contextual (disch:=omega) only[Tryz.f57,dd57,go_sem,simprocAttr,mu57,↓AE,↓AC,↓AB,↓AA];exact fzEq rfl (by simp[Re.size])
theorem f113:∀(N:Nat) (r:Re),r.wt<=N->r.wt<=1000000000->∀ H,call Pg pol1 58 [reAV r] H=some (I r.depth,H)
 | 0,r,h,_,_=>by have:=r.wt_pos;omega
 | N+1,.mk op set kids mn mx md n neg,h,hN,H=>by
   have hkl:=Re.wtL_len kids;have hwt:1+set.length+Re.wtL kids=(Re.mk op set kids mn mx md n neg).wt:=by simp[Re.wt]
   have ih:=fun k (hk:k∈kids)=>f113 N k (by have:=Re.wtL_mem hk;omega) (by have:=Re.wtL_mem hk;omega);have hsz:=Re.sizeL_wt kids;have hdz:=Re.depthL_size kids;rw[show reAV (.mk op set kids mn mx md n neg)=.agg (nodeL op set kids mn mx md n neg) from congrArg AV.agg Ab];refine AR Tryz.func58 rfl rfl rfl rfl rfl rfl (fun _=>rfl) (by simp[AV.plain,AV.plainL,AF,AH]) rfl ?_ H;simp +contextual (disch:=omega) only[Tryz.f58,dd58,go_sem,simprocAttr,mu58,↓AE,↓AC,↓AB,↓AA];refine AY (M:=(mskOf (pol1.mask 58) (pol1.gc 58) (pol1.acts 58) 0 3)) rfl kids.length (fun i=>(⟨22,[(4,I i),(3,I ((Re.depthL (kids.take i):Nat):Int)),(1,.rf 0 1 0 0)],[.row 8 [.agg (nodeL op set kids mn mx md n neg)] 0]⟩:St)) (fun _=>True) ?_ ?_ trivial _ (by first|rfl|(refine BV (n:=1) (m:=⟨some [4,3,1],some 1,[]⟩) rfl rfl ?_ ?_ ?_<;>first|rfl|(simp[keepT,AV.underL,AV.under,MB.under,AD,AI,AW,AG,AF,AL,AM,-map_take,-map_replicate,-map_set,Re.depthL,AH];done)|(simp[keepT,AV.underL,AV.under,MB.under,AD,AI,AW,AG,AF,AL,AM,-map_take,-map_replicate,-map_set,Re.depthL,AH];omega)))
   ·intro i hi _;obtain⟨k,hk⟩:∃ k,kids[i]?=some k:=⟨_,getElem?_eq_getElem hi⟩;have hkm:=mem_of_getElem? hk;have ihk:=ih k hkm;have hle:=Re.depthL_take hk;have hadd:(if(k.depth:Int) > (Re.depthL (kids.take i):Nat) then(k.depth:Int) else(Re.depthL (kids.take i):Nat))=((Re.depthL (kids.take (i+1)):Nat):Int):=by rw[hle];split<;>omega
    have hl8:=AK k;have ht8:=AJ k;simp +contextual (disch:=omega) only[Tryz.f58,dd58,go_sem,simprocAttr,mu58,↓AE,↓AC,↓AB,↓AA,hk,ihk,evMax,hadd,hl8,ht8];exact(by first|rfl|(refine BV (n:=1) (m:=⟨some [4,3,1],some 1,[]⟩) rfl rfl ?_ ?_ ?_<;>first|rfl|(simp[keepT,AV.underL,AV.under,MB.under,AD,AI,AW,AG,AF,AL,AM,-map_take,-map_replicate,-map_set,AH];done)|(simp[keepT,AV.underL,AV.under,MB.under,AD,AI,AW,AG,AF,AL,AM,-map_take,-map_replicate,-map_set,AH];omega)))
   ·intro _;rw[List.take_length];simp +contextual (disch:=omega) only[Tryz.f58,dd58,go_sem,simprocAttr,mu58,↓AE,↓AC,↓AB,↓AA];exact fzEq rfl (by simp[Re.depth];omega)
end
section
theorem C0:∀ {l:List Re}{k:Re},k∈l->nullG k=false->nullAll l=false
 | x::l,k,h,hk=>by
   rcases mem_cons.1 h with e|e
   ·rw[<- e];simp[nullAll,hk]
   ·simp[nullAll,C0 e hk]
theorem DR:∀ {l:List Re},(∀(i:Nat) (k:Re),i<l.length->l[i]?=some k->nullG k=true)->nullAll l=true
 | [],_=>by simp[nullAll]
 | x::l,h=>by
   simp only[nullAll,Bool.and_eq_true];exact⟨h 0 x (by simp) rfl,DR fun i k hi hk=>h (i+1) k (by simp;omega) (by simpa using hk)⟩
theorem Cb:∀ {l:List Re}{k:Re},k∈l->nullG k=true->nullAny l=true
 | x::l,k,h,hk=>by
   rcases mem_cons.1 h with e|e
   ·rw[<- e];simp[nullAny,hk]
   ·simp[nullAny,Cb e hk]
theorem Cz:∀ {l:List Re},(∀(i:Nat) (k:Re),i<l.length->l[i]?=some k->nullG k=false)->nullAny l=false
 | [],_=>by simp[nullAny]
 | x::l,h=>by
   simp only[nullAny,Bool.or_eq_false_iff];exact⟨h 0 x (by simp) rfl,Cz fun i k hi hk=>h (i+1) k (by simp;omega) (by simpa using hk)⟩
theorem f20:∀(N:Nat) (r:Re),r.wt<=N->r.wt<=1000000->∀ H,call Pg pol1 37 [reAV r] H=some (.bool (nullG r),H)
 | 0,r,h,_,_=>by have:=r.wt_pos;omega
 | N+1,.mk op set kids mn mx md n neg,h,hN,H=>by
   have hkl:=Re.wtL_len kids;have hwt:1+set.length+Re.wtL kids=(Re.mk op set kids mn mx md n neg).wt:=by simp[Re.wt]
   have ih:=fun k (hk:k∈kids)=>f20 N k (by have:=Re.wtL_mem hk;omega) (by have:=Re.wtL_mem hk;omega);rw[show reAV (.mk op set kids mn mx md n neg)=.agg (nodeL op set kids mn mx md n neg) from congrArg AV.agg Ab];refine AR Tryz.func37 rfl rfl rfl rfl rfl rfl (fun _=>rfl) (by simp[AV.plain,AV.plainL,AF,AH]) rfl ?_ H;rw[nullG];by_cases h1:op=1
   ·subst h1;rw[if_pos rfl];simp +contextual (disch:=omega) only[Tryz.f37,dd37,go_sem,simprocAttr,mu37,↓AE,↓AC,↓AB,↓AA];exact fzEq rfl rfl
   rw[if_neg h1];by_cases h2:op=2
   ·subst h2;rw[if_pos rfl];simp +contextual (disch:=omega) only[Tryz.f37,dd37,go_sem,simprocAttr,mu37,↓AE,↓AC,↓AB,↓AA];refine AY (M:=(mskOf (pol1.mask 37) (pol1.gc 37) (pol1.acts 37) 0 6)) rfl kids.length (fun i=>(⟨73,[(3,I i),(1,.rf 0 1 0 0)],[.row 8 [.agg (nodeL 2 set kids mn mx md n neg)] 0]⟩:St)) (fun i=>∀ j k,j<i->kids[j]?=some k->nullG k=true) ?_ ?_ (fun j k h=>by omega) _ (by first|rfl|(refine BV (n:=1) (m:=⟨some [3,1],some 1,[]⟩) rfl rfl ?_ ?_ ?_<;>first|rfl|(simp[keepT,AV.underL,AV.under,MB.under,AD,AI,AW,AG,AF,AL,AM,-map_take,-map_replicate,-map_set,AH];done)|(simp[keepT,AV.underL,AV.under,MB.under,AD,AI,AW,AG,AF,AL,AM,-map_take,-map_replicate,-map_set,AH];omega)))
    ·intro i hi hg;obtain⟨k,hk⟩:∃ k,kids[i]?=some k:=⟨_,getElem?_eq_getElem hi⟩;have ihk:=ih k (mem_of_getElem? hk);have hl8:=AK k;have ht8:=AJ k;cases hn:nullG k with
     | false=>
       rw[hn]at ihk;rw[C0 (mem_of_getElem? hk) hn];simp +contextual (disch:=omega) only[Tryz.f37,dd37,go_sem,simprocAttr,mu37,↓AE,↓AC,↓AB,↓AA,hk,ihk,hl8,ht8];exact fzEq rfl rfl
     | true=>
       rw[hn]at ihk;simp +contextual (disch:=omega) only[Tryz.f37,dd37,go_sem,simprocAttr,mu37,↓AE,↓AC,↓AB,↓AA,hk,ihk,hl8,ht8];refine⟨fun j q hj hq=>?_,(by first|rfl|(refine BV (n:=1) (m:=⟨some [3,1],some 1,[]⟩) rfl rfl ?_ ?_ ?_<;>first|rfl|(simp[keepT,AV.underL,AV.under,MB.under,AD,AI,AW,AG,AF,AL,AM,-map_take,-map_replicate,-map_set,AH];done)|(simp[keepT,AV.underL,AV.under,MB.under,AD,AI,AW,AG,AF,AL,AM,-map_take,-map_replicate,-map_set,AH];omega)))⟩;rcases lt_or_ge j i with h|h
       ·exact hg j q h hq
       ·obtain rfl:j=i:=by omega
        rw[hk]at hq;obtain rfl:=Option.some.inj hq;exact hn
    ·intro hg;rw[DR fun j k hj hk=>hg j k hj hk];simp +contextual (disch:=omega) only[Tryz.f37,dd37,go_sem,simprocAttr,mu37,↓AE,↓AC,↓AB,↓AA];exact fzEq rfl rfl
   rw[if_neg h2];by_cases h3:op=3∨op=10
   ·rw[if_pos h3];rcases h3 with rfl|rfl
    all_goals (
     simp +contextual (disch:=omega) only[Tryz.f37,dd37,go_sem,simprocAttr,mu37,↓AE,↓AC,↓AB,↓AA];refine AY (M:=(mskOf (pol1.mask 37) (pol1.gc 37) (pol1.acts 37) 0 14)) rfl kids.length (fun i=>(⟨73,[(4,I i),(1,.rf 0 1 0 0)],[.row 8 [.agg (nodeL _ set kids mn mx md n neg)] 0]⟩:St)) (fun i=>∀ j k,j<i->kids[j]?=some k->nullG k=false) ?_ ?_ (fun j k h=>by omega) _ (by first|rfl|(refine BV (n:=1) (m:=⟨some [4,1],some 1,[]⟩) rfl rfl ?_ ?_ ?_<;>first|rfl|(simp[keepT,AV.underL,AV.under,MB.under,AD,AI,AW,AG,AF,AL,AM,-map_take,-map_replicate,-map_set,AH];done)|(simp[keepT,AV.underL,AV.under,MB.under,AD,AI,AW,AG,AF,AL,AM,-map_take,-map_replicate,-map_set,AH];omega)))
     ·intro i hi hg;obtain⟨k,hk⟩:∃ k,kids[i]?=some k:=⟨_,getElem?_eq_getElem hi⟩;have ihk:=ih k (mem_of_getElem? hk);have hl8:=AK k;have ht8:=AJ k;cases hn:nullG k with
      | true=>
        rw[hn]at ihk;rw[Cb (mem_of_getElem? hk) hn];simp +contextual (disch:=omega) only[Tryz.f37,dd37,go_sem,simprocAttr,mu37,↓AE,↓AC,↓AB,↓AA,hk,ihk,hl8,ht8];exact fzEq rfl rfl
      | false=>
        rw[hn]at ihk;simp +contextual (disch:=omega) only[Tryz.f37,dd37,go_sem,simprocAttr,mu37,↓AE,↓AC,↓AB,↓AA,hk,ihk,hl8,ht8];refine⟨fun j q hj hq=>?_,(by first|rfl|(refine BV (n:=1) (m:=⟨some [4,1],some 1,[]⟩) rfl rfl ?_ ?_ ?_<;>first|rfl|(simp[keepT,AV.underL,AV.under,MB.under,AD,AI,AW,AG,AF,AL,AM,-map_take,-map_replicate,-map_set,AH];done)|(simp[keepT,AV.underL,AV.under,MB.under,AD,AI,AW,AG,AF,AL,AM,-map_take,-map_replicate,-map_set,AH];omega)))⟩;rcases lt_or_ge j i with h|h
        ·exact hg j q h hq
        ·obtain rfl:j=i:=by omega
         rw[hk]at hq;obtain rfl:=Option.some.inj hq;exact hn
     ·intro hg;rw[Cz fun j k hj hk=>hg j k hj hk];simp +contextual (disch:=omega) only[Tryz.f37,dd37,go_sem,simprocAttr,mu37,↓AE,↓AC,↓AB,↓AA];exact fzEq rfl rfl)
   rw[if_neg h3];by_cases h4:op=4
   ·subst h4;rw[if_pos rfl];by_cases hm:mn<=0
    ·simp +contextual (disch:=omega) only[Tryz.f37,dd37,go_sem,simprocAttr,mu37,↓AE,↓AC,↓AB,↓AA];exact fzEq rfl (by simp[hm])
    ·cases kids with
     | nil=>
       simp +contextual (disch:=omega) only[Tryz.f37,dd37,go_sem,simprocAttr,mu37,↓AE,↓AC,↓AB,↓AA];exact fzEq rfl (by simp[hm,nullHd])
     | cons k ks=>
       have ihk:=ih k (List.mem_cons_self ..);have hl8:=AK k;have ht8:=AJ k;simp only[List.length_cons]at hkl;simp +contextual (disch:=omega) only[Tryz.f37,dd37,go_sem,simprocAttr,mu37,↓AE,↓AC,↓AB,↓AA,ihk,hl8,ht8];exact fzEq rfl (by simp[hm,nullHd])
   rw[if_neg h4];by_cases h5:op=5∨op=9
   ·rw[if_pos h5];rcases h5 with rfl|rfl
    all_goals (
     cases kids with
     | nil=>
       simp +contextual (disch:=omega) only[Tryz.f37,dd37,go_sem,simprocAttr,mu37,↓AE,↓AC,↓AB,↓AA];exact fzEq rfl (by simp[nullHd])
     | cons k ks=>
       have ihk:=ih k (List.mem_cons_self ..);have hl8:=AK k;have ht8:=AJ k;simp only[List.length_cons]at hkl;simp +contextual (disch:=omega) only[Tryz.f37,dd37,go_sem,simprocAttr,mu37,↓AE,↓AC,↓AB,↓AA,ihk,hl8,ht8];exact fzEq rfl (by simp[nullHd]))
   rw[if_neg h5];simp +contextual (disch:=omega) only[Tryz.f37,dd37,go_sem,simprocAttr,mu37,↓AE,↓AC,↓AB,↓AA];exact fzEq rfl rfl
end
end Go.Ev
