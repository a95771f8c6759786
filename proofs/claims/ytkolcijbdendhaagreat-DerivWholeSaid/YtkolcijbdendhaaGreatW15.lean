/- The normal form of spans: plain. -/
import Derived.Test.YtkolcijbdendhaaGreatW14
set_option linter.unusedVariables false
set_option linter.unusedSimpArgs false
open List (any_eq_true append_assoc append_nil cons_append getElem?_eq_getElem length_nil map_cons map_replicate map_set map_take mem_append mem_cons mem_cons_of_mem mem_filter mem_flatMap mem_map mem_singleton nil_append pairwise_cons take_add_one)
open Nat (le_refl lt_or_ge)
open Go.Proofs Go.RowKit Go.IntWalk
set_option maxHeartbeats 4000000
set_option maxRecDepth 100000
namespace Go.Ev
theorem Bk (a b:List (Int×Int)) (x:Int):hasSpan (a++b) x=(hasSpan a x||hasSpan b x):=by simp[hasSpan]
theorem JU {a b:List (Int×Int)} (h:a.Perm b) (x:Int):hasSpan a x=hasSpan b x:=by
 rw[Bool.eq_iff_iff];simp only[hasSpan,any_eq_true];exact⟨fun⟨p,hp,hx⟩=>⟨p,h.mem_iff.1 hp,hx⟩,fun⟨p,hp,hx⟩=>⟨p,h.mem_iff.2 hp,hx⟩⟩
def goodS (p:Int×Int):Prop:=0<=p.1/\p.1<=p.2/\p.2<=1114111
structure SetOk (s O:List (Int×Int)):Prop where
 sep:O.Pairwise fun p q=>p.2+2<=q.1
 good:∀ p∈O,goodS p
 has:∀ x,hasSpan O x=hasSpan s x
 len:O.length<=s.length
 last:∀ q,O.getLast?=some q->∃ p∈s,p.1=q.1
theorem SetOk.nil:SetOk [] []:=⟨.nil,fun _ h=>by simp at h,fun _=>rfl,le_refl _,fun _ h=>by simp at h⟩
theorem SetOk.add {s O:List (Int×Int)} (h:SetOk s O) {p:Int×Int} (hg:goodS p) (hle:∀ q∈s,q.1<=p.1):SetOk (s++[p]) (addI O p):=by
 obtain⟨hg0,hg1,hg2⟩:=hg;rcases List.eq_nil_or_concat O with rfl|⟨O',q,rfl⟩
 ·rw[DA];have h0:=h.has;refine⟨List.pairwise_singleton _ _,fun r hr=>by rw[mem_singleton.1 hr];exact⟨hg0,hg1,hg2⟩,fun x=>?_,by simp,fun q hq=>⟨p,by simp,by simp at hq;rw[hq]⟩⟩;rw[Bk,<- h0 x];simp[hasSpan]
 ·rw[List.concat_eq_append]at *;obtain⟨p0,hp0,e0⟩:=h.last q (by simp);have hqp:=hle p0 hp0;have hgq:=h.good q (by simp);obtain⟨k1,k2,k3⟩:=hgq;have hsep:=List.pairwise_append.1 h.sep;rw[CJ];split
  ·rename_i hm;refine⟨List.pairwise_append.2 ⟨hsep.1,List.pairwise_singleton _ _,fun a ha b hb=>?_⟩,fun r hr=>?_,fun x=>?_,?_,fun r hr=>⟨p0,by simp[hp0],by simp at hr;rw[<- hr];exact e0⟩⟩
   ·rw[mem_singleton.1 hb];exact hsep.2.2 a ha q (by simp)
   ·rcases mem_append.1 hr with hr|hr
    ·exact h.good r (by simp[hr])
    ·rw[mem_singleton.1 hr];exact⟨k1,by show q.1<=max q.2 p.2;omega,by show max q.2 p.2<=_;omega⟩
   ·have:=h.has x;rw[Bk]at this |-;rw[Bk,<- this,Bool.or_assoc];congr 1;rw[Bool.eq_iff_iff];simp[hasSpan];omega
   ·have:=h.len;simp at this |-;omega
  ·rename_i hm;refine⟨List.pairwise_append.2 ⟨h.sep,List.pairwise_singleton _ _,fun a ha b hb=>?_⟩,fun r hr=>?_,fun x=>?_,?_,fun r hr=>⟨p,by simp,by simp at hr;rw[hr]⟩⟩
   ·rw[mem_singleton.1 hb];rcases mem_append.1 ha with ha|ha
    ·have:=hsep.2.2 a ha q (by simp);omega
    ·rw[mem_singleton.1 ha];omega
   ·rcases mem_append.1 hr with hr|hr
    ·exact h.good r hr
    ·rw[mem_singleton.1 hr];exact⟨hg0,hg1,hg2⟩
   ·rw[Bk,h.has x,Bk]
   ·have:=h.len;simp at this |-;omega
def foldI (s:List (Int×Int)):List (Int×Int):=s.foldl addI []
theorem G4 (s:List (Int×Int)) (p:Int×Int):foldI (s++[p])=addI (foldI s) p:=by simp[foldI]
theorem Lk {s:List (Int×Int)}{i:Nat}{p:Int×Int} (h:s[i]?=some p):foldI (s.take (i+1))=addI (foldI (s.take i)) p:=by
 rw[take_add_one,h];exact G4 _ _
theorem Kb {s:List (Int×Int)} (hs:s.Pairwise fun p q=>p.1<=q.1) (hg:∀ p∈s,goodS p):∀ i,i<=s.length->SetOk (s.take i) (foldI (s.take i)):=by
 intro i
 induction i with
 | zero=>intro _;exact SetOk.nil
 | succ i ih=>
   intro hi;obtain⟨p,hp⟩:∃ p,s[i]?=some p:=⟨_,getElem?_eq_getElem (by omega)⟩;have hpm:=List.mem_of_getElem? hp;have:=(ih (by omega)).add (p:=p) (hg p hpm) (fun q hq=>by
    obtain⟨k,hk,e⟩:=List.getElem_of_mem hq;simp at hk e;have h1:=List.pairwise_iff_getElem.1 hs k i (by omega) (by omega) (by omega);rw[(List.getElem?_eq_some_iff.1 hp).2,e]at h1;exact h1)
   rw[take_add_one,hp]
   simpa [G4] using this
def normL (s:List (Int×Int)):List (Int×Int):=foldI (sortE s)
theorem G2 {s:List (Int×Int)} (hg:∀ p∈s,goodS p):∀ x∈s,Small x:=fun x hx=>by
 have:=hg x hx;unfold goodS at this;unfold Small;omega
theorem Cc {s:List (Int×Int)} (hg:∀ p∈s,goodS p):SetOk (sortE s) (normL s)/\(∀ x,hasSpan (normL s) x=hasSpan s x)/\(normL s).length<=s.length:=by
 have hsm:=G2 hg;have hp:=DF hsm;have h:=Kb (DE s) (fun p hp2=>hg p (hp.mem_iff.1 hp2)) (sortE s).length (le_refl _);rw[List.take_length]at h;refine⟨h,fun x=>?_,?_⟩
 ·rw[normL,h.has x];exact JU hp x
 ·have:=h.len;rw[hp.length_eq]at this;exact this
theorem KC {l:List (Int×Int)} (hs:l.Pairwise fun p q=>p.2+2<=q.1) (hg:∀ p∈l,goodS p) (hl:l.length<=64):refSpans l=0:=by
 have hb:∀ i,i<l.length->badAt l i=false:=fun i hi=>by
  have e:=getElem?_eq_getElem hi;have:=hg _ (List.getElem_mem hi);unfold goodS at this;unfold badAt;rw[e];simp only[Bool.or_eq_false_iff,Bool.not_eq_false',decide_eq_true_eq];refine⟨⟨this.1,this.2.1,this.2.2⟩,?_⟩;cases i with
  | zero=>rfl
  | succ k=>
    have e2:=getElem?_eq_getElem (show k<l.length by omega);simp only[e2];have:=List.pairwise_iff_getElem.1 hs k (k+1) (by omega) hi (by omega);simp;omega
 unfold refSpans;rw[if_neg,if_neg (by omega)];simp only[any_eq_true,List.mem_range,not_exists,not_and,Bool.not_eq_true];exact hb
end Go.Ev
namespace Go.Ev
theorem Bj {s:List (Int×Int)}{x:Int}:hasSpan s x=true↔∃ p∈s,p.1<=x/\x<=p.2:=by
 unfold hasSpan;rw[any_eq_true];constructor
 ·rintro⟨p,h1,h2⟩;exact⟨p,h1,by simpa using h2⟩
 ·rintro⟨p,h1,h2⟩;exact⟨p,h1,by simpa using h2⟩
structure NormS (s:List (Int×Int)):Prop where
 gap:s.Pairwise fun p q=>p.2+1<q.1
 val:∀ p∈s,p.1<=p.2
theorem NormS.tail {p:Int×Int}{s:List (Int×Int)} (h:NormS (p::s)):NormS s:=⟨(pairwise_cons.1 h.gap).2,fun q hq=>h.val q (by simp[hq])⟩
theorem Av {p:Int×Int}{s:List (Int×Int)}{x:Int}:hasSpan (p::s) x=true↔(p.1<=x/\x<=p.2)∨hasSpan s x=true:=by
 rw[Bj,Bj];constructor
 ·rintro⟨q,hq,h⟩;rcases mem_cons.1 hq with e|e
  ·subst e;exact .inl h
  ·exact .inr ⟨q,e,h⟩
 ·rintro(h|⟨q,hq,h⟩)
  ·exact⟨p,by simp,h⟩
  ·exact⟨q,by simp[hq],h⟩
theorem NormS.above {p:Int×Int}{s:List (Int×Int)} (h:NormS (p::s)) {x:Int} (hx:hasSpan s x=true):p.2+1<x:=by
 obtain⟨q,hq,h1,h2⟩:=Bj.1 hx;have:=(pairwise_cons.1 h.gap).1 q hq;omega
theorem E5:∀ {s t:List (Int×Int)},NormS s->NormS t->(∀ x,hasSpan s x=true↔hasSpan t x=true)->s=t
 | [],[],_,_,_=>rfl
 | [],q::t,_,ht,h=>by
   have:=(h q.1).2 (Av.2 (.inl ⟨Int.le_refl _,ht.val q (by simp)⟩));cases this
 | p::s,[],hs,_,h=>by
   have:=(h p.1).1 (Av.2 (.inl ⟨Int.le_refl _,hs.val p (by simp)⟩));cases this
 | p::s,q::t,hs,ht,h=>by
   have vp:=hs.val p (by simp);have vq:=ht.val q (by simp);have lo:∀ {a b:Int×Int}{u v:List (Int×Int)},NormS (a::u)->NormS (b::v)->(hasSpan (b::v) a.1=true)->b.1<=a.1:=by
    intro a b u v h1 h2 h3;have:=h2.val b (by simp);rcases Av.1 h3 with h4|h4
    ·exact h4.1
    ·have:=h2.above h4;omega
   have e1:p.1=q.1:=by
    have a1:=lo hs ht ((h p.1).1 (Av.2 (.inl ⟨Int.le_refl _,vp⟩)));have a2:=lo ht hs ((h q.1).2 (Av.2 (.inl ⟨Int.le_refl _,vq⟩)));omega
   have e2:p.2=q.2:=by
    rcases Int.lt_trichotomy p.2 q.2 with g|g|g
    ·exfalso;have:=(h (p.2+1)).2 (Av.2 (.inl ⟨by omega,by omega⟩));rcases Av.1 this with h4|h4
     ·omega
     ·have:=hs.above h4;omega
    ·exact g
    ·exfalso;have:=(h (q.2+1)).1 (Av.2 (.inl ⟨by omega,by omega⟩));rcases Av.1 this with h4|h4
     ·omega
     ·have:=ht.above h4;omega
   have e3:s=t:=E5 hs.tail ht.tail fun x=>by
    constructor
    ·intro hx;have g:=hs.above hx;rcases Av.1 ((h x).1 (Av.2 (.inr hx))) with h4|h4
     ·omega
     ·exact h4
    ·intro hx;have g:=ht.above hx;rcases Av.1 ((h x).2 (Av.2 (.inr hx))) with h4|h4
     ·omega
     ·exact h4
   rw[e3,show p=q from Prod.ext e1 e2]
theorem Dr {s:Spans} (h:s.Pairwise fun p q=>p.2+2<=q.1) (hg:∀ p∈s,p.1<=p.2):NormS s:=⟨h.imp fun h=>by omega,hg⟩
theorem AW {α:Type}{s:List α}{k:Nat}{p:α} (h:s[k]?=some p):s.take (k+1)=s.take k++[p]:=by
 rw[take_add_one,h];rfl
section
variable {L:List Spans}{E:List Int}{top:Int}
abbrev Sy (top x:Int):Prop:=0<=x/\x<=top
theorem KF (h:EndsOk top E) {x:Int} (h0:0<=x):∀ n,n<=E.length->x<lastP E top n->∃ k,k<n/\lastP E top k<=x/\x<lastP E top (k+1)
 | 0,_,hx=>by
   rw[BM h.first]at hx;omega
 | n+1,hn,hx=>by
   rcases Int.lt_or_le x (lastP E top n) with h1|h1
   ·obtain⟨k,a,b⟩:=KF h h0 n (by omega) h1;exact⟨k,by omega,b⟩
   ·exact⟨n,by omega,h1,hx⟩
theorem OU (h:EndsOk top E) {x:Int} (hx:Sy top x):∃ k,k<E.length/\lastP E top k<=x/\x<lastP E top (k+1):=
 KF h hx.1 E.length (le_refl _) (by rw[B3 (le_refl _)];have:=hx.2;omega)
theorem Kj (h:EndsOk top E) {k:Nat}{e:Int} (he:e∈E) (hk:lastP E top k<e):lastP E top (k+1)<=e:=by
 obtain⟨j,hj⟩:=List.getElem?_of_mem he;have hjl:=(List.getElem?_eq_some_iff.1 hj).1;have e1:=BM (top:=top) hj;rcases Nat.lt_trichotomy j k with g|g|g
 ·rcases lt_or_ge k E.length with g2|g2
  ·have:=h.mono g (by omega);omega
  ·have:=(h.le e he).2;rw[B3 g2]at hk;omega
 ·subst g;omega
 ·rcases Nat.lt_or_eq_of_le (show k+1<=j from g) with g2|g2
  ·have:=h.mono g2 (by omega);omega
  ·rw[g2];omega
def rawOf (col:Nat->List Bool) (pc:Nat->Int×Int) (c:List Bool):Nat->Spans
 | 0=>[]
 | n+1=>if col n=c then rawOf col pc c n++[pc n] else rawOf col pc c n
theorem Ds {col:Nat->List Bool}{pc:Nat->Int×Int}{c:List Bool}{p:Int×Int}:∀ {n:Nat},p∈rawOf col pc c n↔∃ k,k<n/\col k=c/\pc k=p
 | 0=>by simp[rawOf]
 | n+1=>by
   have ih:=Ds (col:=col) (pc:=pc) (c:=c) (p:=p) (n:=n);rw[rawOf];split
   ·rename_i hc;rw[mem_append,ih,mem_singleton];constructor
    ·rintro(⟨k,a,b⟩|rfl)
     ·exact⟨k,by omega,b⟩
     ·exact⟨n,by omega,hc,rfl⟩
    ·rintro⟨k,a,b,d⟩;rcases lt_or_ge k n with g|g
     ·exact .inl ⟨k,g,b,d⟩
     ·obtain rfl:k=n:=by omega
      exact .inr d.symm
   ·rename_i hc;rw[ih];constructor
    ·rintro⟨k,a,b⟩;exact⟨k,by omega,b⟩
    ·rintro⟨k,a,b,d⟩;rcases lt_or_ge k n with g|g
     ·exact⟨k,g,b,d⟩
     ·obtain rfl:k=n:=by omega
      exact absurd b hc
theorem Me (h:EndsOk top E) (htp:top<=1114111) (col:Nat->List Bool) (c:List Bool):∀ n,n<=E.length->SetOk (rawOf col (pieceA E top) c n) (clsOf col (pieceA E top) c n)
 | 0,_=>.nil
 | n+1,hn=>by
   have ih:=Me h htp col c n (by omega);rw[rawOf,clsOf];split
   ·have hst:=h.step (k:=n) (by omega);refine ih.add ⟨hst.2.1,by simp only[pieceA];omega,by simp only[pieceA];omega⟩ fun q hq=>?_;obtain⟨k,hk,_,rfl⟩:=Ds.1 hq;have:=h.mono hk (by omega);simp only[pieceA];omega
   ·exact ih
end
theorem BK (l:List Bool):AV.plainL (l.map AV.bool)=true:=by
 induction l with
 | nil=>rfl
 | cons a l ih=>simp[AV.plainL,AV.plain,ih]
theorem RL {H:List MB}{i n z:Nat}{rs:List Bool}{x:Bool}{t:Bool} (hi:getRow H i=some (1,rs.map AV.bool,z)) (hz:z<=n) (hn:rs.length=n) (hr:n+1<=4000000000) :
  evAppend Pg H 35 35 (.ms i 1 n 0 n) (.sl t [.bool x])=some (.ms i 1 (n+1) 0 (n+1),H.set i (.row 1 ((rs++[x]).map AV.bool) z)):=by
 have hs:srcElems Pg H 4 (.sl t [.bool x])=some [.bool x]:=rfl;rw[Ah (e:=4) (by kernel_rfl) (by kernel_rfl) (k:=1) (by kernel_rfl) (by_:=1) (by kernel_rfl) (ze:=.bool false) (by kernel_rfl) rfl (by omega) hs (by simp[AV.cells,AV.ok]) hi (by rw[List.length_map];exact hn) hz (Ad (by simp;omega) (by omega))];rw[List.map_append];rfl
end Go.Ev
namespace Go.Ev
abbrev emptyR:Re:=.mk 0 [] [] 0 0 0 0 false
abbrev setR (s:List (Int×Int)):Re:=.mk 1 s [] 0 0 0 0 false
abbrev nothR:Re:=setR []
def isNoth (r:Re):Bool:=decide (r.op=1)&&decide (r.set.length=0)
def joinR (op:Int) (l:List Re) (z:Re):Re:=match l with
 | []=>z
 | [x]=>x
 | x::y::l=>.mk op [] (x::y::l) 0 0 0 0 false
def flatR (op:Int) (l:List Re):List Re:=l.flatMap fun k=>if k.op=op then k.sub else [k]
theorem G6 {op:Int}{l:List Re}{k:Re}:flatR op (l++[k])=flatR op l++(if k.op=op then k.sub else [k]):=by
 simp[flatR]
theorem Ll {op:Int}{l:List Re}{i:Nat}{k:Re} (h:l[i]?=some k):flatR op (l.take (i+1))=flatR op (l.take i)++(if k.op=op then k.sub else [k]):=by
 rw[AW h,G6]
theorem Re.wtL_app:∀(a b:List Re),Re.wtL (a++b)=Re.wtL a+Re.wtL b
 | [],b=>by simp[Re.wtL]
 | k::ks,b=>by simp[Re.wtL,Re.wtL_app ks b];omega
theorem Re.wt_sub (r:Re):1+r.set.length+Re.wtL r.sub=r.wt:=by cases r;simp[Re.wt,Re.set,Re.sub]
theorem B4 (op:Int):∀ l:List Re,Re.wtL (flatR op l)<=Re.wtL l
 | []=>le_refl _
 | k::l=>by
   have ih:=B4 op l;have hs:=Re.wt_sub k;have e:flatR op (k::l)=(if k.op=op then k.sub else [k])++flatR op l:=by simp[flatR]
   rw[e,Re.wtL_app];split<;>simp only[Re.wtL]<;>omega
def catR (l:List Re):Re:=if(l.filter fun r=>!decide (r.op=0)).any isNoth then nothR else joinR 2 (l.filter fun r=>!decide (r.op=0)) emptyR
def spansOf (l:List Re):List (Int×Int):=l.flatMap fun k=>if k.op=1 then k.set else []
theorem EV {l:List Re}{i:Nat}{k:Re} (h:l[i]?=some k):spansOf (l.take (i+1))=spansOf (l.take i)++(if k.op=1 then k.set else []):=by
 rw[AW h];simp[spansOf]
def othersOf (l:List Re):List Re:=l.filter fun k=>!decide (k.op=1)
theorem D6 {l:List Re}{i:Nat}{k:Re} (h:l[i]?=some k):othersOf (l.take (i+1))=othersOf (l.take i)++(if k.op=1 then [] else [k]):=by
 rw[AW h];by_cases hk:k.op=1<;>simp[othersOf,hk]
def altBad (l:List Re):Bool:=decide (64<(normL (spansOf l)).length)
def altL (l:List Re):List Re:=othersOf l++(if altBad l=true∨normL (spansOf l)=[] then [] else [setR (normL (spansOf l))])
def altR (l:List Re):Re:=joinR 3 (putAll [] (altL l)) nothR
def repR (mn mx:Int) (k:Re):Re:=match k with
 | .mk op set kids kmn kmx md n neg=>
   if op=0∨(isNoth k=true/\mn=0) then emptyR else if isNoth k=true∨(op=4/\kmn=0/\kmx = -1)∨(mn=1/\mx=1) then k else .mk 4 [] [k] mn mx 0 0 false
def formN (op:Int) (set:List (Int×Int)) (ks:List Re) (mn mx:Int):Re:=
 if op=1 then setR set else if op=2 then catR (flatR 2 ks) else if op=3 then altR (flatR 3 ks) else if op=4 then repR mn mx (ks.headD emptyR) else if op=5 then ks.headD emptyR else emptyR
mutual
def nf:Re->Re
 | .mk op set kids mn mx md n neg=>formN op set (nfL kids) mn mx
def nfL:List Re->List Re
 | []=>[]
 | k::ks=>nf k::nfL ks
end
theorem Bd:∀ l:List Re,nfL l=l.map nf
 | []=>rfl
 | k::l=>by rw[nfL,Bd l];rfl
mutual
def badR:Re->Bool
 | .mk op set kids mn mx md n neg=>badRL kids||(decide (op=3)&&altBad (flatR 3 (nfL kids)))
def badRL:List Re->Bool
 | []=>false
 | k::ks=>badR k||badRL ks
end
theorem CI:∀ l:List Re,badRL l=l.any badR
 | []=>rfl
 | k::l=>by rw[badRL,CI l];rfl
theorem Cu:∀(n:Nat) (l:List Re),l.length<=n->l.Pairwise (fun a b=>cmpR a b<=0)->(compactR l).Pairwise ltR/\(∀ x,x∈compactR l↔x∈l)
 | _,[],_,_=>by simp[compactR]
 | _,[x],_,_=>by simp[compactR]
 | n+1,x::y::l,hl,h=>by
   obtain⟨h1,h2⟩:=pairwise_cons.1 h;obtain⟨h3,h4⟩:=pairwise_cons.1 h2;rw[compactR];split
   ·rename_i g;obtain rfl:=BW g;obtain⟨a1,a2⟩:=Cu n (x::l) (by simp at hl |-;omega) (pairwise_cons.2 ⟨h3,h4⟩);refine⟨a1,fun z=>?_⟩;rw[a2 z];simp
   ·rename_i g;obtain⟨a1,a2⟩:=Cu n (y::l) (by simp at hl |-;omega) h2;refine⟨pairwise_cons.2 ⟨fun z hz=>?_,a1⟩,fun z=>?_⟩
    ·have hxy:=h1 y (by simp);have lxy:ltR x y:=by
      unfold ltR;rcases B6 x y with e|e|e
      ·exact e
      ·exact absurd e g
      ·omega
     rcases mem_cons.1 ((a2 z).1 hz) with rfl|e
     ·exact lxy
     ·have hyz:=h3 z e;rcases B6 y z with e2|e2|e2
      ·exact CD lxy e2
      ·rw[<- BW e2];exact lxy
      ·omega
    ·rw[mem_cons,a2 z,mem_cons (a:=z) (b:=x)]
theorem Jm (l:List Re):compactR (sortR l)=putAll [] l:=by
 obtain⟨h1,h2⟩:=Cu _ (sortR l) (le_refl _) (EY l);refine Dm h1 (Bw (by simp)) fun x=>?_;rw[h2 x,B9,(DD l).mem_iff];simp
end Go.Ev
namespace Go.Ev
structure SetN (s:List (Int×Int)):Prop where
 sep:s.Pairwise fun p q=>p.2+2<=q.1
 good:∀ p∈s,goodS p
 len:s.length<=64
theorem SetN.nil:SetN []:=⟨.nil,fun p hp=>(by cases hp),Nat.zero_le _⟩
theorem SetN.normS {s:List (Int×Int)} (h:SetN s):NormS s:=Dr h.sep fun p hp=>(h.good p hp).2.1
theorem Br {s:List (Int×Int)} (h:SetN s):normL s=s:=by
 obtain⟨n1,n2,_⟩:=Cc h.good;exact E5 (Dr n1.sep fun p hp=>(n1.good p hp).2.1) h.normS fun x=>by rw[n2 x]
theorem LX {s:List (Int×Int)} (h:∀ p∈s,goodS p) (hl:(normL s).length<=64):SetN (normL s):=by
 obtain⟨n1,_,_⟩:=Cc h;exact⟨n1.sep,n1.good,hl⟩
inductive OkD:Re->Prop
 | empty:OkD emptyR
 | set (s:List (Int×Int)) (h:SetN s):OkD (setR s)
 | cat (kids:List Re) (h:∀ k∈kids,OkD k):OkD (.mk 2 [] kids 0 0 0 0 false)
 | alt (kids:List Re) (h:∀ k∈kids,OkD k):OkD (.mk 3 [] kids 0 0 0 0 false)
 | rep (k:Re) (mn mx md:Int) (h:OkD k) (h1:0<=mn/\mn<=32) (h2:mx = -1∨(1<=mx/\mx<=32/\mn<=mx)):OkD (.mk 4 [] [k] mn mx md 0 false)
 | cap (k:Re) (n:Int) (h:OkD k):OkD (.mk 5 [] [k] 0 0 0 n false)
def isStar:Re->Prop
 | .mk op _ _ mn mx _ _ _=>op=4/\mn=0/\mx = -1
inductive NF:Re->Prop
 | empty:NF emptyR
 | set (s:List (Int×Int)) (h:SetN s):NF (setR s)
 | cat (kids:List Re) (h2:2<=kids.length) (h:∀ k∈kids,NF k) (ho:∀ k∈kids,k.op≠0/\k.op≠2/\isNoth k=false):NF (.mk 2 [] kids 0 0 0 0 false)
 | alt (kids:List Re) (h2:2<=kids.length) (h:∀ k∈kids,NF k) (ho:∀ k∈kids,k.op≠3/\isNoth k=false) (hr:kids.Pairwise ltR) (hs:∀ k∈kids,k.op=1->k.set=spansOf kids):NF (.mk 3 [] kids 0 0 0 0 false)
 | rep (k:Re) (mn mx:Int) (h:NF k) (h0:k.op≠0) (hn:isNoth k=false) (hs:¬ isStar k) (hm:¬ (mn=1/\mx=1)) (h1:0<=mn/\mn<=32) (h2:mx = -1∨(1<=mx/\mx<=32/\mn<=mx)):NF (.mk 4 [] [k] mn mx 0 0 false)
theorem NF.op0 {r:Re} (h:NF r) (h0:r.op=0):r=emptyR:=by
 cases h<;>first|rfl|(simp[Re.op]at h0)
theorem NF.op1 {r:Re} (h:NF r) (h1:r.op=1):∃ s,SetN s/\r=setR s:=by
 cases h with
 | set s h=>exact⟨s,h,rfl⟩
 | _=>simp[Re.op]at h1
theorem Dt {r:Re} (h:NF r) (hn:isNoth r=true):r=nothR:=by
 simp only[isNoth,Bool.and_eq_true,decide_eq_true_eq]at hn;obtain⟨s,_,rfl⟩:=h.op1 hn.1;have:s=[]:=List.length_eq_zero_iff.1 hn.2;rw[this]
theorem C5 {op:Int}{l:List Re} (h:∀ k∈l,k.op≠op):flatR op l=l:=by
 induction l with
 | nil=>rfl
 | cons x l ih=>
   have:flatR op (x::l)=(if x.op=op then x.sub else [x])++flatR op l:=by simp[flatR]
   rw[this,if_neg (h x (by simp)),ih fun k hk=>h k (mem_cons_of_mem x hk)];rfl
theorem Il {op:Int}{l:List Re}{x:Re}:x∈flatR op l↔∃ k∈l,(k.op=op/\x∈k.sub)∨(k.op≠op/\x=k):=by
 unfold flatR;rw[mem_flatMap];constructor
 ·rintro⟨k,hk,h⟩;refine⟨k,hk,?_⟩;split at h
  ·rename_i e;exact .inl ⟨e,h⟩
  ·rename_i e;exact .inr ⟨e,mem_singleton.1 h⟩
 ·rintro⟨k,hk,⟨e,h⟩|⟨e,rfl⟩⟩
  ·exact⟨k,hk,by rw[if_pos e];exact h⟩
  ·exact⟨x,hk,by rw[if_neg e];simp⟩
theorem Jc {op:Int} (hop:op=2∨op=3) {l:List Re} (h:∀ k∈l,NF k):∀ x∈flatR op l,NF x/\x.op≠op:=fun x hx=>by
 obtain⟨k,hk,⟨e,hx'⟩|⟨e,rfl⟩⟩:=Il.1 hx
 ·have hn:=h k hk;cases hn with
  | empty=>simp[Re.op]at e;omega
  | set s _=>simp[Re.op]at e;omega
  | cat kids h2 h ho=>
    have:op=2:=by simpa [Re.op] using e.symm
    subst this;exact⟨h x hx',(ho x hx').2.1⟩
  | alt kids h2 h ho hr hs=>
    have:op=3:=by simpa [Re.op] using e.symm
    subst this;exact⟨h x hx',(ho x hx').1⟩
  | rep k mn mx _ _ _ _ _ _ _=>simp[Re.op]at e;omega
 ·exact⟨h x hk,e⟩
theorem Qp {l:List Re} (h:∀ x∈l,NF x/\x.op≠2):NF (catR l):=by
 unfold catR;split
 ·exact .set [] .nil
 ·rename_i hn;have hm:∀ x∈l.filter (fun r=>!decide (r.op=0)),NF x/\x.op≠2/\x.op≠0/\isNoth x=false:=fun x hx=>by
   obtain⟨h1,h2⟩:=mem_filter.1 hx;obtain⟨a,b⟩:=h x h1;refine⟨a,b,by simpa using h2,?_⟩;cases hx2:isNoth x with
   | false=>rfl
   | true=>exact absurd (any_eq_true.2 ⟨x,hx,hx2⟩) hn
  generalize l.filter (fun r=>!decide (r.op=0))=L at hm
  match L,hm with
  | [],_=>exact .empty
  | [x],hm=>exact(hm x (by simp)).1
  | x::y::l,hm=>exact .cat (x::y::l) (by simp) (fun k hk=>(hm k hk).1) fun k hk=>⟨(hm k hk).2.2.1,(hm k hk).2.1,(hm k hk).2.2.2⟩
theorem JE {l:List Re} (h:∀ x∈l,NF x):∀ p∈spansOf l,goodS p:=fun p hp=>by
 unfold spansOf at hp;obtain⟨k,hk,hp⟩:=mem_flatMap.1 hp;split at hp
 ·rename_i e;obtain⟨s,hs,rfl⟩:=(h k hk).op1 e;exact hs.good p hp
 ·cases hp
theorem EW {l:List Re} (h:∀ x∈l,x.op≠1):spansOf l=[]:=by
 unfold spansOf;rw[List.flatMap_eq_nil_iff];intro x hx;rw[if_neg (h x hx)]
theorem FZ {u:List (Int×Int)}:∀ {l:List Re},l.Pairwise ltR->(∀ k∈l,k.op=1->k=setR u)->∀ k∈l,k.op=1->k.set=spansOf l
 | x::l,hr,h,k,hk,h1=>by
   obtain⟨a1,a2⟩:=pairwise_cons.1 hr;have e:spansOf (x::l)=(if x.op=1 then x.set else [])++spansOf l:=by simp[spansOf]
   rw[e];by_cases hx:x.op=1
   ·have hx2:=h x (by simp) hx;have hno:∀ y∈l,y.op≠1:=fun y hy hy1=>by
     have:=h y (mem_cons_of_mem x hy) hy1;rw[<- hx2]at this;subst this;exact F9 (a1 _ hy)
    rw[if_pos hx,EW hno,append_nil];rw[h k hk h1,hx2]
   ·rw[if_neg hx,nil_append];rcases mem_cons.1 hk with rfl|hk
    ·exact absurd h1 hx
    ·exact FZ a2 (fun y hy=>h y (mem_cons_of_mem x hy)) k hk h1
theorem Qy {l:List Re} (h:∀ x∈l,NF x/\x.op≠3) (hb:altBad l=false):NF (altR l):=by
 have hg:=JE fun x hx=>(h x hx).1;have hlen:(normL (spansOf l)).length<=64:=by
  unfold altBad at hb;have:¬ 64<(normL (spansOf l)).length:=by simpa using hb
  omega
 have hN:=LX hg hlen;have hm:∀ x∈putAll [] (altL l),NF x/\x.op≠3/\isNoth x=false/\(x.op=1->x=setR (normL (spansOf l))):=fun x hx=>by
  rcases B9.1 hx with hx|hx
  ·cases hx
  unfold altL at hx;rcases mem_append.1 hx with hx|hx
  ·obtain⟨h1,h2⟩:=mem_filter.1 hx;have h3:x.op≠1:=by simpa using h2
   refine⟨(h x h1).1,(h x h1).2,?_,fun e=>absurd e h3⟩;simp[isNoth,h3]
  ·split at hx
   ·cases hx
   ·rename_i hc;rw[mem_singleton.1 hx];refine⟨.set _ hN,by simp[Re.op],?_,fun _=>rfl⟩;have:normL (spansOf l)≠[]:=fun e=>hc (.inr e);have:¬ (normL (spansOf l)).length=0:=fun e=>this (List.length_eq_zero_iff.1 e);simp[isNoth,Re.op,Re.set,this]
 have hri:(putAll [] (altL l)).Pairwise ltR:=Bw (by simp);unfold altR;generalize putAll [] (altL l)=L at hm hri
 match L,hm,hri with
 | [],_,_=>exact .set [] .nil
 | [x],hm,_=>exact(hm x (by simp)).1
 | x::y::l',hm,hri=>exact .alt (x::y::l') (by simp) (fun k hk=>(hm k hk).1) (fun k hk=>⟨(hm k hk).2.1,(hm k hk).2.2.1⟩) hri (FZ hri fun k hk=>(hm k hk).2.2.2)
theorem Pr {k:Re}{mn mx:Int} (h:NF k) (h1:0<=mn/\mn<=32) (h2:mx = -1∨(1<=mx/\mx<=32/\mn<=mx)):NF (repR mn mx k):=by
 obtain⟨op,set,kids,kmn,kmx,md,n,neg⟩:=k;simp only[repR];split
 ·exact .empty
 ·rename_i c1;split
  ·exact h
  ·rename_i c2;refine .rep _ mn mx h (fun e=>c1 (.inl e)) ?_ (fun e=>c2 (.inr (.inl e))) (fun e=>c2 (.inr (.inr e))) h1 h2;cases hn:isNoth (.mk op set kids kmn kmx md n neg) with
   | false=>rfl
   | true=>exact absurd (.inl hn) c2
theorem Dj {l:List Re} (h:badRL l=false):∀ k∈l,badR k=false:=fun k hk=>by
 rw[CI]at h
 simpa using List.any_eq_false.1 h k hk
theorem IR {t:Re} (h:OkD t):badR t=false->NF (nf t):=by
 induction h with
 | empty=>intro _;exact .empty
 | set s h=>intro _;exact .set s h
 | cat kids h ih=>
   intro hb;simp only[badR,Bool.or_eq_false_iff]at hb;have hk:∀ k∈nfL kids,NF k:=fun k hk=>by
    rw[Bd]at hk;obtain⟨k',hk',rfl⟩:=mem_map.1 hk;exact ih k' hk' (Dj hb.1 k' hk')
   have:=Qp (Jc (op:=2) (.inl rfl) hk)
   simpa [nf,formN] using this
 | alt kids h ih=>
   intro hb;simp only[badR,Bool.or_eq_false_iff]at hb;have hk:∀ k∈nfL kids,NF k:=fun k hk=>by
    rw[Bd]at hk;obtain⟨k',hk',rfl⟩:=mem_map.1 hk;exact ih k' hk' (Dj hb.1 k' hk')
   have:=Qy (Jc (op:=3) (.inr rfl) hk) (by simpa using hb.2)
   simpa [nf,formN] using this
 | rep k mn mx md h h1 h2 ih=>
   intro hb;simp only[badR,badRL,Bool.or_false,Bool.or_eq_false_iff]at hb;have:=Pr (ih hb.1) h1 h2
   simpa [nf,formN,nfL] using this
 | cap k n h ih=>
   intro hb;simp only[badR,badRL,Bool.or_false,Bool.or_eq_false_iff]at hb
   simpa [nf,formN,nfL] using ih hb.1
theorem G8 {l:List Re} (h:∀ k∈l,k.op≠0):l.filter (fun r=>!decide (r.op=0))=l:=by
 rw[List.filter_eq_self];intro a ha;simp[h a ha]
theorem Ic {op:Int}{l:List Re}{z:Re} (h:2<=l.length):joinR op l z=.mk op [] l 0 0 0 0 false:=by
 match l,h with
 | x::y::l,_=>rfl
theorem Qo {kids:List Re} (h2:2<=kids.length) (ho:∀ k∈kids,k.op≠0/\k.op≠2/\isNoth k=false):catR (flatR 2 kids)=.mk 2 [] kids 0 0 0 0 false:=by
 rw[C5 fun k hk=>(ho k hk).2.1];unfold catR;rw[G8 fun k hk=>(ho k hk).1,if_neg ?_,Ic h2];rw[any_eq_true];rintro⟨k,hk,h⟩;rw[(ho k hk).2.2]at h;cases h
theorem Mr {kids:List Re} (h:∀ k∈kids,NF k) (ho:∀ k∈kids,isNoth k=false) (hr:kids.Pairwise ltR) (hs:∀ k∈kids,k.op=1->k.set=spansOf kids):altBad kids=false/\putAll [] (altL kids)=kids:=by
 by_cases hset:∃ k∈kids,k.op=1
 ·obtain⟨k,hk,h1⟩:=hset;obtain⟨s,hN,rfl⟩:=(h k hk).op1 h1;have hsp:spansOf kids=s:=(hs _ hk h1).symm;have hno:=ho _ hk;have hne:s≠[]:=fun e=>by subst e;simp[isNoth,Re.op,Re.set]at hno
  have hb:altBad kids=false:=by
   unfold altBad;rw[hsp,Br hN];have:=hN.len;simp;omega
  refine⟨hb,Dm (Bw (by simp)) hr fun x=>?_⟩;rw[B9];unfold altL;rw[hsp,Br hN,hb,if_neg (by simp[hne]),mem_append,mem_singleton];unfold othersOf;rw[mem_filter];constructor
  ·rintro(h' | h' | rfl)
   ·cases h'
   ·exact h'.1
   ·exact hk
  ·intro hx;by_cases e:x.op=1
   ·obtain⟨s',_,rfl⟩:=(h x hx).op1 e;have:=hs _ hx e;rw[hsp]at this;have:s' = s:=this;exact .inr (.inr (by rw[this]))
   ·exact .inr (.inl ⟨hx,by simp[e]⟩)
 ·have hno:∀ k∈kids,k.op≠1:=fun k hk e=>hset ⟨k,hk,e⟩;have hsp:spansOf kids=[]:=EW hno;have hb:altBad kids=false:=by
   unfold altBad;rw[hsp,Br .nil];simp
  refine⟨hb,Dm (Bw (by simp)) hr fun x=>?_⟩;rw[B9];unfold altL;rw[hsp,Br .nil,hb,if_pos (.inr rfl),append_nil];unfold othersOf;rw[mem_filter];constructor
  ·rintro(h' | h')
   ·cases h'
   ·exact h'.1
  ·intro hx;exact .inr ⟨hx,by simp[hno x hx]⟩
theorem Qx {kids:List Re} (h2:2<=kids.length) (h:∀ k∈kids,NF k) (ho:∀ k∈kids,k.op≠3/\isNoth k=false) (hr:kids.Pairwise ltR) (hs:∀ k∈kids,k.op=1->k.set=spansOf kids):altBad (flatR 3 kids)=false/\altR (flatR 3 kids)=.mk 3 [] kids 0 0 0 0 false:=by
 rw[C5 fun k hk=>(ho k hk).1];obtain⟨a1,a2⟩:=Mr h (fun k hk=>(ho k hk).2) hr hs;refine⟨a1,?_⟩;unfold altR;rw[a2,Ic h2]
theorem Qm {k:Re} (h:NF k):catR (flatR 2 [k])=k:=by
 by_cases e2:k.op=2
 ·cases h with
  | cat kids h2 h ho=>
    have:flatR 2 [.mk 2 [] kids 0 0 0 0 false]=flatR 2 kids:=by
     rw[C5 fun k hk=>(ho k hk).2.1];simp[flatR,Re.op,Re.sub]
    rw[this,Qo h2 ho]
  | _=>simp[Re.op]at e2
 ·rw[C5 (by simpa using e2)];by_cases h0:k.op=0
  ·rw[h.op0 h0];rfl
  ·unfold catR;rw[G8 (by simpa using h0)];by_cases hn:isNoth k=true
   ·rw[if_pos (by simpa using hn),Dt h hn]
   ·rw[if_neg (by simpa using hn)];rfl
theorem Qv {k:Re} (h:NF k):altBad (flatR 3 [k])=false/\altR (flatR 3 [k])=k:=by
 by_cases h3:k.op=3
 ·cases h with
  | alt kids h2 h ho hr hs=>
    have:flatR 3 [.mk 3 [] kids 0 0 0 0 false]=flatR 3 kids:=by
     rw[C5 fun k hk=>(ho k hk).1];simp[flatR,Re.op,Re.sub]
    rw[this];exact Qx h2 h ho hr hs
  | _=>simp[Re.op]at h3
 ·rw[C5 (by simpa using h3)];by_cases hn:isNoth k=true
  ·rw[Dt h hn];have e:spansOf [nothR]=[]:=rfl;have hb:altBad [nothR]=false:=by unfold altBad;rw[e,Br .nil];simp
   refine⟨hb,?_⟩;unfold altR altL;rw[e,Br .nil,if_pos (.inr rfl)];rfl
  ·have hn':isNoth k=false:=by simpa using hn
   obtain⟨a1,a2⟩:=Mr (kids:=[k]) (by simpa using h) (by simpa using hn') (by simp) (by
    intro x hx h1;obtain rfl:=mem_singleton.1 hx;simp[spansOf,h1])
   refine⟨a1,?_⟩;unfold altR;rw[a2];rfl
end Go.Ev
namespace Go.Ev
mutual
def drv (x:Int):Re->Re
 | .mk op set kids mn mx md n neg=>
   if op=1 then(if hasSpan set x=true then emptyR else nothR)
   else if op=5 then(drvL x kids).headD nothR
   else if op=3 then joinR 3 (drvL x kids) nothR
   else if op=2 then joinR 3 (catD x kids) nothR
   else if op=4 then(if mx=1 then(drvL x kids).headD nothR else .mk 2 [] [(drvL x kids).headD nothR,.mk op set kids (max (mn-1) 0) (if mx = -1 then mx else mx-1) md n neg] 0 0 0 0 false)
   else nothR
def drvL (x:Int):List Re->List Re
 | []=>[]
 | k::ks=>drv x k::drvL x ks
def catD (x:Int):List Re->List Re
 | []=>[]
 | k::ks=>joinR 2 (drv x k::ks) emptyR::(if nullG k=true then catD x ks else [])
end
mutual
def drr (x:Int):Re->Re
 | .mk op set kids mn mx md n neg=>
   if op=1 then(if hasSpan set x=true then emptyR else nothR)
   else if op=5 then(drrL x kids).headD nothR
   else if op=3 then .mk 3 [] (drrL x kids) 0 0 0 0 false
   else if op=2 then .mk 3 [] (catX x kids) 0 0 0 0 false
   else if op=4 then(if mx=1 then .mk 2 [] [(drrL x kids).headD nothR] 0 0 0 0 false else .mk 2 [] [(drrL x kids).headD nothR,.mk op set kids (max (mn-1) 0) (if 0<mx then mx-1 else mx) 0 n neg] 0 0 0 0 false)
   else nothR
def drrL (x:Int):List Re->List Re
 | []=>[]
 | k::ks=>drr x k::drrL x ks
def catX (x:Int):List Re->List Re
 | []=>[]
 | k::ks=>.mk 2 [] (drr x k::ks) 0 0 0 0 false::(if nullG k=true then catX x ks else [])
end
theorem GC (x:Int):∀ l:List Re,drvL x l=l.map (drv x)
 | []=>rfl
 | k::l=>by rw[drvL,GC x l];rfl
theorem GD (x:Int):∀ l:List Re,drrL x l=l.map (drr x)
 | []=>rfl
 | k::l=>by rw[drrL,GD x l];rfl
def Sim (a b:Re):Prop:=badR a=badR b/\(badR a=false->nf a=nf b)
theorem Sim.refl (a:Re):Sim a a:=⟨rfl,fun _=>rfl⟩
theorem Sim.trans {a b c:Re} (h1:Sim a b) (h2:Sim b c):Sim a c:=⟨h1.1.trans h2.1,fun h=>(h1.2 h).trans (h2.2 (by rw[<- h1.1];exact h))⟩
theorem Sim.symm {a b:Re} (h:Sim a b):Sim b a:=⟨h.1.symm,fun g=>(h.2 (by rw[h.1];exact g)).symm⟩
def SimL:List Re->List Re->Prop
 | [],[]=>True
 | a::l,b::m=>Sim a b/\SimL l m
 | _,_=>False
theorem SimL.refl:∀ l,SimL l l
 | []=>trivial
 | a::l=>⟨.refl a,.refl l⟩
theorem SimL.spec:∀ {l m:List Re},SimL l m->badRL l=badRL m/\(badRL l=false->nfL l=nfL m)
 | [],[],_=>⟨rfl,fun _=>rfl⟩
 | [],_::_,h=>h.elim
 | _::_,[],h=>h.elim
 | a::l,b::m,⟨h1,h2⟩=>by
   obtain⟨g1,g2⟩:=SimL.spec h2;refine⟨by rw[badRL,badRL,h1.1,g1],fun h=>?_⟩;rw[badRL,Bool.or_eq_false_iff]at h;rw[nfL,nfL,h1.2 h.1,g2 h.2]
theorem GQ {op:Int}{l m:List Re}{mn mx md md' n:Int}{neg:Bool}{set:List (Int×Int)} (h:SimL l m):Sim (.mk op set l mn mx md n neg) (.mk op set m mn mx md' n neg):=by
 obtain⟨h1,h2⟩:=h.spec;by_cases hb:badRL l=false
 ·have e:=h2 hb;refine⟨by simp only[badR,<- h1,<- e],fun _=>by simp only[nf,e]⟩
 ·have hb':badRL l=true:=by simpa using hb
  refine⟨by simp only[badR,<- h1,hb',Bool.true_or],fun g=>?_⟩;simp only[badR,hb',Bool.true_or]at g;cases g
theorem IH {l:List Re} (h:∀ k∈l,OkD k):Sim (joinR 2 l emptyR) (.mk 2 [] l 0 0 0 0 false):=by
 match l,h with
 | [],_=>exact⟨rfl,fun _=>rfl⟩
 | [k],h=>
   have e:badR (.mk 2 [] [k] 0 0 0 0 false)=badR k:=by simp[badR,badRL]
   refine⟨e.symm,fun hb=>?_⟩;have:=Qm (IR (h k (by simp)) hb);simp only[nf,formN,nfL];exact this.symm
 | x::y::l,_=>exact .refl _
theorem IG {l:List Re} (h:∀ k∈l,OkD k):Sim (joinR 3 l nothR) (.mk 3 [] l 0 0 0 0 false):=by
 match l,h with
 | [],_=>
   have e:altBad []=false:=by unfold altBad;rw[show spansOf []=[] from rfl,Br .nil];simp
   refine⟨?_,fun _=>?_⟩
   ·show false=_;simp[badR,badRL,nfL,flatR,e]
   ·show nothR=_;simp only[nf,formN,nfL];have:altR (flatR 3 [])=nothR:=by
     unfold altR altL;rw[show flatR 3 []=[] from rfl,show spansOf []=[] from rfl,Br .nil,if_pos (.inr rfl)];rfl
    exact this.symm
 | [k],h=>
   by_cases hb:badR k=false
   ·obtain⟨a1,a2⟩:=Qv (IR (h k (by simp)) hb);refine⟨?_,fun _=>?_⟩
    ·show badR k=_;simp[badR,badRL,nfL,hb,a1]
    ·simp only[nf,formN,nfL];exact a2.symm
   ·have hb':badR k=true:=by simpa using hb
    refine⟨by simp[joinR,badR,badRL,hb'],fun g=>absurd g hb⟩
 | x::y::l,_=>exact .refl _
theorem Gy {op:Int} (hop:op=2∨op=3) {l:List Re}{z:Re} (hz:OkD z) (h:∀ k∈l,OkD k):OkD (joinR op l z):=by
 match l,h with
 | [],_=>exact hz
 | [k],h=>exact h k (by simp)
 | x::y::l,h=>
   rcases hop with rfl|rfl
   ·exact .cat _ h
   ·exact .alt _ h
theorem Ma {x:Int}:∀ {kids:List Re},(∀ k∈kids,OkD k)->(∀ k∈kids,OkD (drv x k)/\OkD (drr x k)/\Sim (drv x k) (drr x k))->(∀ k∈catD x kids,OkD k)/\(∀ k∈catX x kids,OkD k)/\SimL (catD x kids) (catX x kids)
 | [],_,_=>⟨fun k hk=>by simp[catD]at hk,fun k hk=>by simp[catX]at hk,by simp[catD,catX,SimL]⟩
 | k::ks,h,ih=>by
   obtain⟨a1,a2,a3⟩:=Ma (kids:=ks) (fun k hk=>h k (mem_cons_of_mem _ hk)) (fun k hk=>ih k (mem_cons_of_mem _ hk));obtain⟨b1,b2,b3⟩:=ih k (by simp);have c1:∀ q∈drv x k::ks,OkD q:=fun q hq=>by
    rcases mem_cons.1 hq with rfl|hq
    ·exact b1
    ·exact h q (mem_cons_of_mem _ hq)
   have c2:∀ q∈drr x k::ks,OkD q:=fun q hq=>by
    rcases mem_cons.1 hq with rfl|hq
    ·exact b2
    ·exact h q (mem_cons_of_mem _ hq)
   have d3:Sim (joinR 2 (drv x k::ks) emptyR) (.mk 2 [] (drr x k::ks) 0 0 0 0 false):=(IH c1).trans (GQ ⟨b3,.refl ks⟩);have d1:=Gy (op:=2) (.inl rfl) .empty c1;have d2:OkD (.mk 2 [] (drr x k::ks) 0 0 0 0 false):=.cat _ c2;rw[catD,catX];by_cases hn:nullG k=true
   ·rw[if_pos hn,if_pos hn];refine⟨fun q hq=>?_,fun q hq=>?_,d3,a3⟩
    ·rcases mem_cons.1 hq with rfl|hq
     ·exact d1
     ·exact a1 q hq
    ·rcases mem_cons.1 hq with rfl|hq
     ·exact d2
     ·exact a2 q hq
   ·rw[if_neg hn,if_neg hn];refine⟨fun q hq=>?_,fun q hq=>?_,d3,trivial⟩
    ·rw[mem_singleton.1 hq];exact d1
    ·rw[mem_singleton.1 hq];exact d2
theorem Jl {x:Int}{t:Re} (h:OkD t):OkD (drv x t)/\OkD (drr x t)/\Sim (drv x t) (drr x t):=by
 induction h with
 | empty=>exact⟨by simp[drv];exact .set _ .nil,by simp[drr];exact .set _ .nil,by simp[drv,drr];exact .refl _⟩
 | set s h=>
   have e1:drv x (setR s)=if hasSpan s x=true then emptyR else nothR:=by simp[drv]
   have e2:drr x (setR s)=if hasSpan s x=true then emptyR else nothR:=by simp[drr]
   rw[e1,e2];have:OkD (if hasSpan s x=true then emptyR else nothR):=by
    split
    ·exact .empty
    ·exact .set _ .nil
   exact⟨this,this,.refl _⟩
 | cat kids h ih=>
   obtain⟨a1,a2,a3⟩:=Ma h ih;have e1:drv x (.mk 2 [] kids 0 0 0 0 false)=joinR 3 (catD x kids) nothR:=by simp[drv]
   have e2:drr x (.mk 2 [] kids 0 0 0 0 false)=.mk 3 [] (catX x kids) 0 0 0 0 false:=by simp[drr]
   rw[e1,e2];exact⟨Gy (.inr rfl) (.set _ .nil) a1,.alt _ a2,(IG a1).trans (GQ a3)⟩
 | alt kids h ih=>
   have e1:drv x (.mk 3 [] kids 0 0 0 0 false)=joinR 3 (kids.map (drv x)) nothR:=by simp[drv,GC]
   have e2:drr x (.mk 3 [] kids 0 0 0 0 false)=.mk 3 [] (kids.map (drr x)) 0 0 0 0 false:=by simp[drr,GD]
   rw[e1,e2];have a1:∀ k∈kids.map (drv x),OkD k:=fun k hk=>by
    obtain⟨q,hq,rfl⟩:=mem_map.1 hk;exact(ih q hq).1
   have a2:∀ k∈kids.map (drr x),OkD k:=fun k hk=>by
    obtain⟨q,hq,rfl⟩:=mem_map.1 hk;exact(ih q hq).2.1
   have a3:∀ l:List Re,(∀ k∈l,Sim (drv x k) (drr x k))->SimL (l.map (drv x)) (l.map (drr x)):=fun l=>by
    induction l with
    | nil=>intro _;trivial
    | cons k l ihl=>intro hl;exact⟨hl k (by simp),ihl fun q hq=>hl q (mem_cons_of_mem _ hq)⟩
   exact⟨Gy (.inr rfl) (.set _ .nil) a1,.alt _ a2,(IG a1).trans (GQ (a3 kids fun k hk=>(ih k hk).2.2))⟩
 | rep k mn mx md h h1 h2 ih=>
   by_cases hm:mx=1
   ·subst hm;have e1:drv x (.mk 4 [] [k] mn 1 md 0 false)=drv x k:=by simp[drv,drvL]
    have e2:drr x (.mk 4 [] [k] mn 1 md 0 false)=.mk 2 [] [drr x k] 0 0 0 0 false:=by simp[drr,drrL]
    rw[e1,e2];refine⟨ih.1,.cat _ fun q hq=>?_,ih.2.2.trans (IH (l:=[drr x k]) ?_)⟩
    ·rw[mem_singleton.1 hq];exact ih.2.1
    ·intro q hq;rw[mem_singleton.1 hq];exact ih.2.1
   ·have hx:(if 0<mx then mx-1 else mx)=(if mx = -1 then mx else mx-1):=by
     rcases h2 with rfl|h2
     ·simp
     ·rw[if_pos (by omega),if_neg (by omega)]
    have e1:drv x (.mk 4 [] [k] mn mx md 0 false)=.mk 2 [] [drv x k,.mk 4 [] [k] (max (mn-1) 0) (if mx = -1 then mx else mx-1) md 0 false] 0 0 0 0 false:=by simp[drv,drvL,hm]
    have e2:drr x (.mk 4 [] [k] mn mx md 0 false)=.mk 2 [] [drr x k,.mk 4 [] [k] (max (mn-1) 0) (if 0<mx then mx-1 else mx) 0 0 false] 0 0 0 0 false:=by simp[drr,drrL,hm]
    rw[e1,e2,hx];have hr:∀ d,OkD (.mk 4 [] [k] (max (mn-1) 0) (if mx = -1 then mx else mx-1) d 0 false):=fun d=>by
     refine .rep k _ _ d h (by omega) ?_;rcases h2 with rfl|h2
     ·left;simp
     ·right;rw[if_neg (by omega)];omega
    refine⟨.cat _ fun q hq=>?_,.cat _ fun q hq=>?_,GQ ⟨ih.2.2,GQ (.refl _),trivial⟩⟩
    ·rcases mem_cons.1 hq with rfl|hq
     ·exact ih.1
     ·rw[mem_singleton.1 hq];exact hr md
    ·rcases mem_cons.1 hq with rfl|hq
     ·exact ih.2.1
     ·rw[mem_singleton.1 hq];exact hr 0
 | cap k n h ih=>
   have e1:drv x (.mk 5 [] [k] 0 0 0 n false)=drv x k:=by simp[drv,drvL]
   have e2:drr x (.mk 5 [] [k] 0 0 0 n false)=drr x k:=by simp[drr,drrL]
   rw[e1,e2];exact ih
end Go.Ev
namespace Go.Ev
theorem ME (a b c:Nat):2*(a+b)*c=2*a*c+2*b*c:=by rw[Nat.mul_add 2 a b,Nat.add_mul]
theorem F6 (b c:Nat):2*(1+b)*c=2*c+2*b*c:=by rw[Nat.mul_add 2 1 b,Nat.add_mul,Nat.mul_one]
mutual
def gsR:Re->Prop
 | .mk op set kids mn mx md n neg=>(∀ p∈set,goodS p)/\gsL kids
def gsL:List Re->Prop
 | []=>True
 | k::ks=>gsR k/\gsL ks
end
theorem Be:∀ {l:List Re},gsL l↔∀ k∈l,gsR k
 | []=>by simp[gsL]
 | k::l=>by simp[gsL,Be (l:=l)]
theorem QH {r:Re} (h:gsR r):∀ p∈r.set,goodS p:=by
 obtain⟨op,set,kids,mn,mx,md,n,neg⟩:=r;exact h.1
theorem QG {r:Re} (h:gsR r):∀ k∈r.sub,gsR k:=by
 obtain⟨op,set,kids,mn,mx,md,n,neg⟩:=r;exact Be.1 h.2
theorem OkD.gs {t:Re} (h:OkD t):gsR t:=by
 induction h with
 | empty=>exact⟨fun p hp=>(by cases hp),trivial⟩
 | set s h=>exact⟨h.good,trivial⟩
 | cat kids h ih=>exact⟨fun p hp=>(by cases hp),Be.2 ih⟩
 | alt kids h ih=>exact⟨fun p hp=>(by cases hp),Be.2 ih⟩
 | rep k mn mx md h h1 h2 ih=>exact⟨fun p hp=>(by cases hp),ih,trivial⟩
 | cap k n h ih=>exact⟨fun p hp=>(by cases hp),ih,trivial⟩
theorem Er {op:Int}{l:List Re} (h:∀ k∈l,gsR k):∀ k∈flatR op l,gsR k:=fun k hk=>by
 obtain⟨q,hq,⟨_,e⟩|⟨_,rfl⟩⟩:=Il.1 hk
 ·exact QG (h q hq) k e
 ·exact h k hq
theorem Ca {l:List Re} (h:∀ k∈l,gsR k):∀ p∈spansOf l,goodS p:=fun p hp=>by
 unfold spansOf at hp;obtain⟨k,hk,hp⟩:=mem_flatMap.1 hp;split at hp
 ·exact QH (h k hk) p hp
 ·cases hp
theorem Db {op:Int}{l:List Re}{z:Re} (hz:z.wt<=1):(joinR op l z).wt<=1+Re.wtL l:=by
 match l with
 | []=>simp[joinR,Re.wtL];omega
 | [x]=>simp[joinR,Re.wtL]
 | x::y::l=>simp[joinR,Re.wt]
theorem Gx {op:Int}{l:List Re}{z:Re} (hz:z.size<=1):(joinR op l z).size<=1+Re.sizeL l:=by
 match l with
 | []=>simp[joinR,Re.sizeL];omega
 | [x]=>simp[joinR,Re.sizeL]
 | x::y::l=>simp[joinR,Re.size]
theorem KQ {op:Int}{l:List Re}{z:Re} (hz:gsR z) (h:∀ k∈l,gsR k):gsR (joinR op l z):=by
 match l,h with
 | [],_=>exact hz
 | [x],h=>exact h x (by simp)
 | x::y::l,h=>exact⟨fun p hp=>(by cases hp),Be.2 h⟩
theorem GH (p:Re->Bool):∀ l:List Re,Re.wtL (l.filter p)<=Re.wtL l
 | []=>le_refl _
 | k::l=>by
   have:=GH p l;rw[List.filter_cons];split<;>simp only[Re.wtL]<;>omega
theorem Dq:∀ l:List Re,Re.wtL (othersOf l)+(if spansOf l=[] then 0 else 1+(spansOf l).length)<=Re.wtL l
 | []=>by simp[othersOf,spansOf,Re.wtL]
 | k::l=>by
   have ih:=Dq l;have hs:=Re.wt_sub k;have e1:spansOf (k::l)=(if k.op=1 then k.set else [])++spansOf l:=by simp[spansOf]
   have e2:othersOf (k::l)=(if k.op=1 then [] else [k])++othersOf l:=by
    by_cases h:k.op=1<;>simp[othersOf,h]
   rw[e1,e2];by_cases h:k.op=1
   ·simp only[if_pos h,nil_append,Re.wtL];by_cases h2:spansOf l=[]
    ·rw[if_pos h2]at ih;rw[h2,append_nil];split<;>omega
    ·rw[if_neg h2]at ih;rw[if_neg (by simp[h2]),List.length_append];omega
   ·simp only[if_neg h,nil_append,Re.wtL,List.singleton_append];omega
theorem MJ:∀ {l:List Re}{r:Re},Re.wtL (putR l r)<=Re.wtL l+r.wt
 | [],r=>by simp[putR,Re.wtL]
 | x::l,r=>by
   have:=MJ (l:=l) (r:=r);rw[putR];split
   ·simp only[Re.wtL];omega
   ·split<;>simp only[Re.wtL]<;>omega
theorem Dn:∀ {xs l:List Re},Re.wtL (putAll l xs)<=Re.wtL l+Re.wtL xs
 | [],l=>by simp[putAll,Re.wtL]
 | x::xs,l=>by
   have h1:=Dn (xs:=xs) (l:=putR l x);have h2:=MJ (l:=l) (r:=x);show Re.wtL (putAll (putR l x) xs)<=_;simp only[Re.wtL];omega
theorem Mq {l:List Re} (h:∀ k∈l,gsR k):Re.wtL (altL l)<=Re.wtL l:=by
 have h1:=Dq l;have h2:=(Cc (Ca h)).2.2;unfold altL;rw[Re.wtL_app];split
 ·simp only[Re.wtL];split at h1<;>omega
 ·rename_i hc;have hne:spansOf l≠[]:=fun e=>hc (.inr (by rw[e];exact List.length_eq_zero_iff.1 (by rw[e]at h2;simpa using h2)));rw[if_neg hne]at h1;simp only[Re.wtL,Re.wt];omega
theorem Eo:gsR emptyR:=⟨fun p hp=>(by cases hp),trivial⟩
theorem MU:gsR nothR:=⟨fun p hp=>(by cases hp),trivial⟩
theorem Qz {l:List Re} (h:∀ k∈l,gsR k):∀ k∈altL l,gsR k:=fun k hk=>by
 unfold altL at hk;rcases mem_append.1 hk with hk|hk
 ·exact h k (mem_filter.1 hk).1
 ·split at hk
  ·cases hk
  ·rw[mem_singleton.1 hk];exact⟨(Cc (Ca h)).1.good,trivial⟩
theorem Qw {l:List Re} (h:∀ k∈l,gsR k):(altR l).wt<=1+Re.wtL l:=by
 have h1:=Db (op:=3) (l:=putAll [] (altL l)) (z:=nothR) (by simp[Re.wt,Re.wtL]);have h2:=Dn (xs:=altL l) (l:=[]);have h3:=Mq h;simp only[Re.wtL]at h2;unfold altR;omega
theorem Qn (l:List Re):(catR l).wt<=1+Re.wtL l:=by
 unfold catR;split
 ·simp[Re.wt,Re.wtL]
 ·have h1:=Db (op:=2) (l:=l.filter fun r=>!decide (r.op=0)) (z:=emptyR) (by simp[Re.wt,Re.wtL]);have h2:=GH (fun r=>!decide (r.op=0)) l;omega
theorem Pp (mn mx:Int) (k:Re):(repR mn mx k).wt<=1+k.wt:=by
 have:=Re.wt_pos k;obtain⟨op,set,kids,kmn,kmx,md,n,neg⟩:=k;simp only[repR];split
 ·simp[Re.wt,Re.wtL]
 ·split
  ·omega
  ·simp only[Re.wt,Re.wtL,length_nil];omega
theorem Pq {mn mx:Int}{k:Re} (h:gsR k):gsR (repR mn mx k):=by
 obtain⟨op,set,kids,kmn,kmx,md,n,neg⟩:=k;simp only[repR];split
 ·exact Eo
 ·split
  ·exact h
  ·exact⟨fun p hp=>(by cases hp),h,trivial⟩
mutual
theorem Of:∀ t:Re,gsR t->gsR (nf t)/\(nf t).wt<=t.wt
 | .mk op set kids mn mx md n neg,h=>by
   obtain⟨a1,a2⟩:=Cd kids h.2;have hwt:(Re.mk op set kids mn mx md n neg).wt=1+set.length+Re.wtL kids:=by simp[Re.wt]
   rw[hwt];simp only[nf,formN];have hh:gsR ((nfL kids).headD emptyR)/\((nfL kids).headD emptyR).wt<=1+Re.wtL kids:=by
    match hk:nfL kids,a1,a2 with
    | [],_,_=>exact⟨Eo,by simp[Re.wt,Re.wtL]⟩
    | k::ks,a1,a2=>exact⟨a1 k (by simp),by simp only[List.headD_cons,Re.wtL]at a2 |-;omega⟩
   split
   ·exact⟨⟨h.1,trivial⟩,by simp[Re.wt,Re.wtL]⟩
   ·split
    ·have h1:=Qn (flatR 2 (nfL kids));have h2:=B4 2 (nfL kids);refine⟨?_,by omega⟩;unfold catR;split
     ·exact MU
     ·exact KQ Eo fun k hk=>Er a1 k (mem_filter.1 hk).1
    ·split
     ·have hg:=Er (op:=3) a1;have h1:=Qw hg;have h2:=B4 3 (nfL kids);refine⟨?_,by omega⟩;refine KQ MU fun k hk=>?_;rcases B9.1 hk with hk|hk
      ·cases hk
      ·exact Qz hg k hk
     ·split
      ·have:=Pp mn mx ((nfL kids).headD emptyR);refine⟨Pq hh.1,?_⟩
       match hk:nfL kids,a2 with
       | [],_=>
         simp only[List.headD_nil,repR,true_or,if_true];simp[Re.wt,Re.wtL];omega
       | k::ks,a2=>
         rw[hk]at this;simp only[List.headD_cons,Re.wtL]at a2 this |-;omega
      ·split
       ·exact⟨hh.1,by omega⟩
       ·exact⟨Eo,by simp[Re.wt,Re.wtL];omega⟩
theorem Cd:∀ l:List Re,gsL l->(∀ k∈nfL l,gsR k)/\Re.wtL (nfL l)<=Re.wtL l
 | [],_=>⟨fun k hk=>by simp[nfL]at hk,le_refl _⟩
 | k::ks,h=>by
   obtain⟨a1,a2⟩:=Of k h.1;obtain⟨b1,b2⟩:=Cd ks h.2;refine⟨fun q hq=>?_,by simp only[nfL,Re.wtL];omega⟩;simp only[nfL]at hq;rcases mem_cons.1 hq with rfl|hq
   ·exact a1
   ·exact b1 q hq
end
theorem Mf {x:Int}{W:Nat}:∀ {l:List Re},Re.wtL l<=W->(∀ k∈l,(drv x k).wt+(W+2)<=2*k.size*(W+2)/\(drr x k).wt+(W+2)<=2*k.size*(W+2))->Re.wtL (catD x l)<=2*Re.sizeL l*(W+2)/\Re.wtL (catX x l)<=2*Re.sizeL l*(W+2)
 | [],_,_=>by simp[catD,catX,Re.wtL]
 | k::ks,hW,h=>by
   simp only[Re.wtL]at hW;obtain⟨i1,i2⟩:=Mf (l:=ks) (by have:=Re.wt_pos k;omega) fun q hq=>h q (mem_cons_of_mem _ hq);obtain⟨h1,h2⟩:=h k (by simp);have j:=Db (op:=2) (l:=drv x k::ks) (z:=emptyR) (by simp[Re.wt,Re.wtL]);have e:2*Re.sizeL (k::ks)*(W+2)=2*k.size*(W+2)+2*Re.sizeL ks*(W+2):=by
    simp only[Re.sizeL];exact ME _ _ _
   rw[e];simp only[Re.wtL]at j;have:=Re.wt_pos k;rw[catD,catX];by_cases hn:nullG k=true
   ·simp only[if_pos hn,Re.wtL,Re.wt,length_nil];omega
   ·simp only[if_neg hn,Re.wtL,Re.wt,length_nil];omega
theorem PE {x:Int}{W:Nat}{t:Re} (h:OkD t):t.wt<=W->(drv x t).wt+(W+2)<=2*t.size*(W+2)/\(drr x t).wt+(W+2)<=2*t.size*(W+2):=by
 have base:∀ r s:Re,r.wt<=1->r.wt+(W+2)<=2*s.size*(W+2):=fun r s hr=>by
  have:=Re.size_pos s;have:1*(W+2)<=s.size*(W+2):=Nat.mul_le_mul_right _ this;rw[Nat.mul_assoc];omega
 have w1:nothR.wt<=1:=by simp[Re.wt,Re.wtL]
 have w0:emptyR.wt<=1:=by simp[Re.wt,Re.wtL]
 induction h with
 | empty=>
   intro _;have e1:drv x emptyR=nothR:=by simp[drv]
   have e2:drr x emptyR=nothR:=by simp[drr]
   rw[e1,e2];exact⟨base _ _ w1,base _ _ w1⟩
 | set s h=>
   intro _;have e1:drv x (setR s)=if hasSpan s x=true then emptyR else nothR:=by simp[drv]
   have e2:drr x (setR s)=if hasSpan s x=true then emptyR else nothR:=by simp[drr]
   rw[e1,e2];split
   ·exact⟨base _ _ w0,base _ _ w0⟩
   ·exact⟨base _ _ w1,base _ _ w1⟩
 | cat kids h ih=>
   intro hW;have hW':Re.wtL kids<=W:=by simp only[Re.wt,length_nil]at hW;omega
   obtain⟨a1,a2⟩:=Mf (x:=x) hW' fun k hk=>ih k hk (by have:=Re.wtL_mem hk;omega);have e1:drv x (.mk 2 [] kids 0 0 0 0 false)=joinR 3 (catD x kids) nothR:=by simp[drv]
   have e2:drr x (.mk 2 [] kids 0 0 0 0 false)=.mk 3 [] (catX x kids) 0 0 0 0 false:=by simp[drr]
   have j:=Db (op:=3) (l:=catD x kids) (z:=nothR) w1;have e:2*(Re.mk 2 [] kids 0 0 0 0 false).size*(W+2)=2*(W+2)+2*Re.sizeL kids*(W+2):=by
    simp only[Re.size];exact F6 _ _
   rw[e1,e2,e];simp only[Re.wt,length_nil];omega
 | alt kids h ih=>
   intro hW;have hW':Re.wtL kids<=W:=by simp only[Re.wt,length_nil]at hW;omega
   have hs:∀ l:List Re,(∀ k∈l,(drv x k).wt+(W+2)<=2*k.size*(W+2)/\(drr x k).wt+(W+2)<=2*k.size*(W+2))->Re.wtL (l.map (drv x))<=2*Re.sizeL l*(W+2)/\Re.wtL (l.map (drr x))<=2*Re.sizeL l*(W+2):=fun l=>by
    induction l with
    | nil=>intro _;simp[Re.wtL]
    | cons k l ihl=>
      intro hl;obtain⟨b1,b2⟩:=ihl fun q hq=>hl q (mem_cons_of_mem _ hq);obtain⟨c1,c2⟩:=hl k (by simp);have e:2*Re.sizeL (k::l)*(W+2)=2*k.size*(W+2)+2*Re.sizeL l*(W+2):=by
       simp only[Re.sizeL];exact ME _ _ _
      rw[e];simp only[map_cons,Re.wtL];omega
   obtain⟨a1,a2⟩:=hs kids fun k hk=>ih k hk (by have:=Re.wtL_mem hk;omega);have e1:drv x (.mk 3 [] kids 0 0 0 0 false)=joinR 3 (kids.map (drv x)) nothR:=by simp[drv,GC]
   have e2:drr x (.mk 3 [] kids 0 0 0 0 false)=.mk 3 [] (kids.map (drr x)) 0 0 0 0 false:=by simp[drr,GD]
   have j:=Db (op:=3) (l:=kids.map (drv x)) (z:=nothR) w1;have e:2*(Re.mk 3 [] kids 0 0 0 0 false).size*(W+2)=2*(W+2)+2*Re.sizeL kids*(W+2):=by
    simp only[Re.size];exact F6 _ _
   rw[e1,e2,e];simp only[Re.wt,length_nil];omega
 | rep k mn mx md h h1 h2 ih=>
   intro hW;simp only[Re.wt,Re.wtL,length_nil]at hW;obtain⟨a1,a2⟩:=ih (by omega);have e:2*(Re.mk 4 [] [k] mn mx md 0 false).size*(W+2)=2*(W+2)+2*k.size*(W+2):=by
    simp only[Re.size,Re.sizeL,Nat.add_zero];exact F6 _ _
   rw[e];by_cases hm:mx=1
   ·subst hm;have e1:drv x (.mk 4 [] [k] mn 1 md 0 false)=drv x k:=by simp[drv,drvL]
    have e2:drr x (.mk 4 [] [k] mn 1 md 0 false)=.mk 2 [] [drr x k] 0 0 0 0 false:=by simp[drr,drrL]
    rw[e1,e2];simp only[Re.wt,Re.wtL,length_nil];omega
   ·have e1:drv x (.mk 4 [] [k] mn mx md 0 false)=.mk 2 [] [drv x k,.mk 4 [] [k] (max (mn-1) 0) (if mx = -1 then mx else mx-1) md 0 false] 0 0 0 0 false:=by simp[drv,drvL,hm]
    have e2:drr x (.mk 4 [] [k] mn mx md 0 false)=.mk 2 [] [drr x k,.mk 4 [] [k] (max (mn-1) 0) (if 0<mx then mx-1 else mx) 0 0 false] 0 0 0 0 false:=by simp[drr,drrL,hm]
    rw[e1,e2];simp only[Re.wt,Re.wtL,length_nil];omega
 | cap k n h ih=>
   intro hW;simp only[Re.wt,Re.wtL,length_nil]at hW;obtain⟨a1,a2⟩:=ih (by omega);have e1:drv x (.mk 5 [] [k] 0 0 0 n false)=drv x k:=by simp[drv,drvL]
   have e2:drr x (.mk 5 [] [k] 0 0 0 n false)=drr x k:=by simp[drr,drrL]
   have e:2*(Re.mk 5 [] [k] 0 0 0 n false).size*(W+2)=2*(W+2)+2*k.size*(W+2):=by
    simp only[Re.size,Re.sizeL,Nat.add_zero];exact F6 _ _
   rw[e1,e2,e];omega
end Go.Ev
namespace Go.Ev
theorem NF.ok {t:Re} (h:NF t):OkD t:=by
 induction h with
 | empty=>exact .empty
 | set s h=>exact .set s h
 | cat kids h2 h ho ih=>exact .cat kids ih
 | alt kids h2 h ho hr hs ih=>exact .alt kids ih
 | rep k mn mx h h0 hn hs hm h1 h2 ih=>exact .rep k mn mx 0 ih h1 h2
theorem J6 {l:List Re} (h:∀ k∈l,k.wt<=65*k.size):Re.wtL l<=65*Re.sizeL l:=by
 induction l with
 | nil=>simp[Re.wtL]
 | cons k l ih=>
   have h1:=h k (by simp);have h2:=ih fun q hq=>h q (mem_cons_of_mem _ hq);simp only[Re.wtL,Re.sizeL];omega
theorem OkD.wt65 {t:Re} (h:OkD t):t.wt<=65*t.size:=by
 induction h with
 | empty=>simp[Re.wt,Re.wtL,Re.size,Re.sizeL]
 | set s h=>have:=h.len;simp[Re.wt,Re.wtL,Re.size,Re.sizeL];omega
 | cat kids h ih=>have:=J6 ih;simp[Re.wt,Re.size];omega
 | alt kids h ih=>have:=J6 ih;simp[Re.wt,Re.size];omega
 | rep k mn mx md h h1 h2 ih=>simp[Re.wt,Re.wtL,Re.size,Re.sizeL];omega
 | cap k n h ih=>simp[Re.wt,Re.wtL,Re.size,Re.sizeL];omega
theorem J4 {s:List (Int×Int)} (h:SetN s):spansG s 1114111=true:=by
 refine DT h.len fun k hk=>?_;unfold badS;rw[getElem?_eq_getElem hk];have hg:=h.good s[k] (List.getElem_mem hk);unfold goodS at hg;have a1:¬ s[k].1<0:=by omega
 have a2:¬ s[k].2<s[k].1:=by omega
 have a3:¬ (1114111:Int)<s[k].2:=by omega
 simp only[a1,a2,a3,decide_false,Bool.false_or];cases k with
 | zero=>rfl
 | succ j=>
   have hj:j<s.length:=by omega
   simp only[getElem?_eq_getElem hj];have:=(List.pairwise_iff_getElem.1 h.sep) j (j+1) hj hk (by omega);have a4:¬ s[j+1].1<s[j].2+2:=by omega
   simp[a4]
theorem NF.whole {t:Re} (caps:Int) (h:NF t):wholeG caps 1114111 t=true:=by
 induction h with
 | empty=>simp[wholeG,wholeL,formedG,kidsG]
 | set s h=>simp[wholeG,wholeL,formedG,kidsG,J4 h]
 | cat kids h2 h ho ih=>
   have:=(B7 caps 1114111 kids).2 ih;simp[wholeG,formedG,kidsG,this,h2]
 | alt kids h2 h ho hr hs ih=>
   have:=(B7 caps 1114111 kids).2 ih;simp[wholeG,formedG,kidsG,this,h2]
 | rep k mn mx h h0 hn hs hm h1 h2 ih=>
   have:repG mn mx 0=true:=by
    simp only[repG,Bool.and_eq_true,decide_eq_true_eq,Bool.or_eq_true,beq_iff_eq];refine⟨⟨⟨⟨h1.1,h1.2⟩,by omega⟩,by omega⟩,?_⟩;rcases h2 with h2|h2
    ·exact .inl h2
    ·exact .inr ⟨⟨h2.1,h2.2.1⟩,h2.2.2⟩
   simp[wholeG,wholeL,formedG,kidsG,ih,this]
theorem Ea (p:Re->Bool):∀ l:List Re,Re.sizeL (l.filter p)<=Re.sizeL l
 | []=>le_refl _
 | k::l=>by
   have:=Ea p l;rw[List.filter_cons];split<;>simp only[Re.sizeL]<;>omega
theorem EF (op:Int):∀ l:List Re,Re.sizeL (flatR op l)<=Re.sizeL l
 | []=>le_refl _
 | k::l=>by
   have ih:=EF op l;have hs:1+Re.sizeL k.sub=k.size:=by cases k;simp[Re.size,Re.sub]
   have e:flatR op (k::l)=(if k.op=op then k.sub else [k])++flatR op l:=by simp[flatR]
   rw[e,Re.sizeL_append];split<;>simp only[Re.sizeL]<;>omega
theorem Fi:∀ l:List Re,Re.sizeL (othersOf l)+(if spansOf l=[] then 0 else 1)<=Re.sizeL l
 | []=>by simp[othersOf,spansOf,Re.sizeL]
 | k::l=>by
   have ih:=Fi l;have hs:=Re.size_pos k;have e1:spansOf (k::l)=(if k.op=1 then k.set else [])++spansOf l:=by simp[spansOf]
   have e2:othersOf (k::l)=(if k.op=1 then [] else [k])++othersOf l:=by
    by_cases h:k.op=1<;>simp[othersOf,h]
   rw[e1,e2];by_cases h:k.op=1
   ·simp only[if_pos h,nil_append,Re.sizeL];split<;>split at ih<;>omega
   ·simp only[if_neg h,nil_append,Re.sizeL,List.singleton_append];omega
theorem IM:∀ {l:List Re}{r:Re},Re.sizeL (putR l r)<=Re.sizeL l+r.size
 | [],r=>by simp[putR,Re.sizeL]
 | x::l,r=>by
   have:=IM (l:=l) (r:=r);rw[putR];split
   ·simp only[Re.sizeL];omega
   ·split<;>simp only[Re.sizeL]<;>omega
theorem Fg:∀ {xs l:List Re},Re.sizeL (putAll l xs)<=Re.sizeL l+Re.sizeL xs
 | [],l=>by simp[putAll,Re.sizeL]
 | x::xs,l=>by
   have h1:=Fg (xs:=xs) (l:=putR l x);have h2:=IM (l:=l) (r:=x);show Re.sizeL (putAll (putR l x) xs)<=_;simp only[Re.sizeL];omega
theorem N5 (l:List Re):(altR l).size<=1+Re.sizeL l:=by
 have h1:=Gx (op:=3) (l:=putAll [] (altL l)) (z:=nothR) (by simp[Re.size,Re.sizeL]);have h2:=Fg (xs:=altL l) (l:=[]);have h4:=Fi l;have h3:Re.sizeL (altL l)<=Re.sizeL l:=by
  unfold altL;rw[Re.sizeL_append];split
  ·simp only[Re.sizeL];omega
  ·rename_i hc;have hne:spansOf l≠[]:=fun e=>hc (.inr (by rw[e];exact(Br .nil)));rw[if_neg hne]at h4;simp only[Re.sizeL,Re.size];omega
 simp only[Re.sizeL]at h2;unfold altR;omega
theorem Nm (l:List Re):(catR l).size<=1+Re.sizeL l:=by
 unfold catR;split
 ·simp[Re.size,Re.sizeL]
 ·have h1:=Gx (op:=2) (l:=l.filter fun r=>!decide (r.op=0)) (z:=emptyR) (by simp[Re.size,Re.sizeL]);have h2:=Ea (fun r=>!decide (r.op=0)) l;omega
theorem M3 (mn mx:Int) (k:Re):(repR mn mx k).size<=1+k.size:=by
 have:=Re.size_pos k;obtain⟨op,set,kids,kmn,kmx,md,n,neg⟩:=k;simp only[repR];split
 ·simp[Re.size,Re.sizeL]
 ·split
  ·omega
  ·simp only[Re.size,Re.sizeL];omega
theorem P5 {t:Re} (h:OkD t):(nf t).size<=t.size:=by
 have hL:∀ l:List Re,(∀ k∈l,(nf k).size<=k.size)->Re.sizeL (l.map nf)<=Re.sizeL l:=fun l=>by
  induction l with
  | nil=>intro _;exact le_refl _
  | cons k l ih=>
    intro hl;have h1:=hl k (by simp);have h2:=ih fun q hq=>hl q (mem_cons_of_mem _ hq);simp only[map_cons,Re.sizeL];omega
 induction h with
 | empty=>simp[nf,formN,nfL,Re.size,Re.sizeL]
 | set s h=>simp[nf,formN,Re.size,Re.sizeL]
 | cat kids h ih=>
   have h1:=Nm (flatR 2 (kids.map nf));have h2:=EF 2 (kids.map nf);have h3:=hL kids ih;have e:nf (.mk 2 [] kids 0 0 0 0 false)=catR (flatR 2 (kids.map nf)):=by simp[nf,formN,Bd]
   rw[e];simp only[Re.size];omega
 | alt kids h ih=>
   have h1:=N5 (flatR 3 (kids.map nf));have h2:=EF 3 (kids.map nf);have h3:=hL kids ih;have e:nf (.mk 3 [] kids 0 0 0 0 false)=altR (flatR 3 (kids.map nf)):=by simp[nf,formN,Bd]
   rw[e];simp only[Re.size];omega
 | rep k mn mx md h h1 h2 ih=>
   have h1:=M3 mn mx (nf k);have e:nf (.mk 4 [] [k] mn mx md 0 false)=repR mn mx (nf k):=by simp[nf,formN,nfL]
   rw[e];simp only[Re.size,Re.sizeL];omega
 | cap k n h ih=>
   have e:nf (.mk 5 [] [k] 0 0 0 n false)=nf k:=by simp[nf,formN,nfL]
   rw[e];simp only[Re.size,Re.sizeL];omega
structure StT (t:Re):Prop where
 nf:NF t
 size:t.size<=256
theorem StT.wt {t:Re} (h:StT t):t.wt<=16640:=by
 have:=h.nf.ok.wt65;have:=h.size;omega
def stepR (x:Int) (t:Re):Option Re:=
 if badR (drv x t)=true∨256<(nf (drv x t)).size∨24<(nf (drv x t)).depth then none else some (nf (drv x t))
theorem GL {x:Int}{t r:Re} (h:StT t) (hs:stepR x t=some r):StT r:=by
 unfold stepR at hs;split at hs
 ·cases hs
 ·rename_i hc;simp only[not_or]at hc;obtain rfl:=Option.some.inj hs;exact⟨IR (Jl h.nf.ok).1 (by simpa using hc.1),by omega⟩
theorem Mv (x:Int) {t:Re} (h:OkD t):stepR x t=if badR (drr x t)=true∨256<(nf (drr x t)).size∨24<(nf (drr x t)).depth then none else some (nf (drr x t)):=by
 obtain⟨_,_,h1,h2⟩:=Jl (x:=x) h;unfold stepR;cases hb:badR (drv x t) with
 | true=>rw[hb]at h1;simp[<- h1]
 | false=>rw[h2 hb,<- h1,hb]
theorem Nb {x:Int}{t:Re} (h:OkD t) (hs:t.size<=256):(drv x t).wt<=100000000/\(drr x t).wt<=100000000:=by
 have h1:=h.wt65;obtain⟨a,b⟩:=PE (x:=x) (W:=16640) h (by omega);have:2*t.size*(16640+2)<=2*256*(16640+2):=Nat.mul_le_mul_right _ (by omega);omega
end Go.Ev
namespace Go.Ev
def vI (n:Nat):List Int:=if n<128 then [(n:Int)] else((128+n % 128:Nat):Int)::vI (n / 128)
termination_by n
decreasing_by omega
theorem FY {n:Nat} (h:n<128):vI n=[(n:Int)]:=by rw[vI,if_pos h]
theorem GJ {n:Nat} (h:128<=n):vI n=((128+n % 128:Nat):Int)::vI (n / 128):=by rw[vI,if_neg (by omega)]
theorem OA:∀(k n:Nat),n<128 ^ (k+1)->(vI n).length<=k+1
 | 0,n,h=>by rw[FY (by omega)];simp
 | k+1,n,h=>by
   by_cases h1:n<128
   ·rw[FY h1];simp
   ·rw[GJ (by omega)];have:=OA k (n / 128) (by rw[Nat.div_lt_iff_lt_mul (by omega)];rw[Nat.pow_succ]at h;exact h);simp;omega
theorem EP {n:Nat} (h:n<18446744073709551616):(vI n).length<=10:=OA 9 n (Nat.lt_trans h (by decide))
theorem RM (n:Nat):1<=(vI n).length:=by
 by_cases h:n<128
 ·rw[FY h];simp
 ·rw[GJ (by omega)];simp
theorem F5:∀(n:Nat),∀ x∈vI n,0<=x/\x<256:=by
 intro n
 induction n using Nat.strongRecOn with
 | ind n ih=>
   intro x hx;by_cases h:n<128
   ·rw[FY h]at hx;rw[mem_singleton.1 hx];omega
   ·rw[GJ (by omega)]at hx;rcases mem_cons.1 hx with e|e
    ·rw[e];omega
    ·exact ih (n / 128) (by omega) x e
def zz (n:Int):Nat:=if n<0 then(2*(-(n+1))+1).toNat else(2*n).toNat
def unz (z:Nat):Int:=if z % 2=1 then -((z / 2:Nat):Int)-1 else((z / 2:Nat):Int)
theorem OC (n:Int):unz (zz n)=n:=by
 unfold unz zz;split<;>split<;>omega
theorem MD {n:Int} (h:-9223372036854775808<=n/\n<=9223372036854775807):zz n<18446744073709551616:=by
 unfold zz;split<;>omega
def iE (n:Int):List Int:=vI (zz n)
def boolE (b:Bool):List Int:=[if b then 1 else 0]
theorem N9:∀(a b:Nat) (s t:List Int),vI a++s=vI b++t->a=b/\s=t:=by
 intro a
 induction a using Nat.strongRecOn with
 | ind a ih=>
   intro b s t h;by_cases ha:a<128
   ·rw[FY ha]at h;by_cases hb:b<128
    ·rw[FY hb]at h;simp only[List.singleton_append,List.cons.injEq]at h;exact⟨by omega,h.2⟩
    ·rw[GJ (by omega)]at h;simp only[List.singleton_append,cons_append,List.cons.injEq]at h;omega
   ·rw[GJ (by omega)]at h;by_cases hb:b<128
    ·rw[FY hb]at h;simp only[List.singleton_append,cons_append,List.cons.injEq]at h;omega
    ·rw[GJ (n:=b) (by omega)]at h;simp only[cons_append,List.cons.injEq]at h;obtain⟨h1,h2⟩:=h;obtain⟨e1,e2⟩:=ih (a / 128) (by omega) (b / 128) s t h2;exact⟨by omega,e2⟩
theorem O1 {a b:Int}{s t:List Int} (h:iE a++s=iE b++t):a=b/\s=t:=by
 obtain⟨h1,h2⟩:=N9 _ _ _ _ h;refine⟨?_,h2⟩;rw[<- OC a,<- OC b,h1]
def intsE (l:List Int):List Int:=vI l.length++l.flatMap iE
theorem Im:∀ {l m s t:List Int},l.length=m.length->l.flatMap iE++s=m.flatMap iE++t->l=m/\s=t
 | [],[],s,t,_,h=>⟨rfl,h⟩
 | [],_::_,_,_,h,_=>by simp at h
 | _::_,[],_,_,h,_=>by simp at h
 | x::l,y::m,s,t,hl,h=>by
   simp only[List.flatMap_cons,append_assoc]at h;obtain⟨rfl,h2⟩:=O1 h;obtain⟨rfl,h3⟩:=Im (by simpa using hl) h2;exact⟨rfl,h3⟩
theorem Id {l m s t:List Int} (h:intsE l++s=intsE m++t):l=m/\s=t:=by
 unfold intsE at h;rw[append_assoc,append_assoc]at h;obtain⟨h1,h2⟩:=N9 _ _ _ _ h;exact Im h1 h2
mutual
def nodeE:Re->List Int
 | .mk op set kids mn mx md n neg=>intsE (op::set.flatMap fun p=>[p.1,p.2])++intsE [mn,mx,md,n,neg01 neg]++iE kids.length++kidsE kids
def kidsE:List Re->List Int
 | []=>[]
 | k::ks=>nodeE k++kidsE ks
end
theorem NP:∀ {l m:List (Int×Int)},(l.flatMap fun p=>[p.1,p.2])=(m.flatMap fun p=>[p.1,p.2])->l=m:=fun {l m} h=>by
 refine G5 ?_ h;have h1:=BE l;have h2:=BE m;rw[h]at h1;omega
mutual
theorem IP:∀(a b:Re) (s t:List Int),nodeE a++s=nodeE b++t->a=b/\s=t
 | .mk op set kids mn mx md n neg,.mk op' set' kids' mn' mx' md' n' neg',s,t,h=>by
   simp only[nodeE,append_assoc]at h;obtain⟨h1,h⟩:=Id h;obtain⟨h2,h⟩:=Id h;obtain⟨h3,h⟩:=O1 h;simp only[List.cons.injEq]at h1 h2;obtain⟨h4,h5⟩:=IY kids kids' s t (by omega) h;obtain⟨e1,e2,e3,e4,e5,_⟩:=h2;have e6:neg=neg':=by cases neg<;>cases neg'<;>simp[neg01]at e5<;>rfl
   rw[h1.1,NP h1.2,e1,e2,e3,e4,e6,h4];exact⟨rfl,h5⟩
theorem IY:∀(a b:List Re) (s t:List Int),a.length=b.length->kidsE a++s=kidsE b++t->a=b/\s=t
 | [],[],s,t,_,h=>⟨rfl,h⟩
 | [],_::_,_,_,h,_=>by simp at h
 | _::_,[],_,_,h,_=>by simp at h
 | x::l,y::m,s,t,hl,h=>by
   simp only[kidsE,append_assoc]at h;obtain⟨h1,h2⟩:=IP x y _ _ h;obtain⟨h3,h4⟩:=IY l m s t (by simpa using hl) h2;rw[h1,h3];exact⟨rfl,h4⟩
end
def nameE (r:Re):List Int:=iE 0++boolE false++nodeE r
theorem NB {a b:Re} (h:nameE a=nameE b):a=b:=by
 unfold nameE at h;have h2:=List.append_cancel_left h;exact(IP a b [] [] (by simpa using h2)).1
end Go.Ev
namespace Go.Ev
attribute [local go_sem] evAppend evBin AV.cells Ax BB bndO bnd evEq eqCells not_false_eq_true not_true_eq_false toList_some Array.size_empty List.length_append List.map_append tySzE List.head?_drop Nat.mul_one Ak At Ag Al Am Ad
section
theorem f102 (r:Bool) (H:List MB):call Pg pol1 70 [.bool r] H=some (I (if r then 1114111 else 255),H):=by
 cases r
 ·refine AR Tryz.func70 rfl rfl rfl rfl rfl rfl (fun _=>rfl) (by simp[AV.plain,AV.plainL,AG,AF,AL,AM]) (by simp[AV.plain,AV.plainL,AG,AF,AL,AM]) ?_ H;simp +contextual (disch:=omega) only[Tryz.f70,dd70,go_sem,simprocAttr,mu70,↓AD,↓AC,↓AB,↓AA];exact fzEq rfl rfl
 ·refine AR Tryz.func70 rfl rfl rfl rfl rfl rfl (fun _=>rfl) (by simp[AV.plain,AV.plainL,AG,AF,AL,AM]) (by simp[AV.plain,AV.plainL,AG,AF,AL,AM]) ?_ H;simp +contextual (disch:=omega) only[Tryz.f70,dd70,go_sem,simprocAttr,mu70,↓AD,↓AC,↓AB,↓AA];exact fzEq rfl rfl
theorem Mn {l:List (Int×Int)}{top:Int}{i:Nat}{p:Int×Int} (hp:l[i]?=some p) (h:p.1<0∨p.2<p.1∨top<p.2):badS l top i=true:=by
 simp only[badS,hp];rcases h with h|h|h<;>simp[h]
theorem I7 {l:List (Int×Int)}{top:Int}{p:Int×Int} (hp:l[0]?=some p) (h:¬ (p.1<0∨p.2<p.1∨top<p.2)):badS l top 0=false:=by
 have h1:¬ p.1<0:=fun e=>h (.inl e);have h2:¬ p.2<p.1:=fun e=>h (.inr (.inl e));have h3:¬ top<p.2:=fun e=>h (.inr (.inr e));simp[badS,hp,h1,h2,h3]
theorem FV {l:List (Int×Int)}{top:Int}{i:Nat}{p q:Int×Int} (hp:l[i+1]?=some p) (hq:l[i]?=some q) (h:¬ (p.1<0∨p.2<p.1∨top<p.2)):badS l top (i+1)=decide (p.1<q.2+2):=by
 have h1:¬ p.1<0:=fun e=>h (.inl e);have h2:¬ p.2<p.1:=fun e=>h (.inr (.inl e));have h3:¬ top<p.2:=fun e=>h (.inr (.inr e));simp[badS,hp,hq,h1,h2,h3]
theorem Jt {l:List (Int×Int)}{top:Int}{i:Nat}{q:Int×Int} (hq:l[i]?=some q) (h:badS l top i=false):0<=q.1/\q.1<=q.2/\q.2<=top:=by
 simp only[badS,hq,Bool.or_eq_false_iff,decide_eq_false_iff_not]at h;omega
theorem f131 (l:List (Int×Int)) (top:Int) (ht:top<=1114111) (hl:l.length<=1000000) (H:List MB):call Pg pol1 101 [.sl false (l.map spanAV),I top] H=some (.bool (spansG l top),H):=by
 refine AR Tryz.func101 rfl rfl rfl rfl rfl rfl (fun _=>rfl) (by simp[AV.plain,AV.plainL,AF]) rfl ?_ H;by_cases h64:64<l.length
 ·rw[Fa h64];simp +contextual (disch:=omega) only[Tryz.f101,HM,go_sem,simprocAttr,Gq,↓AD,↓AC,↓AB,↓AA];exact fzEq rfl rfl
 ·simp +contextual (disch:=omega) only[Tryz.f101,HM,go_sem,simprocAttr,Gq,↓AD,↓AC,↓AB,↓AA];refine AY (M:=(mskOf (pol1.mask 101) (pol1.gc 101) (pol1.acts 101) 0 4)) rfl l.length (fun i=>(⟨50,[(12,I i),(11,I l.length),(10,.sl false (l.map spanAV)),(1,I top),(0,.sl false (l.map spanAV))],[]⟩:St)) (fun i=>∀ k,k<i->badS l top k=false) ?_ ?_ (fun k h=>by omega) _ (by first|rfl|(refine BI (n:=0) (m:=⟨some [12,11,10,1,0],some 0,[]⟩) rfl rfl ?_ ?_ ?_<;>first|rfl|(simp[keepT,AV.underL,AV.under,MB.under,AE,AK,AU,AG,AF,AL,AM,-map_take,-map_replicate,-map_set];done)|(simp[keepT,AV.underL,AV.under,MB.under,AE,AK,AU,AG,AF,AL,AM,-map_take,-map_replicate,-map_set];omega)))
  ·intro i hlt hg;obtain⟨p,hp⟩:∃ p,l[i]?=some p:=⟨_,getElem?_eq_getElem hlt⟩;have ext:badS l top i=false->∀ k,k<i+1->badS l top k=false:=fun h k hk=>by
    rcases lt_or_ge k i with h1|h1
    ·exact hg k h1
    ·obtain rfl:k=i:=by omega
     exact h
   by_cases hgd:p.1<0∨p.2<p.1∨top<p.2
   ·rw[DC hlt (Mn hp hgd)];have hgd':p.1<0∨(¬ p.1<0/\p.2<p.1)∨(¬ p.1<0/\¬ p.2<p.1/\top<p.2):=by omega
    rcases hgd' with h|⟨h,h'⟩|⟨h,h',h''⟩
    all_goals (
     simp +contextual (disch:=omega) only[Tryz.f101,HM,go_sem,simprocAttr,Gq,↓AD,↓AC,↓AB,↓AA,hp,spanAV];repeat' (first|intro _|apply And.intro|(unfold dOk;kernel_rfl)|exact St.beq_refl _|exact AQ|(show altO _ _ _ _=true;kernel_rfl)|(show (_||_)=true;kernel_rfl)|(show (_&&_)=true;kernel_rfl))
     all_goals exact fzEq rfl rfl)
   ·rcases i with _|i
    ·simp +contextual (disch:=omega) only[Tryz.f101,HM,go_sem,simprocAttr,Gq,↓AD,↓AC,↓AB,↓AA,hp,spanAV];repeat' (first|intro _|apply And.intro|(unfold dOk;kernel_rfl)|exact St.beq_refl _|exact AQ|(show altO _ _ _ _=true;kernel_rfl)|(show (_||_)=true;kernel_rfl)|(show (_&&_)=true;kernel_rfl))
     ·exact ext (I7 hp hgd) _ ‹_›
     ·exact(by first|rfl|(refine BI (n:=0) (m:=⟨some [12,11,10,1,0],some 0,[]⟩) rfl rfl ?_ ?_ ?_<;>first|rfl|(simp[keepT,AV.underL,AV.under,MB.under,AE,AK,AU,AG,AF,AL,AM,-map_take,-map_replicate,-map_set];done)|(simp[keepT,AV.underL,AV.under,MB.under,AE,AK,AU,AG,AF,AL,AM,-map_take,-map_replicate,-map_set];omega)))
    ·obtain⟨q,hq⟩:∃ q,l[i]?=some q:=⟨_,getElem?_eq_getElem (by omega)⟩;have hqb:=Jt hq (hg i (by omega));have hb:=FV hp hq hgd;by_cases h2:p.1<q.2+2
     ·rw[DC hlt (by rw[hb];simp[h2])];simp +contextual (disch:=omega) only[Tryz.f101,HM,go_sem,simprocAttr,Gq,↓AD,↓AC,↓AB,↓AA,hp,hq,spanAV];repeat' (first|intro _|apply And.intro|(unfold dOk;kernel_rfl)|exact St.beq_refl _|exact AQ|(show altO _ _ _ _=true;kernel_rfl)|(show (_||_)=true;kernel_rfl)|(show (_&&_)=true;kernel_rfl))
      all_goals exact fzEq rfl rfl
     ·simp +contextual (disch:=omega) only[Tryz.f101,HM,go_sem,simprocAttr,Gq,↓AD,↓AC,↓AB,↓AA,hp,hq,spanAV];repeat' (first|intro _|apply And.intro|(unfold dOk;kernel_rfl)|exact St.beq_refl _|exact AQ|(show altO _ _ _ _=true;kernel_rfl)|(show (_||_)=true;kernel_rfl)|(show (_&&_)=true;kernel_rfl))
      ·exact ext (by rw[hb];simp[h2]) _ ‹_›
      ·exact(by first|rfl|(refine BI (n:=0) (m:=⟨some [12,11,10,1,0],some 0,[]⟩) rfl rfl ?_ ?_ ?_<;>first|rfl|(simp[keepT,AV.underL,AV.under,MB.under,AE,AK,AU,AG,AF,AL,AM,-map_take,-map_replicate,-map_set];done)|(simp[keepT,AV.underL,AV.under,MB.under,AE,AK,AU,AG,AF,AL,AM,-map_take,-map_replicate,-map_set];omega)))
  ·intro hg;rw[DT (by omega) hg];simp +contextual (disch:=omega) only[Tryz.f101,HM,go_sem,simprocAttr,Gq,↓AD,↓AC,↓AB,↓AA];exact fzEq rfl rfl
end
end Go.Ev
