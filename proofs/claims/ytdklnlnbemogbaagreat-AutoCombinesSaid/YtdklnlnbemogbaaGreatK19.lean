/- The classes of symbols that are alike for some sets: plain laws. -/
import Derived.Test.YtdklnlnbemogbaaGreatK18
set_option linter.unusedVariables false
set_option linter.unusedSimpArgs false
open List (any_eq_true append_assoc cons_append getElem_mem length_append length_cons map_append mem_append mem_append_left mem_cons mem_filter mem_map mem_range mem_singleton pairwise_append pairwise_cons take_add_one take_length)
open Nat (le_refl lt_or_ge)
open Option (getD_some map_some)
open Go.Proofs Go.RowKit Go.IntWalk
set_option maxHeartbeats 4000000
set_option maxRecDepth 100000
namespace Go.Ev
abbrev Spans:=List (Int×Int)
def addI (O:Spans) (p:Int×Int):Spans:=
 match O.getLast? with
 | some q=>if p.1<=q.2+1 then O.dropLast++[(q.1,max q.2 p.2)] else O++[p]
 | none=>[p]
theorem Do (p:Int×Int):addI [] p=[p]:=rfl
theorem CP (O:Spans) (q p:Int×Int):addI (O++[q]) p=if p.1<=q.2+1 then O++[(q.1,max q.2 p.2)] else O++[q]++[p]:=by
 simp[addI]
theorem GG (O:Spans) (p:Int×Int):O.length<=(addI O p).length/\(addI O p).length<=O.length+1/\0<(addI O p).length:=by
 rcases List.eq_nil_or_concat O with rfl|⟨O',q,rfl⟩
 ·simp[Do]
 ·rw[List.concat_eq_append,CP];split<;>simp
structure SetV (s:Spans):Prop where
 sep:s.Pairwise fun p q=>p.2+2<=q.1
 good:∀ p∈s,0<=p.1/\p.1<=p.2/\p.2<=1114111
def colA (L:List Spans) (x:Int):List Bool:=L.map fun s=>hasSpan s x
def lastP (E:List Int) (top:Int) (k:Nat):Int:=(E[k]?).getD (top+1)
def pieceA (E:List Int) (top:Int) (k:Nat):Int×Int:=(lastP E top k,lastP E top (k+1)-1)
def colK (L:List Spans) (E:List Int) (top:Int) (k:Nat):List Bool:=colA L (lastP E top k)
section classes
variable (col:Nat->List Bool) (pc:Nat->Int×Int)
def firsts:Nat->List (List Bool)
 | 0=>[]
 | n+1=>if col n∈firsts n then firsts n else firsts n++[col n]
def clsOf (c:List Bool):Nat->Spans
 | 0=>[]
 | n+1=>if col n=c then addI (clsOf c n) (pc n) else clsOf c n
def classesA (n:Nat):List Spans:=(firsts col n).map fun c=>clsOf col pc c n
def tooBig (n:Nat):Prop:=1024<(firsts col n).length∨∃ c∈firsts col n,64<(clsOf col pc c n).length
variable {col pc}
theorem BB {c:List Bool}:∀ {n:Nat},c∈firsts col n↔∃ k,k<n/\col k=c
 | 0=>by simp[firsts]
 | n+1=>by
   have ih:=BB (c:=c) (n:=n);have e:(∃ k,k<n+1/\col k=c)↔(c∈firsts col n∨col n=c):=by
    rw[ih];constructor
    ·rintro⟨k,h1,h2⟩;rcases Nat.lt_succ_iff_lt_or_eq.1 h1 with h3|rfl
     ·exact .inl ⟨k,h3,h2⟩
     ·exact .inr h2
    ·rintro(⟨k,h1,h2⟩|h)
     ·exact⟨k,by omega,h2⟩
     ·exact⟨n,by omega,h⟩
   rw[e];simp only[firsts];split
   ·rename_i h;exact⟨.inl,fun h1=>h1.elim id fun h2=>h2 ▸ h⟩
   ·rw[mem_append,mem_singleton];exact⟨fun h1=>h1.imp id Eq.symm,fun h1=>h1.imp id Eq.symm⟩
theorem Bm:∀ n,(firsts col n).Nodup
 | 0=>.nil
 | n+1=>by
   simp only[firsts];split
   ·exact Bm n
   ·rename_i h;exact List.nodup_append.2 ⟨Bm n,by simp,fun x hx y hy e=>h (by rw[<- mem_singleton.1 hy,<- e];exact hx)⟩
theorem IX (n:Nat):∃ m,firsts col (n+1)=firsts col n++m:=by
 simp only[firsts];split
 ·exact⟨[],by simp⟩
 ·exact⟨_,rfl⟩
theorem Pi {n m:Nat} (h:n<=m):∃ k,firsts col m=firsts col n++k:=by
 induction h with
 | refl=>exact⟨[],by simp⟩
 | step h ih=>
   obtain⟨k,hk⟩:=ih;obtain⟨k2,hk2⟩:=IX (col:=col) _;exact⟨k++k2,by rw[hk2,hk,append_assoc]⟩
theorem IY (n:Nat):(firsts col n).length<=n:=by
 induction n with
 | zero=>simp[firsts]
 | succ n ih=>simp only[firsts];split<;>(try simp only[length_append,List.length_singleton])<;>omega
theorem LB (c:List Bool) {n m:Nat} (h:n<=m):(clsOf col pc c n).length<=(clsOf col pc c m).length:=by
 induction h with
 | refl=>exact le_refl _
 | @step m h ih=>
   simp only[clsOf];split
   ·have:=(GG (clsOf col pc c m) (pc m)).1;omega
   ·exact ih
theorem Py (c:List Bool) (n:Nat):(clsOf col pc c n).length<=n:=by
 induction n with
 | zero=>simp[clsOf]
 | succ n ih=>
   simp only[clsOf];split
   ·have:=(GG (clsOf col pc c n) (pc n)).2.1;omega
   ·omega
theorem KQ {c:List Bool}{n:Nat} (h:c ∉ firsts col n):clsOf col pc c n=[]:=by
 induction n with
 | zero=>rfl
 | succ n ih=>
   have h2:c ∉ firsts col n:=fun hm=>h (by
    obtain⟨m,e⟩:=IX (col:=col) n;rw[e];exact mem_append_left _ hm)
   have h3:col n≠c:=fun e=>h (BB.2 ⟨n,by omega,e⟩);simp only[clsOf,if_neg h3];exact ih h2
theorem Gk {c:List Bool}{n:Nat} (h:c∈firsts col n):0<(clsOf col pc c n).length:=by
 induction n with
 | zero=>simp[firsts]at h
 | succ n ih=>
   simp only[clsOf];split
   ·exact(GG _ _).2.2
   ·rename_i h3;refine ih ?_;obtain⟨k,h1,h2⟩:=BB.1 h;rcases Nat.lt_succ_iff_lt_or_eq.1 h1 with h4|rfl
    ·exact BB.2 ⟨k,h4,h2⟩
    ·exact absurd h2 h3
theorem LW {n m:Nat} (h:n<=m) (hb:tooBig col pc n):tooBig col pc m:=by
 obtain⟨k,hk⟩:=Pi (col:=col) h;rcases hb with hb|⟨c,hc,hl⟩
 ·left;rw[hk,length_append];omega
 ·right;exact⟨c,by rw[hk];exact mem_append_left _ hc,Nat.lt_of_lt_of_le hl (LB c h)⟩
theorem BJ (n:Nat):(classesA col pc n).length=(firsts col n).length:=by simp[classesA]
theorem Eh {n j:Nat} (h:(firsts col n)[j]?=some (col n)):firsts col (n+1)=firsts col n/\classesA col pc (n+1)=(classesA col pc n).set j (addI (clsOf col pc (col n) n) (pc n))/\(classesA col pc n)[j]?=some (clsOf col pc (col n) n):=by
 have hm:col n∈firsts col n:=zgc h;have h1:firsts col (n+1)=firsts col n:=by simp only[firsts,if_pos hm]
 refine⟨h1,?_,by simp[classesA,h]⟩;have hj:=(zgb.1 h).1;refine List.ext_getElem? fun i=>?_;rw[List.getElem?_set];unfold classesA;rw[h1,List.getElem?_map,List.getElem?_map,List.length_map];by_cases e:j=i
 ·subst e;rw[if_pos rfl,if_pos hj,h];simp[clsOf]
 ·rw[if_neg e];rcases lt_or_ge i (firsts col n).length with hi|hi
  ·have hne:col n≠(firsts col n)[i]:=fun e2=>by
    have h3:=(zgb.1 h).2;have hnd:=List.pairwise_iff_getElem.1 (Bm (col:=col) n);rcases Nat.lt_or_gt_of_ne e with h4|h4
    ·exact hnd j i hj hi h4 (h3.trans e2)
    ·exact hnd i j hi hj h4 (e2.symm.trans h3.symm)
   rw[zga hi];simp[clsOf,hne]
  ·rw[List.getElem?_eq_none hi];rfl
theorem Ei {n:Nat} (h:col n ∉ firsts col n):firsts col (n+1)=firsts col n++[col n]/\classesA col pc (n+1)=classesA col pc n++[[pc n]]:=by
 have h1:firsts col (n+1)=firsts col n++[col n]:=by simp only[firsts,if_neg h]
 refine⟨h1,?_⟩;unfold classesA;rw[h1,map_append];congr 1
 ·refine List.map_congr_left fun c hc=>?_;have:col n≠c:=fun e=>h (by rw[e];exact hc);simp[clsOf,this]
 ·simp[clsOf,KQ h,Do]
end classes
open Classical in
noncomputable def splitA (L:List Spans) (E:List Int) (top:Int):Option (List Spans):=
 if tooBig (colK L E top) (pieceA E top) E.length then none else some (classesA (colK L E top) (pieceA E top) E.length)
theorem B8 {L:List Spans}{E:List Int}{top:Int}{n:Nat} (hn:n<=E.length) (h:tooBig (colK L E top) (pieceA E top) n):splitA L E top=none:=by
 unfold splitA;rw[if_pos (LW hn h)]
theorem GM {L:List Spans}{E:List Int}{top:Int} (h:¬ tooBig (colK L E top) (pieceA E top) E.length):splitA L E top=some (classesA (colK L E top) (pieceA E top) E.length):=by
 unfold splitA;rw[if_neg h]
def putL (l:List Int) (n top:Int):List Int:=
 if n > top∨n∈l then l else l.filter (fun x=>decide (x<n))++[n]++l.filter (fun x=>decide (n<x))
def putS (top:Int) (l:List Int) (s:Spans):List Int:=s.foldl (fun l p=>putL (putL l p.1 top) (p.2+1) top) l
def endsR (L:List Spans) (top:Int):List Int:=L.foldl (putS top) [0]
structure EndsOk (top:Int) (l:List Int):Prop where
 sorted:l.Pairwise (·< ·)
 le:∀ x∈l,0<=x/\x<=top
 zero:0∈l
theorem Fp {l:List Int}{n top x:Int}:x∈putL l n top↔x∈l∨(x=n/\n<=top):=by
 unfold putL;split
 ·rename_i h;constructor
  ·exact .inl
  ·rintro(h1|⟨rfl,h1⟩)
   ·exact h1
   ·rcases h with h|h
    ·omega
    ·exact h
 ·rename_i h;have h1:n<=top:=by omega
  have h2:n ∉ l:=fun e=>h (.inr e);simp only[mem_append,mem_filter,mem_singleton,decide_eq_true_eq];constructor
  ·rintro((⟨h3,h4⟩|rfl)|⟨h3,h4⟩)
   ·exact .inl h3
   ·exact .inr ⟨rfl,h1⟩
   ·exact .inl h3
  ·rintro(h3|⟨rfl,h4⟩)
   ·rcases Int.lt_trichotomy x n with h5|h5|h5
    ·exact .inl (.inl ⟨h3,h5⟩)
    ·exact .inl (.inr h5)
    ·exact .inr ⟨h3,h5⟩
   ·exact .inl (.inr rfl)
theorem EndsOk.put {top:Int}{l:List Int} (h:EndsOk top l) {n:Int} (hn:0<=n):EndsOk top (putL l n top):=by
 refine⟨?_,fun x hx=>?_,Fp.2 (.inl h.zero)⟩
 ·unfold putL;split
  ·exact h.sorted
  ·refine pairwise_append.2 ⟨pairwise_append.2 ⟨h.sorted.filter _,by simp,fun a ha b hb=>?_⟩,h.sorted.filter _,fun a ha b hb=>?_⟩
   ·rw[mem_singleton.1 hb];have:=(mem_filter.1 ha).2
    simpa using this
   ·have h2:=(mem_filter.1 hb).2;simp at h2;rcases mem_append.1 ha with ha|ha
    ·have:=(mem_filter.1 ha).2;simp at this;omega
    ·rw[mem_singleton.1 ha];exact h2
 ·rcases Fp.1 hx with h1|⟨rfl,h1⟩
  ·exact h.le x h1
  ·exact⟨hn,h1⟩
theorem Fq (l:List Int) (n top:Int):(putL l n top).length<=l.length+1:=by
 unfold putL;split
 ·omega
 ·rename_i h;have h2:n ∉ l:=fun e=>h (.inr e);have h3:∀ l:List Int,(l.filter fun x=>decide (x<n)).length+(l.filter fun x=>decide (n<x)).length<=l.length:=by
   intro l
   induction l with
   | nil=>simp
   | cons a l ih=>
     by_cases h5:a<n
     ·have h6:¬ n<a:=by omega
      simp[List.filter_cons,h5,h6];omega
     ·by_cases h6:n<a
      ·simp[List.filter_cons,h5,h6];omega
      ·simp[List.filter_cons,h5,h6];omega
  have:=h3 l;simp only[length_append,List.length_singleton];omega
theorem C8 {top:Int}:∀ {s:Spans}{l:List Int},EndsOk top l->(∀ p∈s,0<=p.1/\p.1<=p.2)->EndsOk top (putS top l s)/\(putS top l s).length<=l.length+2*s.length /\
  ∀ x,x∈putS top l s↔x∈l∨∃ p∈s,(x=p.1∨x=p.2+1)/\x<=top
 | [],l,h,_=>⟨h,by simp[putS],fun x=>by simp[putS]⟩
 | p::s,l,h,hs=>by
   have hp:=hs p (by simp);obtain⟨h1,h2,h3⟩:=C8 (s:=s) ((h.put hp.1).put (n:=p.2+1) (by omega)) (fun q hq=>hs q (by simp[hq]));have l1:=Fq l p.1 top;have l2:=Fq (putL l p.1 top) (p.2+1) top;refine⟨h1,?_,fun x=>?_⟩
   ·show (putS top (putL (putL l p.1 top) (p.2+1) top) s).length<=_;simp only[length_cons];omega
   ·show x∈putS top (putL (putL l p.1 top) (p.2+1) top) s↔_;rw[h3,Fp,Fp];constructor
    ·rintro(((h4|⟨rfl,h4⟩)|⟨rfl,h4⟩)|⟨q,h4,h5⟩)
     ·exact .inl h4
     ·exact .inr ⟨p,by simp,.inl rfl,h4⟩
     ·exact .inr ⟨p,by simp,.inr rfl,h4⟩
     ·exact .inr ⟨q,by simp[h4],h5⟩
    ·rintro(h4|⟨q,h4,h5,h6⟩)
     ·exact .inl (.inl (.inl h4))
     ·rcases mem_cons.1 h4 with rfl|h4
      ·rcases h5 with rfl|rfl
       ·exact .inl (.inl (.inr ⟨rfl,h6⟩))
       ·exact .inl (.inr ⟨rfl,h6⟩)
      ·exact .inr ⟨q,h4,h5,h6⟩
theorem Ih {top:Int}:∀ {L:List Spans}{l:List Int},EndsOk top l->(∀ s∈L,∀ p∈s,0<=p.1/\p.1<=p.2)->EndsOk top (L.foldl (putS top) l) /\
  ∀ x,x∈L.foldl (putS top) l↔x∈l∨∃ s∈L,∃ p∈s,(x=p.1∨x=p.2+1)/\x<=top
 | [],l,h,_=>⟨h,fun x=>by simp⟩
 | s::L,l,h,hs=>by
   obtain⟨h1,_,h2⟩:=C8 (s:=s) h (hs s (by simp));obtain⟨h3,h4⟩:=Ih (L:=L) h1 (fun t ht=>hs t (by simp[ht]));refine⟨h3,fun x=>?_⟩;show x∈L.foldl (putS top) (putS top l s)↔_;rw[h4,h2];constructor
   ·rintro((h5|⟨p,h5,h6⟩)|⟨t,h5,p,h6,h7⟩)
    ·exact .inl h5
    ·exact .inr ⟨s,by simp,p,h5,h6⟩
    ·exact .inr ⟨t,by simp[h5],p,h6,h7⟩
   ·rintro(h5|⟨t,h5,p,h6,h7⟩)
    ·exact .inl (.inl h5)
    ·rcases mem_cons.1 h5 with rfl|h5
     ·exact .inl (.inr ⟨p,h6,h7⟩)
     ·exact .inr ⟨t,h5,p,h6,h7⟩
theorem KJ {top:Int} (h:0<=top):EndsOk top [0]:=⟨by simp,fun x hx=>by rw[mem_singleton.1 hx];omega,by simp⟩
theorem C0 {L:List Spans}{top:Int} (h:0<=top) (hs:∀ s∈L,SetV s):EndsOk top (endsR L top):=(Ih (KJ h) fun s hs' p hp=>⟨((hs s hs').good p hp).1,((hs s hs').good p hp).2.1⟩).1
theorem Ey {L:List Spans}{top:Int} (h:0<=top) (hs:∀ s∈L,SetV s) {x:Int}:x∈endsR L top↔x=0∨∃ s∈L,∃ p∈s,(x=p.1∨x=p.2+1)/\x<=top:=by
 have:=(Ih (KJ h) fun s hs' p hp=>⟨((hs s hs').good p hp).1,((hs s hs').good p hp).2.1⟩).2 x;rw[mem_singleton]at this;exact this
def endS (top:Int) (i:Nat) (s:Spans):List (Int×Int):=s.flatMap fun p=>(if p.1<=top then [(p.1,(i:Int))] else [])++(if p.2+1<=top then [(p.2+1,(i:Int))] else [])
def endsP (top:Int):Nat->List Spans->List (Int×Int)
 | _,[]=>[]
 | i,s::L=>endS top i s++endsP top (i+1) L
theorem GA {top:Int}{i:Nat}{s:Spans}{e:Int×Int}:e∈endS top i s↔e.2=i/\∃ p∈s,(e.1=p.1∨e.1=p.2+1)/\e.1<=top:=by
 unfold endS;simp only[List.mem_flatMap,mem_append];constructor
 ·rintro⟨p,hp,h|h⟩
  ·split at h
   ·rw[mem_singleton.1 h];exact⟨rfl,p,hp,.inl rfl,by assumption⟩
   ·simp at h
  ·split at h
   ·rw[mem_singleton.1 h];exact⟨rfl,p,hp,.inr rfl,by assumption⟩
   ·simp at h
 ·rintro⟨h1,p,hp,h2,h3⟩;obtain⟨a,b⟩:=e;simp only at h1 h2 h3;refine⟨p,hp,?_⟩;rcases h2 with rfl|rfl
  ·left;rw[if_pos h3,h1];simp
  ·right;rw[if_pos h3,h1];simp
theorem Ez {top:Int}:∀ {L:List Spans}{i:Nat}{e:Int×Int},e∈endsP top i L->(∃ k:Nat,e.2=(k:Int)/\i<=k/\k<i+L.length)/\∃ s∈L,∃ p∈s,(e.1=p.1∨e.1=p.2+1)/\e.1<=top
 | [],i,e,h=>by simp[endsP]at h
 | s::L,i,e,h=>by
   rcases mem_append.1 h with h|h
   ·obtain⟨h1,h2⟩:=GA.1 h;exact⟨⟨i,h1,by omega,by simp only[length_cons];omega⟩,s,by simp,h2⟩
   ·obtain⟨⟨k,h1,h2,h3⟩,t,ht,h4⟩:=Ez h;exact⟨⟨k,h1,by omega,by simp only[length_cons];omega⟩,t,by simp[ht],h4⟩
theorem KH {top:Int}{x:Int}:∀ {L:List Spans}{i:Nat},(∃ s∈L,∃ p∈s,(x=p.1∨x=p.2+1)/\x<=top)->∃ e∈endsP top i L,e.1=x
 | [],i,⟨s,h,_⟩=>by simp at h
 | s::L,i,⟨t,ht,h⟩=>by
   rcases mem_cons.1 ht with rfl|ht
   ·exact⟨(x,(i:Int)),mem_append_left _ (GA.2 ⟨rfl,h⟩),rfl⟩
   ·obtain⟨e,he,h2⟩:=KH (L:=L) (i:=i+1) ⟨t,ht,h⟩;exact⟨e,List.mem_append_right _ he,h2⟩
theorem Md (top:Int) (i:Nat) (s:Spans):(endS top i s).length<=2*s.length:=by
 unfold endS
 induction s with
 | nil=>simp
 | cons p s ih=>
   simp only[List.flatMap_cons,length_append,length_cons]at ih |-;have h1:(if p.1<=top then [(p.1,(i:Int))] else []).length<=1:=by split<;>simp
   have h2:(if p.2+1<=top then [(p.2+1,(i:Int))] else []).length<=1:=by split<;>simp
   omega
theorem E0 {top:Int}:∀ {L:List Spans}{i:Nat},(∀ s∈L,s.length<=64)->(endsP top i L).length<=128*L.length
 | [],i,_=>by simp[endsP]
 | s::L,i,h=>by
   have h1:=Md top i s;have h2:=E0 (top:=top) (L:=L) (i:=i+1) (fun t ht=>h t (by simp[ht]));have h3:=h s (by simp);simp only[endsP,length_append,length_cons];omega
theorem Pv {s:Spans} (h:SetV s) {x top:Int} (hx:x<=top) (i:Nat):(endS top i s).countP (fun e=>decide (e.1<=x)) % 2=if hasSpan s x then 1 else 0:=by
 have key:∀ s:Spans,(s.Pairwise fun p q=>p.2+2<=q.1)->(∀ p∈s,p.1<=p.2)->(endS top i s).countP (fun e=>decide (e.1<=x)) % 2=if hasSpan s x then 1 else 0:=by
  intro s
  induction s with
  | nil=>intro _ _;rfl
  | cons p s ih=>
    intro h1 h2;have ih:=ih (List.Pairwise.of_cons h1) (fun q hq=>h2 q (by simp[hq]));have hp:=h2 p (by simp);have h3:=(pairwise_cons.1 h1).1;have e:endS top i (p::s)=((if p.1<=top then [(p.1,(i:Int))] else [])++(if p.2+1<=top then [(p.2+1,(i:Int))] else []))++endS top i s:=rfl;have hh:hasSpan (p::s) x=((decide (p.1<=x)&&decide (x<=p.2))||hasSpan s x):=rfl;have c1:(if p.1<=top then [(p.1,(i:Int))] else []).countP (fun e=>decide (e.1<=x))=if p.1<=x then 1 else 0:=by
     by_cases h4:p.1<=x
     ·rw[if_pos (show p.1<=top by omega),if_pos h4];simp[h4]
     ·rw[if_neg h4];split<;>simp[h4]
    have c2:(if p.2+1<=top then [(p.2+1,(i:Int))] else []).countP (fun e=>decide (e.1<=x))=if p.2+1<=x then 1 else 0:=by
     by_cases h4:p.2+1<=x
     ·rw[if_pos (show p.2+1<=top by omega),if_pos h4];simp[h4]
     ·rw[if_neg h4];split<;>simp[h4]
    rw[e,List.countP_append,List.countP_append,c1,c2,hh];by_cases h4:p.1<=x
    ·by_cases h5:x<=p.2
     ·have h6:hasSpan s x=false:=by
       unfold hasSpan;rw[List.any_eq_false];intro q hq;have:=h3 q hq;simp;omega
      have h7:¬ p.2+1<=x:=by omega
      rw[h6]at ih;simp only[h6,h4,h5,h7,if_true,if_false,decide_true,Bool.and_self,Bool.or_false];simp at ih |-;omega
     ·have h7:p.2+1<=x:=by omega
      simp only[h4,h5,h7,if_true,decide_true,decide_false,Bool.and_false,Bool.false_or];rw[<- ih];omega
    ·have h7:¬ p.2+1<=x:=by omega
     simp only[h4,h7,if_false,decide_false,Bool.false_and,Bool.false_or];rw[<- ih];simp
 exact key s h.sep (fun p hp=>(h.good p hp).2.1)
theorem Ns {top:Int}{i j:Nat} (h:i≠j) (s:Spans) (x:Int):(endS top i s).countP (fun e=>decide (e.1<=x)&&decide (e.2=(j:Int)))=0:=by
 rw[List.countP_eq_zero];intro e he;have:=(GA.1 he).1;simp[this];intro _;omega
theorem Pr {top:Int}{i:Nat} (s:Spans) (x:Int):(endS top i s).countP (fun e=>decide (e.1<=x)&&decide (e.2=(i:Int)))=(endS top i s).countP (fun e=>decide (e.1<=x)):=by
 refine List.countP_congr fun e he=>?_;have:=(GA.1 he).1;simp[this]
theorem Ir {top x:Int} (hx:x<=top):∀ {L:List Spans}{i j:Nat},(∀ s∈L,SetV s)->i<=j->(endsP top i L).countP (fun e=>decide (e.1<=x)&&decide (e.2=(j:Int))) % 2=if(colA L x).getD (j-i) false then 1 else 0
 | [],i,j,_,_=>by simp[endsP,colA]
 | s::L,i,j,h,hij=>by
   simp only[endsP,List.countP_append];rcases lt_or_ge i j with h1|h1
   ·have ih:=Ir hx (L:=L) (i:=i+1) (j:=j) (fun t ht=>h t (by simp[ht])) h1;rw[Ns (by omega),Nat.zero_add,ih];obtain⟨k,rfl⟩:∃ k,j=i+1+k:=⟨j-(i+1),by omega⟩;have e1:i+1+k-(i+1)=k:=by omega
    have e2:i+1+k-i=k+1:=by omega
    rw[e1,e2];simp[colA]
   ·obtain rfl:j=i:=by omega
    have h2:(endsP top (j+1) L).countP (fun e=>decide (e.1<=x)&&decide (e.2=(j:Int)))=0:=by
     rw[List.countP_eq_zero];intro e he;obtain⟨⟨k,h3,h4,h5⟩,_⟩:=Ez he;simp[h3];intro _;omega
    rw[h2,Nat.add_zero,Pr,Pv (h s (by simp)) hx];simp[colA]
end Go.Ev
namespace Go.Ev
attribute [local go_sem] evAppend evBin AV.cells strOf An As bndO bnd evEq eqCells not_false_eq_true not_true_eq_false toList_some Array.size_empty length_append map_append tySzE List.head?_drop Nat.mul_one Ac Aj Aa Ad Ae AW
section
def topF (l:List (Int×Int)):Int:=l.foldl (fun o p=>max o p.2) (-1)
theorem OD:∀(l:List (Int×Int)) (o:Int),-1<=o->l.foldl (fun o p=>max o p.2) o=max o (topZ l)
 | [],o,h=>by simp only[List.foldl_nil,topZ];omega
 | p::l,o,h=>by rw[List.foldl_cons,OD l _ (by omega),topZ];omega
theorem Rh (l:List (Int×Int)):topF l=topZ l:=by
 have:=Fk l;rw[topF,OD l (-1) (by omega)];omega
theorem O7 (l:List (Int×Int)) (p:Int×Int):topF (l++[p])=max (topF l) p.2:=by simp[topF]
theorem KD {L:Cls}{i:Nat}{s:List (Int×Int)} (h:L[i]?=some s):(L.take (i+1)).flatten=(L.take i).flatten++s:=by
 rw[take_add_one,h,Option.toList_some,List.flatten_append];simp
theorem Jk {s:List (Int×Int)}{k:Nat}{p:Int×Int} (h:s[k]?=some p):s.take (k+1)=s.take k++[p]:=by
 rw[take_add_one,h];rfl
theorem f134 (L:Cls) (hl:L.length<=1000000) (hsl:∀ s∈L,s.length<=1000000) (H:List MB):call Pg pol1 134 [.sl false (L.map setAV9)] H=some (I (topZ L.flatten),H):=by
 have hpl:=AP L;rw[<- Rh];refine AQ Tryz.func134 rfl rfl rfl rfl rfl rfl (fun _=>rfl) (by simp[AV.plain,AV.plainL,hpl]) (by simp[AV.plain]) ?_ H;simp +contextual (disch:=omega) only[Tryz.f134,Mh,go_sem,simprocAttr,Lu];refine AS (M:=(Ms 134 3)) rfl L.length (fun i=>(⟨32,[(4,I i),(3,I (topF (L.take i).flatten)),(0,.sl false (L.map setAV9))],[]⟩:St)) (fun i=>True) ?_ ?_ trivial _ rfl
 ·intro i hi _;obtain⟨s,hsi⟩:∃ s,L[i]?=some s:=⟨_,zga hi⟩;have hsi':(L.map setAV9)[i]?=some (setAV9 s):=by simp[hsi]
  have hs1:=hsl s (zgc hsi);rw[KD hsi];generalize (L.take i).flatten=F;simp +contextual (disch:=omega) only[Tryz.f134,Mh,go_sem,simprocAttr,Lu];refine AS (M:=(Ms 134 6)) rfl s.length (fun k=>(⟨32,[(5,I k),(4,I i),(3,I (topF (F++s.take k))),(0,.sl false (L.map setAV9))],[]⟩:St)) (fun i=>True) ?_ ?_ trivial _ (by rw[List.take_zero,List.append_nil];rfl)
  ·intro k hk _;obtain⟨p,hp⟩:∃ p,s[k]?=some p:=⟨_,zga hk⟩;have hp':(s.map spanAV)[k]?=some (spanAV p):=by simp[hp]
   rw[Jk hp,<- append_assoc,O7];simp +contextual (disch:=omega) only[Tryz.f134,Mh,go_sem,simprocAttr,Lu,hsi',hp',Gg];rfl
  ·intro _;rw[take_length];simp +contextual (disch:=omega) only[Tryz.f134,Mh,go_sem,simprocAttr,Lu,hsi'];rfl
 ·intro _;rw[take_length];simp +contextual (disch:=omega) only[Tryz.f134,Mh,go_sem,simprocAttr,Lu];exact fzEq rfl rfl
theorem Hh:∀(A B:List (Int×Int)),sumZ (A++B)=sumZ A+sumZ B
 | [],B=>by simp[sumZ]
 | p::A,B=>by rw[cons_append,sumZ,sumZ,Hh A B];omega
theorem f135 (s:List (Int×Int)) (h:refSpans s=0) (H:List MB):call Pg pol1 135 [.sl false (s.map spanAV)] H=some (.tup [I (sumZ s),I 0],H):=by
 have hpl:=AH s;have hlen:=(Az h).2;have hmem:=At h;have h119:=f119 s (by omega);rw[h]at h119;refine AQ Tryz.func135 rfl rfl rfl rfl rfl rfl (fun _=>rfl) (by simp[AV.plain,AV.plainL,hpl]) (by simp[AV.plain,AV.plainL]) ?_ H;simp +contextual (disch:=omega) only[Tryz.f135,RF,go_sem,simprocAttr,Qq,h119];refine AS (M:=(Ms 135 6)) rfl s.length (fun k=>(⟨33,[(6,I k),(5,I (sumZ (s.take k))),(0,.sl false (s.map spanAV))],[]⟩:St)) (fun k=>0<=sumZ (s.take k)/\sumZ (s.take k)<=1114112*(k:Int)) ?_ ?_ ⟨by simp[sumZ],by simp[sumZ]⟩ _ rfl
 ·intro k hk hb;obtain⟨p,hp⟩:∃ p,s[k]?=some p:=⟨_,zga hk⟩;have hp':(s.map spanAV)[k]?=some (spanAV p):=by simp[hp]
  have hpb:=hmem p (zgc hp);have hst:sumZ (s.take (k+1))=sumZ (s.take k)+p.2-p.1+1:=by rw[Jk hp,Hh,sumZ,sumZ];omega
  rw[hst];generalize sumZ (s.take k)=m at *;have w1:IntKind.i64.wrap (m+p.2)=m+p.2:=by rw[i64_in];omega
  have w2:IntKind.i64.wrap (m+p.2-p.1)=m+p.2-p.1:=by rw[i64_in];omega
  have w3:IntKind.i64.wrap (m+p.2-p.1+1)=m+p.2-p.1+1:=by rw[i64_in];omega
  simp +contextual (disch:=omega) only[Tryz.f135,RF,go_sem,simprocAttr,Qq,hp',w1,w2,w3];exact⟨by unfold dOk;kernel_rfl,rfl⟩
 ·intro hb;rw[take_length];simp +contextual (disch:=omega) only[Tryz.f135,RF,go_sem,simprocAttr,Qq];exact fzEq rfl rfl
end
section
theorem Qs {s t:List (Int×Int)}{a b:Nat}{p q:Int×Int} (ha:s[a]?=some p) (hb:t[b]?=some q) (h:p.1<=q.2/\q.1<=p.2):meetS s t=true:=by
 unfold meetS;rw[any_eq_true];refine⟨p,zgc ha,?_⟩;rw[any_eq_true];exact⟨q,zgc hb,by simp[h]⟩
theorem NR {s t:List (Int×Int)} (h:∀ a,a<s.length->∀ p,s[a]?=some p->∀ b,b<t.length->∀ q,t[b]?=some q->¬ (p.1<=q.2/\q.1<=p.2)):meetS s t=false:=by
 rw[GS];intro p hp q hq;obtain⟨a,ha,e1⟩:=List.getElem_of_mem hp;obtain⟨b,hb,e2⟩:=List.getElem_of_mem hq;have:=h a ha p (by rw[zga ha,e1]) b hb q (by rw[zga hb,e2]);unfold apartZ;omega
theorem Ht {L:Cls}{i:Nat} (hi:i<L.length) (h:(badC L i||badM L i)=true):partedA L=false:=by
 have:(List.range L.length).any (fun i=>badC L i||badM L i)=true:=any_eq_true.2 ⟨i,mem_range.2 hi,h⟩;simp[partedA,this]
theorem Lq {L:Cls} (ht:topZ L.flatten=255∨topZ L.flatten=1114111) (h:∀ k,k<L.length->(badC L k||badM L k)=false):partedA L=decide (sumZ L.flatten=topZ L.flatten+1):=by
 have:(List.range L.length).any (fun i=>badC L i||badM L i)=false:=by
  rw[List.any_eq_false];intro k hk;rw[h k (mem_range.1 hk)];simp
 have h2:(decide (topZ L.flatten=255)||decide (topZ L.flatten=1114111))=true:=by simpa using ht
 rw[partedA,this,h2];rfl
theorem Hg:∀ {s:List (Int×Int)},(∀ p∈s,0<=p.1/\p.1<=p.2/\p.2<=1114111)->0<=sumZ s/\sumZ s<=1114112*(s.length:Int)
 | [],_=>by simp[sumZ]
 | p::s,h=>by
   have h1:=h p (by simp);have h2:=Hg (s:=s) (fun q hq=>h q (by simp[hq]));rw[sumZ,length_cons];omega
theorem f76 (L:Cls) (hl:L.length<=1000000) (hsl:∀ s∈L,s.length<=1000000) (H:List MB):call Pg pol1 76 [.sl false (L.map setAV9)] H=some (.bool (partedA L),H):=by
 have hpl:=AP L;have h134:=f134 L hl hsl;refine AQ Tryz.func76 rfl rfl rfl rfl rfl rfl (fun _=>rfl) (by simp[AV.plain,AV.plainL,hpl]) (by simp[AV.plain]) ?_ H;by_cases ht:topZ L.flatten=255∨topZ L.flatten=1114111
 ·obtain⟨T,hT⟩:∃ T,T=topZ L.flatten:=⟨_,rfl⟩;rw[<- hT]at h134 ht;have hg:=fun h=>Lq (L:=L) (by rw[<- hT];exact ht) h;rw[<- hT]at hg;have ht2:¬ (T≠255/\T≠1114111):=by omega
  have go:(T=255/\¬ T≠255)∨(T≠255/\¬ T≠1114111):=by omega
  rcases go with ⟨_,n1⟩|⟨n1,n2⟩
  all_goals
   first
   | (have n3:=n2
      simp +contextual (disch:=omega) only[Tryz.f76,dd76,go_sem,simprocAttr,mu76,h134,n1,n3])
   | simp +contextual (disch:=omega) only[Tryz.f76,dd76,go_sem,simprocAttr,mu76,h134,n1]
   refine AS (M:=(Ms 76 6)) rfl L.length (fun i=>(⟨135,[(5,I i),(4,I (sumZ (L.take i).flatten)),(3,I T),(0,.sl false (L.map setAV9))],[]⟩:St)) (fun i=>(∀ k,k<i->(badC L k||badM L k)=false)/\0<=sumZ (L.take i).flatten/\sumZ (L.take i).flatten<=71303168*(i:Int)) ?_ ?_ ⟨fun k h=>by omega,by simp[sumZ],by simp[sumZ]⟩ _ rfl
   ·rintro i hi ⟨hinv,hb1,hb2⟩;obtain⟨s,hsi⟩:∃ s,L[i]?=some s:=⟨_,zga hi⟩;have hsi':(L.map setAV9)[i]?=some (setAV9 s):=by simp[hsi]
    have hs1:=hsl s (zgc hsi);have h119:=f119 s hs1;have bad:=fun(h:badC L i=true)=>Ht (L:=L) hi (by rw[h];rfl);cases s with
    | nil=>
      rw[bad (by simp[badC,hsi])];simp +contextual (disch:=omega) only[Tryz.f76,dd76,go_sem,simprocAttr,mu76,hsi'];exact⟨by unfold dOk;kernel_rfl,fzEq rfl rfl⟩
    | cons p s=>
      by_cases hv:refSpans (p::s)=0
      ·rw[hv]at h119;have h135:=f135 (p::s) hv;have hp0:((p::s).map spanAV)[0]?=some (spanAV p):=rfl;have hlen:=(Az hv).2;have hmem:=At hv;have hsz:sumZ (L.take (i+1)).flatten=sumZ (L.take i).flatten+sumZ (p::s):=by rw[KD hsi,Hh]
       have hsb:=Hg hmem;generalize hgs:sumZ (p::s)=z at *;rw[hsz];generalize sumZ (L.take i).flatten=m at *;have hw:IntKind.i64.wrap (m+z)=m+z:=by rw[i64_in];omega
       have hpre:i=0∨∃ k q t,i=k+1/\L[k]?=some (q::t):=by
        rcases i with _|k
        ·exact .inl rfl
        ·obtain⟨t,ht⟩:∃ t,L[k]?=some t:=⟨_,zga (by omega)⟩;have hbk:=(Bool.or_eq_false_iff.1 (hinv k (by omega))).1;cases t with
         | nil=>simp[badC,ht]at hbk
         | cons q t=>exact .inr ⟨k,q,t,rfl,ht⟩
       rcases hpre with rfl|⟨k,q,t,rfl,ht⟩
       ·have hbd:badC L 0=false:=by simp[badC,hsi,hv]
        have hall:∀ k,k<0+1->(badC L k||badM L k)=false:=fun k hk=>by
         obtain rfl:k=0:=by omega
         rw[hbd];rfl
        simp +contextual (disch:=omega) only[Tryz.f76,dd76,go_sem,simprocAttr,mu76,hsi',h119,h135,hp0,hw];refine⟨by unfold dOk;kernel_rfl,?_⟩;refine AS (M:=(Ms 76 13)) rfl 0 (fun j=>(⟨135,[(8,I j),(5,.int .i64 0),(4,I (m+z)),(3,I T),(0,.sl false (L.map setAV9))],[]⟩:St)) (fun j=>True) (fun j hj=>absurd hj (by omega)) ?_ trivial _ rfl;intro _;simp +contextual (disch:=omega) only[Tryz.f76,dd76,go_sem,simprocAttr,mu76];exact⟨hall,rfl⟩
       ·have ht':(L.map setAV9)[k]?=some (setAV9 (q::t)):=by simp[ht]
        have hq0:((q::t).map spanAV)[0]?=some (spanAV q):=rfl;have hbe:badC L (k+1)=decide (p.1<=q.1):=by
         simp only[badC,hsi,ht,hv,headLo];simp<;>rfl
        by_cases ho:p.1<=q.1
        ·rw[bad (by rw[hbe,decide_eq_true ho])];simp +contextual (disch:=omega) only[Tryz.f76,dd76,go_sem,simprocAttr,mu76,hsi',ht',h119,h135,hp0,hq0,hw,ho];exact⟨by unfold dOk;kernel_rfl,fzEq rfl rfl⟩
        ·have hbd:badC L (k+1)=false:=by rw[hbe,decide_eq_false ho]
         simp +contextual (disch:=omega) only[Tryz.f76,dd76,go_sem,simprocAttr,mu76,hsi',ht',h119,h135,hp0,hq0,hw,ho];refine⟨by unfold dOk;kernel_rfl,?_⟩;refine AS (M:=(Ms 76 13)) rfl (k+1) (fun j=>(⟨135,[(8,I j),(5,.int .i64 ((k+1:Nat):Int)),(4,I (m+z)),(3,I T),(0,.sl false (L.map setAV9))],[]⟩:St)) (fun j=>∀ u,u<j->meetS (p::s) (L[u]?.getD [])=false) ?_ ?_ (fun u h=>by omega) _ rfl
         ·intro j hj hjm;obtain⟨u,hu⟩:∃ u,L[j]?=some u:=⟨_,zga (by omega)⟩;have hu':(L.map setAV9)[j]?=some (setAV9 u):=by simp[hu]
          have hul:=hsl u (zgc hu);have hps:((p::s).map spanAV).length=(p::s).length:=by simp
          have badm:meetS (p::s) u=true->partedA L=false:=fun h=>Ht hi (by
           rw[Bool.or_eq_true];right;unfold badM;rw[any_eq_true];exact⟨j,mem_range.2 hj,by rw[hsi,hu];exact h⟩)
          generalize p::s=S at *;simp +contextual (disch:=omega) only[Tryz.f76,dd76,go_sem,simprocAttr,mu76];refine AS (M:=(Ms 76 16)) rfl S.length (fun a=>(⟨135,[(9,I a),(8,I j),(5,.int .i64 ((k+1:Nat):Int)),(4,I (m+z)),(3,I T),(0,.sl false (L.map setAV9))],[]⟩:St)) (fun a=>∀ a',a'<a->∀ p,S[a']?=some p->∀ b,b<u.length->∀ q,u[b]?=some q->¬ (p.1<=q.2/\q.1<=p.2)) ?_ ?_ (fun a' h=>by omega) _ rfl
          ·intro a ha ham;obtain⟨x,hx⟩:∃ x,S[a]?=some x:=⟨_,zga ha⟩;have hx':(S.map spanAV)[a]?=some (spanAV x):=by simp[hx]
           simp +contextual (disch:=omega) only[Tryz.f76,dd76,go_sem,simprocAttr,mu76,hsi'];refine AS (M:=(Ms 76 19)) rfl u.length (fun b=>(⟨135,[(10,I b),(9,I a),(8,I j),(5,.int .i64 ((k+1:Nat):Int)),(4,I (m+z)),(3,I T),(0,.sl false (L.map setAV9))],[]⟩:St)) (fun b=>∀ b',b'<b->∀ q,u[b']?=some q->¬ (x.1<=q.2/\q.1<=x.2)) ?_ ?_ (fun b' h=>by omega) _ rfl
           ·intro b hb hbm;obtain⟨y,hy⟩:∃ y,u[b]?=some y:=⟨_,zga hb⟩;have hy':(u.map spanAV)[b]?=some (spanAV y):=by simp[hy]
            by_cases c1:x.1<=y.2
            ·by_cases c2:y.1<=x.2
             ·rw[badm (Qs hx hy ⟨c1,c2⟩)];simp +contextual (disch:=omega) only[Tryz.f76,dd76,go_sem,simprocAttr,mu76,hsi',hu',hx',hy',c1,c2];exact⟨by unfold dOk;kernel_rfl,fzEq rfl rfl⟩
             ·simp +contextual (disch:=omega) only[Tryz.f76,dd76,go_sem,simprocAttr,mu76,hsi',hu',hx',hy',c1,c2];refine⟨by unfold dOk;kernel_rfl,fun b' hb' q hq=>?_,rfl⟩;rcases lt_or_ge b' b with h1|h1
              ·exact hbm b' h1 q hq
              ·obtain rfl:b' = b:=by omega
               rw[hy]at hq;cases hq;omega
            ·simp +contextual (disch:=omega) only[Tryz.f76,dd76,go_sem,simprocAttr,mu76,hsi',hu',hx',hy',c1];refine⟨by unfold dOk;kernel_rfl,fun b' hb' q hq=>?_,rfl⟩;rcases lt_or_ge b' b with h1|h1
             ·exact hbm b' h1 q hq
             ·obtain rfl:b' = b:=by omega
              rw[hy]at hq;cases hq;omega
           ·intro hbm;simp +contextual (disch:=omega) only[Tryz.f76,dd76,go_sem,simprocAttr,mu76,hu'];refine⟨fun a' ha' p' hp' b hb q hq=>?_,rfl⟩;rcases lt_or_ge a' a with h1|h1
            ·exact ham a' h1 p' hp' b hb q hq
            ·obtain rfl:a' = a:=by omega
             rw[hx]at hp';cases hp';exact hbm b hb q hq
          ·intro ham;simp +contextual (disch:=omega) only[Tryz.f76,dd76,go_sem,simprocAttr,mu76,hsi'];refine⟨fun w hw'=>?_,rfl⟩;rcases lt_or_ge w j with h1|h1
           ·exact hjm w h1
           ·obtain rfl:w=j:=by omega
            rw[hu,getD_some];exact NR ham
         ·intro hjm;have hall:∀ u,u<k+1+1->(badC L u||badM L u)=false:=fun u hu=>by
           by_cases e:u<k+1
           ·exact hinv u e
           ·obtain rfl:u=k+1:=by omega
            rw[hbd,Bool.false_or];unfold badM;rw[List.any_eq_false];intro w hw2;rw[hsi,getD_some,hjm w (mem_range.1 hw2)];simp
          simp +contextual (disch:=omega) only[Tryz.f76,dd76,go_sem,simprocAttr,mu76];exact⟨hall,rfl⟩
      ·rw[bad (by simp[badC,hsi,hv])];simp +contextual (disch:=omega) only[Tryz.f76,dd76,go_sem,simprocAttr,mu76,hsi',h119,hv];exact⟨by unfold dOk;kernel_rfl,fzEq rfl rfl⟩
   ·rintro⟨hinv,hb1,hb2⟩;rw[take_length]at *;rw[hg hinv];simp +contextual (disch:=omega) only[Tryz.f76,dd76,go_sem,simprocAttr,mu76];exact fzEq rfl rfl
 ·have hbad:partedA L=false:=by
   have h2:(decide (topZ L.flatten=255)||decide (topZ L.flatten=1114111))=false:=by simpa using ht
   simp[partedA,h2]
  rw[hbad];obtain⟨T,hT⟩:∃ T,T=topZ L.flatten:=⟨_,rfl⟩;rw[<- hT]at h134 ht;have t1:T≠255:=fun e=>ht (.inl e);have t2:T≠1114111:=fun e=>ht (.inr e);simp +contextual (disch:=omega) only[Tryz.f76,dd76,go_sem,simprocAttr,mu76,h134,t1,t2];exact fzEq rfl rfl
end
section
theorem Il (L:Cls):dividesA L=partedA L:=by
 cases h:ordC L with
 | false=>rw[NL h,D9 h]
 | true=>
   have hp:((sortP (placesL 0 L)).map spanOf).Perm L.flatten:=by
    refine((Ba _).map spanOf).trans ?_;have:∀(L:Cls) (i:Nat),(placesL i L).map spanOf=L.flatten:=by
     intro L
     induction L with
     | nil=>intro i;rfl
     | cons s L ih=>
       intro i;rw[placesL,map_append,ih,List.flatten_cons];congr 1;simp[plcs,Function.comp_def]
    rw[this]
   have hs:((sortP (placesL 0 L)).map spanOf).Pairwise fun p q=>p.1<=q.1:=by
    rw[List.pairwise_map];exact Fl _
   rw[<- Ik h hp hs];simp[dividesA,h]
theorem f32 (a:AutoL) (hb:AutoB a) (H:List MB):call Pg pol1 32 [autoAV a] H=some (I (validW (partedA a.cl) a),H):=by
 have hpl:=AX a;have h76:=f76 a.cl hb.cl (fun s hs=>by have:=CB (mem_map.2 ⟨s,hs,rfl⟩:s.length∈a.cl.map List.length);have:=hb.sum;omega);have b1:=hb.cl;have b2:=hb.nx;have b3:=hb.ac;have hrow:=hb.row;obtain⟨cl,nx,ac⟩:=a;simp only at h76 b1 b2 b3 hrow;unfold validW;simp only;generalize partedA cl=d at *;refine AQ Tryz.func32 rfl rfl rfl rfl rfl rfl (fun _=>rfl) (by simp only[AV.plainL,hpl];rfl) (by simp[AV.plain]) ?_ H;by_cases c1:1024<cl.length∨1024<nx.length∨1024<ac.length
 ·rw[if_pos c1];simp +contextual (disch:=omega) only[Tryz.f32,dd32,go_sem,simprocAttr,mu32];exact⟨fun _=>fzEq rfl rfl,fun _=>⟨fun _=>fzEq rfl rfl,fun _=>fzEq rfl rfl⟩⟩
 ·rw[if_neg c1];by_cases c2:nx.length=0∨ac.length≠nx.length∨d=false
  ·rw[if_pos c2];cases d with
   | false=>
     simp +contextual (disch:=omega) only[Tryz.f32,dd32,go_sem,simprocAttr,mu32,h76];exact fzEq rfl rfl
   | true=>
     have c3:nx.length=0∨ac.length≠nx.length:=by simpa using c2
     by_cases c4:nx.length=0
     ·have c5:(nx.length:Int)=0:=by omega
      simp +contextual (disch:=omega) only[Tryz.f32,dd32,go_sem,simprocAttr,mu32,h76,c5];exact fzEq rfl rfl
     ·have c6:¬ (ac.length:Int)=(nx.length:Int):=by omega
      simp +contextual (disch:=omega) only[Tryz.f32,dd32,go_sem,simprocAttr,mu32,h76,c6];exact fzEq rfl rfl
  ·rw[if_neg c2];have hd:d=true:=by cases d<;>simp_all
   subst hd;have c4:ac.length=nx.length/\nx.length≠0:=by
    constructor
    ·by_cases e:ac.length=nx.length
     ·exact e
     ·exact absurd (.inr (.inl e)) c2
    ·exact fun e=>c2 (.inl e)
   simp +contextual (disch:=omega) only[Tryz.f32,dd32,go_sem,simprocAttr,mu32,h76];refine AS (M:=(Ms 32 8)) rfl nx.length (fun i=>(⟨86,[(5,I i),(3,I nx.length),(1,.rf 0 1 0 0)],[.row 3 [autoAV ⟨cl,nx,ac⟩] 0]⟩:St)) (fun i=>∀ k,k<i->∀ x,nx[k]?=some x->okRow nx.length cl.length x=true) ?_ ?_ (fun k h=>by omega) _ rfl
   ·intro i hi hinv;obtain⟨r,hr⟩:∃ r,nx[i]?=some r:=⟨_,zga hi⟩;have hr':(nx.map rowAV)[i]?=some (rowAV r):=by simp[hr]
    have hrl:=hrow r (zgc hr);have bad:okRow nx.length cl.length r=false->(if nx.all (okRow nx.length cl.length)=true then(0:Int) else 1)=1:=fun h=>by
     rw[HZ hr h];rfl
    by_cases c5:r.length=cl.length
    ·have c6:(r.length:Int)=(cl.length:Int):=by omega
     simp +contextual (disch:=omega) only[Tryz.f32,dd32,go_sem,simprocAttr,mu32,hr',c6];refine⟨by unfold dOk;kernel_rfl,?_⟩;refine AS (M:=(Ms 32 13)) rfl r.length (fun k=>(⟨86,[(6,I k),(5,I i),(3,I nx.length),(1,.rf 0 1 0 0)],[.row 3 [autoAV ⟨cl,nx,ac⟩] 0]⟩:St)) (fun k=>∀ j,j<k->∀ x,r[j]?=some x->okSt nx.length x=true) ?_ ?_ (fun k h=>by omega) _ rfl
     ·intro k hk hk2;obtain⟨t,ht⟩:∃ t,r[k]?=some t:=⟨_,zga hk⟩;have ht':(r.map I)[k]?=some (I t):=by simp[ht]
      have badt:okSt nx.length t=false->(if nx.all (okRow nx.length cl.length)=true then(0:Int) else 1)=1:=fun h=>bad (by simp[okRow,HZ ht h]);by_cases e1:t<0
      ·rw[badt (by simp[okSt];omega)];simp +contextual (disch:=omega) only[Tryz.f32,dd32,go_sem,simprocAttr,mu32,hr',ht',e1];exact fzEq rfl rfl
      ·by_cases e2:t<(nx.length:Int)
       ·simp +contextual (disch:=omega) only[Tryz.f32,dd32,go_sem,simprocAttr,mu32,hr',ht',e1,e2];refine⟨fun j hj x hx=>?_,rfl⟩;rcases lt_or_ge j k with h1|h1
        ·exact hk2 j h1 x hx
        ·obtain rfl:j=k:=by omega
         rw[ht]at hx;cases hx;simp[okSt];omega
       ·rw[badt (by simp[okSt];omega)];simp +contextual (disch:=omega) only[Tryz.f32,dd32,go_sem,simprocAttr,mu32,hr',ht',e1,e2];exact fzEq rfl rfl
     ·intro hk2;have ok1:okRow nx.length cl.length r=true:=by simp only[okRow,c5,LL hk2];rfl
      simp +contextual (disch:=omega) only[Tryz.f32,dd32,go_sem,simprocAttr,mu32,hr'];refine⟨fun j hj x hx=>?_,rfl⟩;rcases lt_or_ge j i with h1|h1
      ·exact hinv j h1 x hx
      ·obtain rfl:j=i:=by omega
       rw[hr]at hx;cases hx;exact ok1
    ·have c6:¬ (r.length:Int)=(cl.length:Int):=by omega
     rw[bad (by simp[okRow,c5])];simp +contextual (disch:=omega) only[Tryz.f32,dd32,go_sem,simprocAttr,mu32,hr',c6];exact⟨by unfold dOk;kernel_rfl,fzEq rfl rfl⟩
   ·intro hinv;have:(if nx.all (okRow nx.length cl.length)=true then(0:Int) else 1)=0:=by
     rw[LL hinv];rfl
    rw[this];simp +contextual (disch:=omega) only[Tryz.f32,dd32,go_sem,simprocAttr,mu32];exact fzEq rfl rfl
end
def clIx (cl:Cls) (x:Int):Nat:=cl.findIdx fun s=>hasSpan s x
theorem Ab {s:List (Int×Int)}{x:Int}:hasSpan s x=true↔∃ p∈s,p.1<=x/\x<=p.2:=by
 unfold hasSpan;rw[any_eq_true];constructor
 ·rintro⟨p,h1,h2⟩;exact⟨p,h1,by simpa using h2⟩
 ·rintro⟨p,h1,h2⟩;exact⟨p,h1,by simpa using h2⟩
theorem EQ:∀ {L:Cls}{i:Nat}{p:Pl},p∈placesL i L↔∃(k:Nat) (s:List (Int×Int)),L[k]?=some s/\spanOf p∈s/\p.2.2=((i+k:Nat):Int)
 | [],i,p=>by simp[placesL]
 | t::L,i,p=>by
   rw[placesL,mem_append,EQ (L:=L)];constructor
   ·rintro(h|⟨k,s,h1,h2,h3⟩)
    ·obtain⟨q,hq,rfl⟩:=mem_map.1 h;exact⟨0,t,rfl,hq,rfl⟩
    ·exact⟨k+1,s,by simpa using h1,h2,by rw[h3];congr 1;omega⟩
   ·rintro⟨k,s,h1,h2,h3⟩;rcases k with _|k
    ·simp only[List.getElem?_cons_zero,Option.some.injEq]at h1;subst h1;exact .inl (mem_map.2 ⟨spanOf p,h2,by rw[show ((i:Nat):Int)=p.2.2 by rw[h3];rfl]⟩)
    ·exact .inr ⟨k,s,by simpa using h1,h2,by rw[h3];congr 1;omega⟩
structure DivOk (cl:Cls) (top:Int):Prop where
 top_:top=255∨top=1114111
 val:∀ p∈(sortP (placesL 0 cl)).map spanOf,0<=p.1/\p.1<=p.2
 chain:chainA ((sortP (placesL 0 cl)).map spanOf) 0=some (top+1)
 set:∀ s∈cl,refSpans s=0/\s≠[]
 ord:∀(i:Nat) (s t:List (Int×Int)),cl[i]?=some s->cl[i+1]?=some t->headLo s<headLo t
theorem Jh {L:Cls}:topZ ((sortP (placesL 0 L)).map spanOf)=topZ L.flatten:=by
 have:∀(L:Cls) (i:Nat),(placesL i L).map spanOf=L.flatten:=by
  intro L
  induction L with
  | nil=>intro i;rfl
  | cons s L ih=>
    intro i;rw[placesL,map_append,ih,List.flatten_cons];congr 1;simp[plcs,Function.comp_def]
 rw[<- this L 0];exact Jg ((Ba _).map spanOf)
theorem B7 {cl:Cls} (h:dividesA cl=true):DivOk cl (topZ cl.flatten):=by
 simp only[dividesA,Bool.and_eq_true]at h;obtain⟨h1,h2⟩:=h;have hset:=GO h1;have hv:∀ p∈(sortP (placesL 0 cl)).map spanOf,0<=p.1/\p.1<=p.2:=fun p hp=>by
  obtain⟨q,hq,rfl⟩:=mem_map.1 hp;obtain⟨s,hs1,hs2⟩:=FV ((Ba _).mem_iff.1 hq);have:=At (hset s hs1).1 _ hs2;exact⟨this.1,this.2.1⟩
 have hord:∀(i:Nat) (s t:List (Int×Int)),cl[i]?=some s->cl[i+1]?=some t->headLo s<headLo t:=fun i s t hs ht=>by
  have hb:=Hz h1 (zgb.1 ht).1;simp only[badC,ht,hs,Bool.or_eq_false_iff,decide_eq_false_iff_not]at hb;omega
 unfold endC at h2;cases hc:chainA ((sortP (placesL 0 cl)).map spanOf) 0 with
 | none=>rw[hc]at h2;cases h2
 | some e=>
   rw[hc]at h2;simp only[Bool.or_eq_true,decide_eq_true_eq]at h2;have hne:(sortP (placesL 0 cl)).map spanOf≠[]:=by
    intro e0;rw[e0]at hc;simp only[chainA,Option.some.injEq]at hc;omega
   have ht:=E1 hc (fun p hp=>(hv p hp).2) hne;rw[Jh]at ht;have he:topZ cl.flatten+1=e:=by rw[ht];omega
   refine⟨by omega,hv,by rw[he];exact hc,hset,hord⟩
section
variable {cl:Cls}{top:Int}
theorem DivOk.place (h:DivOk cl top) {i:Nat}{s:List (Int×Int)} (hi:cl[i]?=some s) {x:Int} (hx:hasSpan s x=true) :
  ∃(k:Nat) (p:Pl),(sortP (placesL 0 cl))[k]?=some p/\p.1<=x/\x<=p.2.1/\p.2.2=(i:Int):=by
 obtain⟨q,hq,h1⟩:=Ab.1 hx;have hm:((q.1,q.2,(i:Int)):Pl)∈sortP (placesL 0 cl):=(Ba _).mem_iff.2 (EQ.2 ⟨i,s,hi,hq,by rw[Nat.zero_add]⟩);obtain⟨k,hk,e⟩:=List.getElem_of_mem hm;exact⟨k,_,by rw[zga hk,e],h1.1,h1.2,rfl⟩
theorem DivOk.uniqK (h:DivOk cl top) {k l:Nat}{p q:Pl} (hp:(sortP (placesL 0 cl))[k]?=some p) (hq:(sortP (placesL 0 cl))[l]?=some q) {x:Int} (h1:p.1<=x/\x<=p.2.1) (h2:q.1<=x/\x<=q.2.1):k=l:=by
 have ho:=DL h.chain (fun p hp=>(h.val p hp).2);have hp':((sortP (placesL 0 cl)).map spanOf)[k]?=some (spanOf p):=by simp[hp]
 have hq':((sortP (placesL 0 cl)).map spanOf)[l]?=some (spanOf q):=by simp[hq]
 obtain⟨hk,ek⟩:=zgb.1 hp';obtain⟨hl,el⟩:=zgb.1 hq';rcases Nat.lt_trichotomy k l with g|g|g
 ·have:=(Fx ho (fun p hp=>(h.val p hp).2) g hl).1;rw[ek,el]at this;simp only[spanOf]at this;omega
 ·exact g
 ·have:=(Fx ho (fun p hp=>(h.val p hp).2) g hk).1;rw[ek,el]at this;simp only[spanOf]at this;omega
theorem DivOk.uniq (h:DivOk cl top) {i j:Nat}{s t:List (Int×Int)} (hi:cl[i]?=some s) (hj:cl[j]?=some t) {x:Int} (h1:hasSpan s x=true) (h2:hasSpan t x=true):i=j:=by
 obtain⟨k,p,a1,a2,a3,a4⟩:=h.place hi h1;obtain⟨l,q,b1,b2,b3,b4⟩:=h.place hj h2;obtain rfl:=h.uniqK a1 b1 ⟨a2,a3⟩ ⟨b2,b3⟩;rw[a1]at b1;cases b1;omega
theorem DivOk.has (h:DivOk cl top) {x:Int} (h0:0<=x) (h1:x<=top):∃(i:Nat) (s:List (Int×Int)),cl[i]?=some s/\hasSpan s x=true:=by
 obtain⟨p,hp,h2⟩:=KR h.chain x h0 (by omega);obtain⟨q,hq,rfl⟩:=mem_map.1 hp;obtain⟨i,s,a1,a2,_⟩:=EQ.1 ((Ba _).mem_iff.1 hq);exact⟨i,s,a1,Ab.2 ⟨_,a2,h2⟩⟩
theorem DivOk.clIx_eq (h:DivOk cl top) {i:Nat}{s:List (Int×Int)} (hi:cl[i]?=some s) {x:Int} (hx:hasSpan s x=true):clIx cl x=i:=by
 obtain⟨hil,ei⟩:=zgb.1 hi;have hlt:clIx cl x<cl.length:=List.findIdx_lt_length_of_exists ⟨s,zgc hi,hx⟩;have h2:=List.findIdx_getElem (p:=fun s=>hasSpan s x) (xs:=cl) (w:=hlt);exact h.uniq (zga hlt) hi h2 hx
theorem DivOk.clIx_lt (h:DivOk cl top) {x:Int} (h0:0<=x) (h1:x<=top):clIx cl x<cl.length/\hasSpan (cl[clIx cl x]?.getD []) x=true:=by
 obtain⟨i,s,a1,a2⟩:=h.has h0 h1;rw[h.clIx_eq a1 a2];exact⟨(zgb.1 a1).1,by rw[a1];exact a2⟩
theorem DivOk.search (h:DivOk cl top) {x:Int} (h0:0<=x) (h1:x<=top) {k:Nat} (hk:k<=(sortP (placesL 0 cl)).length)
  (ha:∀(j:Nat) (p:Pl),j<k->(sortP (placesL 0 cl))[j]?=some p->p.2.1<x) (hb:∀(j:Nat) (p:Pl),k<=j->(sortP (placesL 0 cl))[j]?=some p->x<=p.2.1) :
  ∃ p:Pl,(sortP (placesL 0 cl))[k]?=some p/\p.2.2=(clIx cl x:Int):=by
 obtain⟨i,s,a1,a2⟩:=h.has h0 h1;obtain⟨l,q,b1,b2,b3,b4⟩:=h.place a1 a2;have hkl:k<=l:=by
  rcases lt_or_ge l k with g|g
  ·have:=ha l q g b1;omega
  ·exact g
 have hll:=(zgb.1 b1).1;obtain⟨p,hp⟩:∃ p,(sortP (placesL 0 cl))[k]?=some p:=⟨_,zga (by omega)⟩;have hx:=hb k p (le_refl _) hp;have hkl2:k=l:=by
  rcases lt_or_ge k l with g|g
  ·exfalso;have ho:=DL h.chain (fun p hp=>(h.val p hp).2);have hp':((sortP (placesL 0 cl)).map spanOf)[k]?=some (spanOf p):=by simp[hp]
   have hq':((sortP (placesL 0 cl)).map spanOf)[l]?=some (spanOf q):=by simp[b1]
   obtain⟨hk',ek⟩:=zgb.1 hp';obtain⟨hl',el⟩:=zgb.1 hq';have:=(Fx ho (fun p hp=>(h.val p hp).2) g hl').1;rw[ek,el]at this;simp only[spanOf]at this;omega
  ·omega
 subst hkl2;rw[hp]at b1;cases b1;exact⟨_,hp,by rw[b4,h.clIx_eq a1 a2]⟩
theorem D5 {s:List (Int×Int)} (h:refSpans s=0) (hne:s≠[]):hasSpan s (headLo s)=true:=by
 cases s with
 | nil=>exact absurd rfl hne
 | cons p s=>
   have:=At h p (by simp);exact Ab.2 ⟨p,by simp,by simp[headLo],by simp only[headLo,List.head?_cons,map_some,getD_some];omega⟩
theorem Eu {s:List (Int×Int)} (h:refSpans s=0) {x:Int} (hx:hasSpan s x=true):headLo s<=x:=by
 obtain⟨p,hp,h1,h2⟩:=Ab.1 hx;cases s with
 | nil=>simp at hp
 | cons q s=>
   have ho:=BN h;have hq:=At h q (by simp);simp only[headLo,List.head?_cons,map_some,getD_some];rcases mem_cons.1 hp with e|e
   ·subst e;exact h1
   ·have:=(pairwise_cons.1 ho).1 p e;omega
theorem DivOk.head (h:DivOk cl top) {i:Nat}{s:List (Int×Int)} (hi:cl[i]?=some s):0<=headLo s/\headLo s<=top/\clIx cl (headLo s)=i:=by
 have hs:=h.set s (zgc hi);have hh:=D5 hs.1 hs.2;obtain⟨k,p,a1,a2,a3,_⟩:=h.place hi hh;have hm:spanOf p∈(sortP (placesL 0 cl)).map spanOf:=mem_map.2 ⟨p,zgc a1,rfl⟩;have h1:=h.val _ hm;have h2:=(C4 h.chain (fun p hp=>(h.val p hp).2)).2.2 _ hm;simp only[spanOf]at h1 h2;exact⟨by omega,by omega,h.clIx_eq hi hh⟩
theorem DivOk.head_lt (h:DivOk cl top):∀(d i:Nat) (s t:List (Int×Int)),cl[i]?=some s->cl[i+1+d]?=some t->headLo s<headLo t
 | 0,i,s,t,hs,ht=>h.ord i s t hs ht
 | d+1,i,s,t,hs,ht=>by
   have hlt:=(zgb.1 ht).1;obtain⟨u,hu⟩:∃ u,cl[i+1+d]?=some u:=⟨_,zga (by omega)⟩;have h1:=h.head_lt d i s u hs hu;have h2:=h.ord (i+1+d) u t hu (by rw[<- ht];congr 1);omega
end
def nxN (nx:List (List Int)):List (List Nat):=nx.map fun r=>r.map Int.toNat
def autoDA (a:AutoL):DA:=⟨a.nx.length,a.cl.length,fun s c=>stepC a.nx s c,fun s=>a.ac[s]?.getD false,clIx a.cl⟩
theorem EB {a:AutoL} (hg:GoodA a) {top:Int} (hd:DivOk a.cl top):(autoDA a).Ok top where
 pos:=hg.pos
 lt:=fun s c hs hc=>QJ hg.rows hs hc
 cllt:=fun x hx=>(hd.clIx_lt hx.1 hx.2).1
 surj:=fun c hc=>by
  have hc':c<a.cl.length:=hc;have:=hd.head (zga hc');exact⟨headLo a.cl[c],⟨this.1,this.2.1⟩,this.2.2⟩
theorem M0 {a:AutoL}{top:Int} (hd:DivOk a.cl top):∀ c,c<a.cl.length->∃ x,Sy top x/\clIx a.cl x=c/\∀ y,Sy top y->c<clIx a.cl y->x<y:=by
 intro c hc;have hs:=zga hc;have h1:=hd.head hs;refine⟨headLo a.cl[c],⟨h1.1,h1.2.1⟩,h1.2.2,fun y hy hlt=>?_⟩;obtain⟨g1,g2⟩:=hd.clIx_lt hy.1 hy.2;have ht:=zga g1;rw[ht,getD_some]at g2;have h2:=Eu (hd.set _ (getElem_mem g1)).1 g2;have h3:=hd.head_lt (clIx a.cl y-(c+1)) c _ _ hs (by rw[show c+1+(clIx a.cl y-(c+1))=clIx a.cl y by omega];exact ht);omega
structure NormS (s:List (Int×Int)):Prop where
 gap:s.Pairwise fun p q=>p.2+1<q.1
 val:∀ p∈s,p.1<=p.2
theorem H8 {s:List (Int×Int)} (h:refSpans s=0):NormS s:=⟨BN h,fun p hp=>(At h p hp).2.1⟩
theorem NormS.tail {p:Int×Int}{s:List (Int×Int)} (h:NormS (p::s)):NormS s:=⟨(pairwise_cons.1 h.gap).2,fun q hq=>h.val q (by simp[hq])⟩
theorem Au {p:Int×Int}{s:List (Int×Int)}{x:Int}:hasSpan (p::s) x=true↔(p.1<=x/\x<=p.2)∨hasSpan s x=true:=by
 rw[Ab,Ab];constructor
 ·rintro⟨q,hq,h⟩;rcases mem_cons.1 hq with e|e
  ·subst e;exact .inl h
  ·exact .inr ⟨q,e,h⟩
 ·rintro(h|⟨q,hq,h⟩)
  ·exact⟨p,by simp,h⟩
  ·exact⟨q,by simp[hq],h⟩
theorem NormS.above {p:Int×Int}{s:List (Int×Int)} (h:NormS (p::s)) {x:Int} (hx:hasSpan s x=true):p.2+1<x:=by
 obtain⟨q,hq,h1,h2⟩:=Ab.1 hx;have:=(pairwise_cons.1 h.gap).1 q hq;omega
theorem GQ:∀ {s t:List (Int×Int)},NormS s->NormS t->(∀ x,hasSpan s x=true↔hasSpan t x=true)->s=t
 | [],[],_,_,_=>rfl
 | [],q::t,_,ht,h=>by
   have:=(h q.1).2 (Au.2 (.inl ⟨Int.le_refl _,ht.val q (by simp)⟩));cases this
 | p::s,[],hs,_,h=>by
   have:=(h p.1).1 (Au.2 (.inl ⟨Int.le_refl _,hs.val p (by simp)⟩));cases this
 | p::s,q::t,hs,ht,h=>by
   have vp:=hs.val p (by simp);have vq:=ht.val q (by simp);have lo:∀ {a b:Int×Int}{u v:List (Int×Int)},NormS (a::u)->NormS (b::v)->(hasSpan (b::v) a.1=true)->b.1<=a.1:=by
    intro a b u v h1 h2 h3;have:=h2.val b (by simp);rcases Au.1 h3 with h4|h4
    ·exact h4.1
    ·have:=h2.above h4;omega
   have e1:p.1=q.1:=by
    have a1:=lo hs ht ((h p.1).1 (Au.2 (.inl ⟨Int.le_refl _,vp⟩)));have a2:=lo ht hs ((h q.1).2 (Au.2 (.inl ⟨Int.le_refl _,vq⟩)));omega
   have e2:p.2=q.2:=by
    rcases Int.lt_trichotomy p.2 q.2 with g|g|g
    ·exfalso;have:=(h (p.2+1)).2 (Au.2 (.inl ⟨by omega,by omega⟩));rcases Au.1 this with h4|h4
     ·omega
     ·have:=hs.above h4;omega
    ·exact g
    ·exfalso;have:=(h (q.2+1)).1 (Au.2 (.inl ⟨by omega,by omega⟩));rcases Au.1 this with h4|h4
     ·omega
     ·have:=ht.above h4;omega
   have e3:s=t:=GQ hs.tail ht.tail fun x=>by
    constructor
    ·intro hx;have g:=hs.above hx;rcases Au.1 ((h x).1 (Au.2 (.inr hx))) with h4|h4
     ·omega
     ·exact h4
    ·intro hx;have g:=ht.above hx;rcases Au.1 ((h x).2 (Au.2 (.inr hx))) with h4|h4
     ·omega
     ·exact h4
   rw[e3,show p=q from Prod.ext e1 e2]
structure LeastOf (A:DA) (top:Int) (r:AutoL):Prop where
 good:GoodA r
 div:DivOk r.cl top
 min:(autoDA r).Min top
 same:(autoDA r).Same A top
theorem DivOk.symb {cl:Cls}{top:Int} (h:DivOk cl top) {i:Nat}{s:List (Int×Int)} (hi:cl[i]?=some s) {x:Int}:hasSpan s x=true↔Sy top x/\clIx cl x=i:=by
 constructor
 ·intro hx;obtain⟨k,p,a1,a2,a3,_⟩:=h.place hi hx;have hm:spanOf p∈(sortP (placesL 0 cl)).map spanOf:=mem_map.2 ⟨p,zgc a1,rfl⟩;have h1:=h.val _ hm;have h2:=(C4 h.chain (fun p hp=>(h.val p hp).2)).2.2 _ hm;simp only[spanOf]at h1 h2;exact⟨⟨by omega,by omega⟩,h.clIx_eq hi hx⟩
 ·rintro⟨h1,h2⟩;have:=(h.clIx_lt h1.1 h1.2).2
  rwa [h2,hi]at this
theorem II {A:DA}{top:Int}{r r':AutoL} (h:LeastOf A top r) (h':LeastOf A top r'):r=r':=by
 have hs:(autoDA r).Same (autoDA r') top:=h.same.trans h'.same.symm;have hm:r.cl.length=r'.cl.length:=Sh hs h.min h'.min;have hn:r.nx.length=r'.nx.length:=UE hs h.min h'.min;have e1:r.cl=r'.cl:=by
  apply List.ext_getElem hm;intro i h1 h2;refine GQ (H8 (h.div.set _ (getElem_mem h1)).1) (H8 (h'.div.set _ (getElem_mem h2)).1) fun x=>?_;rw[h.div.symb (zga h1),h'.div.symb (zga h2)];constructor
  ·rintro⟨a,b⟩;exact⟨a,by rw[<- b];exact(IF hs h.min h'.min a).symm⟩
  ·rintro⟨a,b⟩;exact⟨a,by rw[<- b];exact IF hs h.min h'.min a⟩
 have e2:r.nx=r'.nx:=by
  apply List.ext_getElem hn;intro s h1 h2;have r1:=h.good.rows _ (getElem_mem h1);have r2:=h'.good.rows _ (getElem_mem h2);apply List.ext_getElem (by rw[r1.1,r2.1,hm]);intro c h3 h4;have hc:c<r.cl.length:=by rw[<- r1.1];exact h3
  have e:=(NQ hs h.min h'.min _ s c (Nat.lt_succ_self _) h1 hc).1;have e:stepC r.nx s c=stepC r'.nx s c:=e;simp only[stepC,zga h1,zga h2,getD_some,zga h3,zga h4]at e;have g1:=r1.2 _ (getElem_mem h3);have g2:=r2.2 _ (getElem_mem h4);omega
 have e3:r.ac=r'.ac:=by
  apply List.ext_getElem (by rw[h.good.ac,h'.good.ac,hn]);intro s h1 h2;have e:=S9 hs h.min h'.min (s:=s) (by show s<r.nx.length;rw[<- h.good.ac];exact h1);have e:r.ac[s]?.getD false=r'.ac[s]?.getD false:=e
  rwa [zga h1,zga h2]at e
 cases r;cases r';simp only at e1 e2 e3;subst e1;subst e2;subst e3;rfl
theorem Bc (a b:List (Int×Int)) (x:Int):hasSpan (a++b) x=(hasSpan a x||hasSpan b x):=by simp[hasSpan]
theorem Kp {a b:List (Int×Int)} (h:a.Perm b) (x:Int):hasSpan a x=hasSpan b x:=by
 rw[Bool.eq_iff_iff];simp only[hasSpan,any_eq_true];exact⟨fun⟨p,hp,hx⟩=>⟨p,h.mem_iff.1 hp,hx⟩,fun⟨p,hp,hx⟩=>⟨p,h.mem_iff.2 hp,hx⟩⟩
def goodS (p:Int×Int):Prop:=0<=p.1/\p.1<=p.2/\p.2<=1114111
structure SetOk (s O:List (Int×Int)):Prop where
 sep:O.Pairwise fun p q=>p.2+2<=q.1
 good:∀ p∈O,goodS p
 has:∀ x,hasSpan O x=hasSpan s x
 len:O.length<=s.length
 last:∀ q,O.getLast?=some q->∃ p∈s,p.1=q.1
theorem SetOk.nil:SetOk [] []:=⟨.nil,fun _ h=>by simp at h,fun _=>rfl,le_refl _,fun _ h=>by simp at h⟩
theorem SetOk.add {s O:List (Int×Int)} (h:SetOk s O) {p:Int×Int} (hg:goodS p) (hle:∀ q∈s,q.1<=p.1):SetOk (s++[p]) (addI O p):=by
 obtain⟨hg0,hg1,hg2⟩:=hg;rcases List.eq_nil_or_concat O with rfl|⟨O',q,rfl⟩
 ·rw[Do];have h0:=h.has;refine⟨List.pairwise_singleton _ _,fun r hr=>by rw[mem_singleton.1 hr];exact⟨hg0,hg1,hg2⟩,fun x=>?_,by simp,fun q hq=>⟨p,by simp,by simp at hq;rw[hq]⟩⟩;rw[Bc,<- h0 x];simp[hasSpan]
 ·rw[List.concat_eq_append]at *;obtain⟨p0,hp0,e0⟩:=h.last q (by simp);have hqp:=hle p0 hp0;have hgq:=h.good q (by simp);obtain⟨k1,k2,k3⟩:=hgq;have hsep:=pairwise_append.1 h.sep;rw[CP];split
  ·rename_i hm;refine⟨pairwise_append.2 ⟨hsep.1,List.pairwise_singleton _ _,fun a ha b hb=>?_⟩,fun r hr=>?_,fun x=>?_,?_,fun r hr=>⟨p0,by simp[hp0],by simp at hr;rw[<- hr];exact e0⟩⟩
   ·rw[mem_singleton.1 hb];exact hsep.2.2 a ha q (by simp)
   ·rcases mem_append.1 hr with hr|hr
    ·exact h.good r (by simp[hr])
    ·rw[mem_singleton.1 hr];exact⟨k1,by show q.1<=max q.2 p.2;omega,by show max q.2 p.2<=_;omega⟩
   ·have:=h.has x;rw[Bc]at this |-;rw[Bc,<- this,Bool.or_assoc];congr 1;rw[Bool.eq_iff_iff];simp[hasSpan];omega
   ·have:=h.len;simp at this |-;omega
  ·rename_i hm;refine⟨pairwise_append.2 ⟨h.sep,List.pairwise_singleton _ _,fun a ha b hb=>?_⟩,fun r hr=>?_,fun x=>?_,?_,fun r hr=>⟨p,by simp,by simp at hr;rw[hr]⟩⟩
   ·rw[mem_singleton.1 hb];rcases mem_append.1 ha with ha|ha
    ·have:=hsep.2.2 a ha q (by simp);omega
    ·rw[mem_singleton.1 ha];omega
   ·rcases mem_append.1 hr with hr|hr
    ·exact h.good r hr
    ·rw[mem_singleton.1 hr];exact⟨hg0,hg1,hg2⟩
   ·rw[Bc,h.has x,Bc]
   ·have:=h.len;simp at this |-;omega
def foldI (s:List (Int×Int)):List (Int×Int):=s.foldl addI []
theorem IW (s:List (Int×Int)) (p:Int×Int):foldI (s++[p])=addI (foldI s) p:=by simp[foldI]
theorem Ni {s:List (Int×Int)}{i:Nat}{p:Int×Int} (h:s[i]?=some p):foldI (s.take (i+1))=addI (foldI (s.take i)) p:=by
 rw[take_add_one,h];exact IW _ _
theorem MP {s:List (Int×Int)} (hs:s.Pairwise fun p q=>p.1<=q.1) (hg:∀ p∈s,goodS p):∀ i,i<=s.length->SetOk (s.take i) (foldI (s.take i)):=by
 intro i
 induction i with
 | zero=>intro _;exact SetOk.nil
 | succ i ih=>
   intro hi;obtain⟨p,hp⟩:∃ p,s[i]?=some p:=⟨_,zga (by omega)⟩;have hpm:=zgc hp;have:=(ih (by omega)).add (p:=p) (hg p hpm) (fun q hq=>by
    obtain⟨k,hk,e⟩:=List.getElem_of_mem hq;simp at hk e;have h1:=List.pairwise_iff_getElem.1 hs k i (by omega) (by omega) (by omega);rw[(zgb.1 hp).2,e]at h1;exact h1)
   rw[take_add_one,hp]
   simpa [IW] using this
def normL (s:List (Int×Int)):List (Int×Int):=foldI (sortE s)
theorem IR {s:List (Int×Int)} (hg:∀ p∈s,goodS p):∀ x∈s,Small x:=fun x hx=>by
 have:=hg x hx;unfold goodS at this;unfold Small;omega
theorem F0 {s:List (Int×Int)} (hg:∀ p∈s,goodS p):SetOk (sortE s) (normL s)/\(∀ x,hasSpan (normL s) x=hasSpan s x)/\(normL s).length<=s.length:=by
 have hsm:=IR hg;have hp:=Dt hsm;have h:=MP (Ds s) (fun p hp2=>hg p (hp.mem_iff.1 hp2)) (sortE s).length (le_refl _);rw[take_length]at h;refine⟨h,fun x=>?_,?_⟩
 ·rw[normL,h.has x];exact Kp hp x
 ·have:=h.len;rw[hp.length_eq]at this;exact this
theorem Gx {l:List (Int×Int)} (hs:l.Pairwise fun p q=>p.2+2<=q.1) (hg:∀ p∈l,goodS p) (hl:l.length<=64):refSpans l=0:=by
 have hb:∀ i,i<l.length->badAt l i=false:=fun i hi=>by
  have e:=zga hi;have:=hg _ (getElem_mem hi);unfold goodS at this;unfold badAt;rw[e];simp only[Bool.or_eq_false_iff,Bool.not_eq_false',decide_eq_true_eq];refine⟨⟨this.1,this.2.1,this.2.2⟩,?_⟩;cases i with
  | zero=>rfl
  | succ k=>
    have e2:=zga (show k<l.length by omega);simp only[e2];have:=List.pairwise_iff_getElem.1 hs k (k+1) (by omega) hi (by omega);simp;omega
 unfold refSpans;rw[if_neg,if_neg (by omega)];simp only[any_eq_true,mem_range,not_exists,not_and,Bool.not_eq_true];exact hb
end Go.Ev
/- The reference's search for a state: the plain laws. -/
namespace Go.Ev
def rvisit (ins:List Ins):Nat->Nat->List Nat×List Nat->List Nat×List Nat
 | 0,_,s=>s
 | k+1,n,s=>
   if n∈s.2 then s
   else match ins[n]? with
    | none=>s
    | some i=>
      if i.op=2 then rvisit ins k i.y.toNat (rvisit ins k i.x.toNat (s.1,s.2++[n]))
      else if i.op=3 then rvisit ins k i.x.toNat (s.1,s.2++[n])
      else if i.op=4 then rvisit ins k (n+1) (s.1,s.2++[n])
      else(s.1++[n],s.2++[n])
def rvisits (ins:List Ins) (k:Nat) (ns:List Nat) (s:List Nat×List Nat):List Nat×List Nat:=ns.foldl (fun s n=>rvisit ins k n s) s
def isDone (ins:List Ins) (n:Nat):Bool:=match ins[n]? with
 | some i=>i.op==0
 | none=>false
def kcutL (ins:List Ins):List Nat->List Nat
 | []=>[]
 | n::l=>n::(if isDone ins n=true then [] else kcutL ins l)
theorem J5 {ins:List Ins}{n:Nat} (hn:isDone ins n=true):∀ {l:List Nat},(∀ n∈l,isDone ins n=false)->kcutL ins (l++[n])=l++[n]
 | [],_=>by simp[kcutL]
 | m::l,h=>by
   have h1:=h m (.head _);simp only[cons_append,kcutL,h1,Bool.false_eq_true,if_false];rw[J5 hn fun m hm=>h m (.tail _ hm)]
theorem IN {ins:List Ins} (m:List Nat):∀ {l:List Nat},(∃ n∈l,isDone ins n=true)->kcutL ins (l++m)=kcutL ins l
 | [],h=>by obtain⟨n,hn,_⟩:=h;cases hn
 | n::l,h=>by
   simp only[cons_append,kcutL];split
   ·rfl
   ·rename_i h1;rw[IN m];obtain⟨x,hx,hd⟩:=h;rcases mem_cons.1 hx with rfl|hx
    ·exact absurd hd h1
    ·exact⟨x,hx,hd⟩
theorem Cs (ins:List Ins):∀(k n:Nat) (s:List Nat×List Nat),∃ m,(rvisit ins k n s).1=s.1++m
 | 0,n,s=>⟨[],by simp[rvisit]⟩
 | k+1,n,s=>by
   simp only[rvisit];split
   ·exact⟨[],by simp⟩
   split
   ·exact⟨[],by simp⟩
   rename_i i hi;split
   ·obtain⟨m1,h1⟩:=Cs ins k i.x.toNat (s.1,s.2++[n]);obtain⟨m2,h2⟩:=Cs ins k i.y.toNat (rvisit ins k i.x.toNat (s.1,s.2++[n]));exact⟨m1++m2,by rw[h2,h1,append_assoc]⟩
   split
   ·exact Cs ins k i.x.toNat (s.1,s.2++[n])
   split
   ·exact Cs ins k (n+1) (s.1,s.2++[n])
   ·exact⟨[n],rfl⟩
structure RV (ins:List Ins) (v:VS) (s:List Nat×List Nat):Prop where
 len:v.a.length=ins.length
 c:v.c=true->kcutL ins s.1=v.r/\∃ n∈s.1,isDone ins n=true
 o:v.c=false->s.1=v.r/\(∀ n∈s.1,isDone ins n=false)/\∀ n,v.a[n]?=some true↔n∈s.2
theorem RV.mark {ins:List Ins}{v:VS}{s:List Nat×List Nat} (h:RV ins v s) (hc:v.c=false) {n:Nat} (hn:n<ins.length):RV ins (v.mark n) (s.1,s.2++[n]):=by
 obtain⟨o1,o2,o3⟩:=h.o hc;refine⟨by simp[VS.mark,h.len],fun h1=>?_,fun _=>⟨o1,o2,fun m=>?_⟩⟩
 ·have:v.c=true:=h1;rw[hc]at this;cases this
 ·simp only[VS.mark,mem_append,mem_singleton];by_cases e:n=m
  ·subst e;rw[List.getElem?_set_self (by rw[h.len];exact hn)];simp
  ·rw[List.getElem?_set_ne e,o3 m];exact⟨.inl,fun h=>h.resolve_right (Ne.symm e)⟩
theorem RV.visit {ins:List Ins} (ho:∀ i∈ins,i.op=0∨i.op=1∨i.op=2∨i.op=3∨i.op=4):∀ {k n:Nat}{v:VS}{s:List Nat×List Nat},RV ins v s->RV ins (visit ins k n v) (rvisit ins k n s)
 | 0,n,v,s,h=>h
 | k+1,n,v,s,h=>by
   by_cases hc:v.c=true
   ·obtain⟨c1,c2⟩:=h.c hc;have e:Go.Ev.visit ins (k+1) n v=v:=by simp only[Go.Ev.visit];rw[if_pos (.inl hc)]
    obtain⟨m,hm⟩:=Cs ins (k+1) n s;rw[e];refine⟨h.len,fun _=>⟨by rw[hm,IN m c2];exact c1,?_⟩,fun h1=>by rw[hc]at h1;cases h1⟩;obtain⟨x,hx,hd⟩:=c2;exact⟨x,by rw[hm];exact mem_append_left _ hx,hd⟩
   ·have hc':v.c=false:=by simpa using hc
    obtain⟨o1,o2,o3⟩:=h.o hc';simp only[Go.Ev.visit,rvisit];by_cases hs:n∈s.2
    ·rw[if_pos hs,if_pos (.inr (by rw[(o3 n).2 hs];simp))];exact h
    ·rw[if_neg hs];cases hi:ins[n]? with
     | none=>
       simp only;have:Go.Ev.visit ins (k+1) n v=v:=by
        simp only[Go.Ev.visit];split
        ·rfl
        ·simp only[hi]
       split<;>exact h
     | some i=>
       have hn:=(zgb.1 hi).1;have ha:v.a[n]?=some false:=by
        obtain⟨b,hb⟩:∃ b,v.a[n]?=some b:=⟨_,zga (by rw[h.len];exact hn)⟩;cases b with
        | true=>exact absurd ((o3 n).1 hb) hs
        | false=>exact hb
       have hmk:=h.mark hc' hn;rw[if_neg (by simp[hc',ha])];simp only;have hd:isDone ins n=(i.op==0):=by simp[isDone,hi]
       by_cases h0:i.op=0
       ·rw[if_pos h0,if_neg (by omega),if_neg (by omega),if_neg (by omega)];refine⟨by simp[VS.found,h.len],fun _=>⟨?_,n,by simp,by simp[hd,h0]⟩,fun h1=>by cases h1⟩;rw[J5 (by simp[hd,h0]) o2,o1];rfl
       ·rw[if_neg h0];by_cases h1:i.op=1
        ·rw[if_pos h1,if_neg (by omega),if_neg (by omega),if_neg (by omega)];obtain⟨p1,p2,p3⟩:=hmk.o hc';refine⟨hmk.len,fun h2=>(by cases h2),fun _=>⟨by simp[VS.found,o1],fun m hm=>?_,p3⟩⟩;rcases mem_append.1 hm with hm|hm
         ·exact o2 m hm
         ·rw[mem_singleton.1 hm,hd];simp[h0]
        ·rw[if_neg h1];by_cases h3:i.op=3
         ·rw[if_pos h3,if_neg (by omega),if_pos h3];exact RV.visit ho hmk
         ·rw[if_neg h3];by_cases h2:i.op=2
          ·rw[if_pos h2,if_pos h2];exact RV.visit ho (RV.visit ho hmk)
          ·have h4:i.op=4:=by have:=ho i (zgc hi);omega
           rw[if_neg h2,if_pos h4,if_neg h2,if_neg h3,if_pos h4];exact RV.visit ho hmk
theorem RV.visits {ins:List Ins} (ho:∀ i∈ins,i.op=0∨i.op=1∨i.op=2∨i.op=3∨i.op=4) {k:Nat}:∀ {ns:List Nat}{v:VS}{s:List Nat×List Nat},RV ins v s->RV ins (visits ins k ns v) (rvisits ins k ns s)
 | [],v,s,h=>h
 | n::ns,v,s,h=>RV.visits ho (ns:=ns) (h.visit ho)
structure ROk (N:Nat) (s:List Nat×List Nat):Prop where
 lt:∀ n∈s.2,n<N
 nodup:s.2.Nodup
 one:s.1.length<=s.2.length
 sub:∀ n∈s.1,n<N
theorem ROk.small {N:Nat}{s:List Nat×List Nat} (h:ROk N s):s.2.length<=N:=Jt h.nodup h.lt
theorem ROk.mark {N n:Nat}{s:List Nat×List Nat} (h:ROk N s) (hn:n<N) (hs:n ∉ s.2):ROk N (s.1,s.2++[n]):=
 ⟨fun m hm=>by
   rcases mem_append.1 hm with h1|h1
   ·exact h.lt m h1
   ·rw[mem_singleton.1 h1];exact hn,
  List.nodup_append.2 ⟨h.nodup,by simp,fun x hx y hy e=>by rw[mem_singleton.1 hy]at e;exact hs (e ▸ hx)⟩,
  by have:=h.one;simp;omega,h.sub⟩
theorem ROk.visit {ins:List Ins}:∀ {k n:Nat}{s:List Nat×List Nat},ROk ins.length s->ROk ins.length (rvisit ins k n s)/\s.2.length<=(rvisit ins k n s).2.length
 | 0,n,s,h=>⟨h,le_refl _⟩
 | k+1,n,s,h=>by
   simp only[rvisit];split
   ·exact⟨h,le_refl _⟩
   rename_i hs;split
   ·exact⟨h,le_refl _⟩
   rename_i i hi;have hn:=(zgb.1 hi).1;have hm:=h.mark hn hs;split
   ·have h1:=ROk.visit (k:=k) (n:=i.x.toNat) hm;have h2:=ROk.visit (k:=k) (n:=i.y.toNat) h1.1;exact⟨h2.1,by have:=h1.2;have:=h2.2;simp at *;omega⟩
   split
   ·have h1:=ROk.visit (k:=k) (n:=i.x.toNat) hm;exact⟨h1.1,by have:=h1.2;simp at *;omega⟩
   split
   ·have h1:=ROk.visit (k:=k) (n:=n+1) hm;exact⟨h1.1,by have:=h1.2;simp at *;omega⟩
   ·refine⟨⟨hm.lt,hm.nodup,by have:=h.one;simp;omega,fun m hm'=>?_⟩,by simp⟩;rcases mem_append.1 hm' with h1|h1
    ·exact h.sub m h1
    ·rw[mem_singleton.1 h1];exact hn
theorem ROk.visits {ins:List Ins}{k:Nat}:∀ {ns:List Nat}{s:List Nat×List Nat},ROk ins.length s->ROk ins.length (rvisits ins k ns s)
 | [],s,h=>h
 | n::ns,s,h=>ROk.visits (ns:=ns) (h.visit (k:=k) (n:=n)).1
end Go.Ev
