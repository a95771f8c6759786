/- What functions of the program compute; no further conditions. -/
import Derived.Test.YtkolcijbdendhaaGreatD13
set_option linter.unusedVariables false
set_option linter.unusedSimpArgs false
open List (any_eq_true getElem?_eq_getElem getElem?_eq_none getElem?_of_mem head?_drop length_append length_cons length_map map_append map_take mem_append mem_cons mem_filter mem_of_getElem? mem_range mem_singleton pairwise_append pairwise_cons take_add_one)
open Nat (le_refl lt_or_ge mul_one)
open Go.Proofs Go.RowKit Go.IntWalk
set_option maxHeartbeats 8000000
set_option maxRecDepth 100000
namespace Go.Ev
attribute [local go_sem] evBin
section
attribute [local go_sem] evAppend AV.cells
def badAt (l:List (Int×Int)) (i:Nat):Bool:=
 match l[i]? with
 | some p=>!decide (0<=p.1/\p.1<=p.2/\p.2<=1114111)||(match i with
   | 0=>false
   | k+1=>match l[k]? with
     | some q=>decide (p.1-q.2<2)
     | none=>false)
 | none=>false
def refSpans (l:List (Int×Int)):Int:=if(List.range l.length).any (badAt l) then 1 else if 64<l.length then 4 else 0
theorem Ea {l:List (Int×Int)}{i:Nat} (hi:i<l.length) (h:badAt l i=true):refSpans l=1:=by
 unfold refSpans;rw[if_pos];exact any_eq_true.2 ⟨i,mem_range.2 hi,h⟩
theorem Hd {l:List (Int×Int)} (h:∀ k,k<l.length->badAt l k=false):refSpans l=if 64<l.length then 4 else 0:=by
 unfold refSpans;rw[if_neg];intro h2;obtain⟨k,h3,h4⟩:=any_eq_true.1 h2;rw[h k (mem_range.1 h3)]at h4;cases h4
end
section
attribute [local go_sem] evAppend AV.cells
theorem f91 (a b:Int) (H:List MB):call Pg pol1 75 [.agg [.int .i64 a,.int .i64 b]] H=some (.bool (decide (0<=a/\a<=b/\b<=1114111)),H):=by
 refine AS Tryz.func75 rfl rfl rfl rfl rfl rfl (fun _=>rfl) (by simp[AV.plain,AV.plainL,AJ,AF,AN,AO]) (by simp[AV.plain,AV.plainL,AJ,AF,AN,AO]) ?_ H;simp only[Tryz.f75,dd75,go_sem,simprocAttr,mu75];repeat' (first|intro _|apply And.intro|refine fzEq rfl ?_)
 all_goals (congr 1;simp only[decide_eq_decide,false_eq_decide_iff];omega)
theorem f121 (l:List (Int×Int)) (hl:l.length<=1000000) (H:List MB):call Pg pol1 49 [.sl false (l.map spanAV)] H=some (I (refSpans l),H):=by
 refine AS Tryz.func49 rfl rfl rfl rfl rfl rfl (fun _=>rfl) (by simp[AV.plain,AV.plainL,AJ,AF,AN,AO]) (by simp[AV.plain,AV.plainL,AJ,AF,AN,AO]) ?_ H;simp only[Tryz.f49,dd49,go_sem,simprocAttr,mu49];refine AY (M:=(mskOf (pol1.mask 49) (pol1.gc 49) (pol1.acts 49) 0 2)) rfl l.length (fun i=>(⟨35,[(7,I i),(6,I l.length),(5,.sl false (l.map spanAV)),(0,.sl false (l.map spanAV))],[]⟩:St)) (fun i=>∀ k,k<i->badAt l k=false) ?_ ?_ (fun k h=>by omega) _ (by first|rfl|(refine AR rfl (by rfl) (by rfl) (by rfl) ?_ ?_<;>simp[AV.underL,AV.under,MB.under,AE,AK,AJ,AF,AN,AO,-map_take]))
 ·intro i hlt hg;obtain⟨p,hp⟩:∃ p,l[i]?=some p:=⟨_,getElem?_eq_getElem hlt⟩;have ext:badAt l i=false->∀ k,k<i+1->badAt l k=false:=fun h k hk=>by
   rcases lt_or_ge k i with h1|h1
   ·exact hg k h1
   ·obtain rfl:k=i:=by omega
    exact h
  by_cases hgd:0<=p.1/\p.1<=p.2/\p.2<=1114111
  ·rcases i with _|i
   ·simp +contextual (disch:=omega) only[Tryz.f49,dd49,go_sem,simprocAttr,mu49,↓AD,↓AC,↓AB,↓AA,hp,spanAV,hgd,f91];refine⟨by unfold dOk;kernel_rfl,ext ?_,(by first|rfl|(refine AR rfl (by rfl) (by rfl) (by rfl) ?_ ?_<;>simp[AV.underL,AV.under,MB.under,AE,AK,AJ,AF,AN,AO,-map_take]))⟩;simp[badAt,hp,hgd]
   ·obtain⟨q,hq⟩:∃ q,l[i]?=some q:=⟨_,getElem?_eq_getElem (by omega)⟩;have hbq:=hg i (by omega);simp only[badAt,hq,Bool.or_eq_false_iff,Bool.not_eq_false',decide_eq_true_eq]at hbq
    replace hbq:=hbq.1
    have hb:badAt l (i+1)=decide (p.1-q.2<2):=by simp[badAt,hp,hq,hgd]
    simp +contextual (disch:=omega) only[Tryz.f49,dd49,go_sem,simprocAttr,mu49,↓AD,↓AC,↓AB,↓AA,hp,hq,spanAV,hgd,f91];refine⟨by unfold dOk;kernel_rfl,fun h=>fzEq rfl ?_,fun h=>⟨ext ?_,(by first|rfl|(refine AR rfl (by rfl) (by rfl) (by rfl) ?_ ?_<;>simp[AV.underL,AV.under,MB.under,AE,AK,AJ,AF,AN,AO,-map_take]))⟩⟩
    ·rw[Ea hlt];simp[hb];omega
    ·simp[hb];omega
  ·simp +contextual (disch:=omega) only[Tryz.f49,dd49,go_sem,simprocAttr,mu49,↓AD,↓AC,↓AB,↓AA,hp,spanAV,hgd,f91];refine⟨by unfold dOk;kernel_rfl,fzEq rfl ?_⟩;rw[Ea hlt (by simp only[badAt,hp];simp only[hgd,decide_false,Bool.not_false,Bool.true_or])]
 ·intro hg;rw[Hd hg];simp +contextual (disch:=omega) only[Tryz.f49,dd49,go_sem,simprocAttr,mu49,↓AD,↓AC,↓AB,↓AA];refine⟨fun h=>fzEq rfl ?_,fun h=>fzEq rfl ?_⟩
  ·rw[if_pos (by omega)]
  ·rw[if_neg (by omega)]
end
section
attribute [local go_sem] evAppend AV.cells A8 BI bndO bnd evEq eqCells not_false_eq_true not_true_eq_false toList_some Array.size_empty length_append map_append
def hasSpan (l:List (Int×Int)) (x:Int):Bool:=l.any fun p=>decide (p.1<=x)&&decide (x<=p.2)
theorem Lj {l:List (Int×Int)}{x:Int}{i:Nat}{p:Int×Int} (h:l[i]?=some p) (hp:p.1<=x/\x<=p.2):hasSpan l x=true:=by
 unfold hasSpan;exact any_eq_true.2 ⟨p,mem_of_getElem? h,by simp[hp]⟩
theorem Li {l:List (Int×Int)}{x:Int} (h:∀ k p,k<l.length->l[k]?=some p->¬ (p.1<=x/\x<=p.2)):hasSpan l x=false:=by
 unfold hasSpan;rw[List.any_eq_false];intro p hp;obtain⟨k,hk,e⟩:=List.getElem_of_mem hp;have:=h k p hk (by rw[<- e];exact getElem?_eq_getElem hk)
 simpa using this
theorem f43 (l:List (Int×Int)) (x:Int) (hl:l.length<=1000000) (H:List MB):call Pg pol1 89 [.sl false (l.map spanAV),I x] H=some (.bool (hasSpan l x),H):=by
 refine AS Tryz.func89 rfl rfl rfl rfl rfl rfl (fun _=>rfl) (by simp[AV.plain,AV.plainL,AJ,AF,AN,AO]) (by simp[AV.plain,AV.plainL,AJ,AF,AN,AO]) ?_ H;simp +contextual (disch:=omega) only[Tryz.f89,dd89,go_sem,simprocAttr,mu89,↓AD,↓AC,↓AB,↓AA];refine AY (M:=(mskOf (pol1.mask 89) (pol1.gc 89) (pol1.acts 89) 0 2)) rfl l.length (fun i=>(⟨24,[(9,I i),(8,I l.length),(7,.sl false (l.map spanAV)),(1,I x)],[]⟩:St)) (fun i=>∀ k p,k<i->l[k]?=some p->¬ (p.1<=x/\x<=p.2)) ?_ ?_ (fun k p h=>by omega) _ (by first|rfl|(refine AR rfl (by rfl) (by rfl) (by rfl) ?_ ?_<;>simp[AV.underL,AV.under,MB.under,AE,AK,AJ,AF,AN,AO,-map_take]))
 ·intro i hi hg;obtain⟨p,hp⟩:∃ p,l[i]?=some p:=⟨_,getElem?_eq_getElem hi⟩;by_cases hin:p.1<=x/\x<=p.2
  ·rw[Lj hp hin];simp +contextual (disch:=omega) only[Tryz.f89,dd89,go_sem,simprocAttr,mu89,↓AD,↓AC,↓AB,↓AA,hp,spanAV];exact fzEq rfl rfl
  ·have ext:∀ k q,k<i+1->l[k]?=some q->¬ (q.1<=x/\x<=q.2):=fun k q hk hq=>by
    rcases lt_or_ge k i with h|h
    ·exact hg k q h hq
    ·obtain rfl:k=i:=by omega
     rw[hp]at hq;obtain rfl:=Option.some.inj hq;exact hin
   by_cases h1:p.1<=x
   ·simp +contextual (disch:=omega) only[Tryz.f89,dd89,go_sem,simprocAttr,mu89,↓AD,↓AC,↓AB,↓AA,hp,spanAV];exact⟨ext,(by first|rfl|(refine AR rfl (by rfl) (by rfl) (by rfl) ?_ ?_<;>simp[AV.underL,AV.under,MB.under,AE,AK,AJ,AF,AN,AO,-map_take]))⟩
   ·simp +contextual (disch:=omega) only[Tryz.f89,dd89,go_sem,simprocAttr,mu89,↓AD,↓AC,↓AB,↓AA,hp,spanAV];exact⟨ext,(by first|rfl|(refine AR rfl (by rfl) (by rfl) (by rfl) ?_ ?_<;>simp[AV.underL,AV.under,MB.under,AE,AK,AJ,AF,AN,AO,-map_take]))⟩
 ·intro hg;rw[Li hg];simp +contextual (disch:=omega) only[Tryz.f89,dd89,go_sem,simprocAttr,mu89,↓AD,↓AC,↓AB,↓AA];exact fzEq rfl rfl
end
abbrev Spans:=List (Int×Int)
def addI (O:Spans) (p:Int×Int):Spans:=
 match O.getLast? with
 | some q=>if p.1<=q.2+1 then O.dropLast++[(q.1,max q.2 p.2)] else O++[p]
 | none=>[p]
theorem Dm (p:Int×Int):addI [] p=[p]:=rfl
theorem Dz (O:Spans) (q p:Int×Int):addI (O++[q]) p=if p.1<=q.2+1 then O++[(q.1,max q.2 p.2)] else O++[q]++[p]:=by
 simp[addI]
theorem Ky (O:Spans) (p:Int×Int):O.length<=(addI O p).length/\(addI O p).length<=O.length+1/\0<(addI O p).length:=by
 rcases List.eq_nil_or_concat O with rfl|⟨O',q,rfl⟩
 ·simp[Dm]
 ·rw[List.concat_eq_append,Dz];split<;>simp
structure SetV (s:Spans):Prop where
 sep:s.Pairwise fun p q=>p.2+2<=q.1
 good:∀ p∈s,0<=p.1/\p.1<=p.2/\p.2<=1114111
def colA (L:List Spans) (x:Int):List Bool:=L.map fun s=>hasSpan s x
def lastP (E:List Int) (top:Int) (k:Nat):Int:=(E[k]?).getD (top+1)
def pieceA (E:List Int) (top:Int) (k:Nat):Int×Int:=(lastP E top k,lastP E top (k+1)-1)
def colK (L:List Spans) (E:List Int) (top:Int) (k:Nat):List Bool:=colA L (lastP E top k)
section classes
variable (col:Nat->List Bool) (pc:Nat->Int×Int)
def firsts:Nat->List (List Bool)
 | 0=>[]
 | n+1=>if col n∈firsts n then firsts n else firsts n++[col n]
def clsOf (c:List Bool):Nat->Spans
 | 0=>[]
 | n+1=>if col n=c then addI (clsOf c n) (pc n) else clsOf c n
def classesA (n:Nat):List Spans:=(firsts col n).map fun c=>clsOf col pc c n
def tooBig (n:Nat):Prop:=1024<(firsts col n).length∨∃ c∈firsts col n,64<(clsOf col pc c n).length
variable {col pc}
theorem Cd {c:List Bool}:∀ {n:Nat},c∈firsts col n↔∃ k,k<n/\col k=c
 | 0=>by simp[firsts]
 | n+1=>by
   have ih:=Cd (c:=c) (n:=n);have e:(∃ k,k<n+1/\col k=c)↔(c∈firsts col n∨col n=c):=by
    rw[ih];constructor
    ·rintro⟨k,h1,h2⟩;rcases Nat.lt_succ_iff_lt_or_eq.1 h1 with h3|rfl
     ·exact .inl ⟨k,h3,h2⟩
     ·exact .inr h2
    ·rintro(⟨k,h1,h2⟩|h)
     ·exact⟨k,by omega,h2⟩
     ·exact⟨n,by omega,h⟩
   rw[e];simp only[firsts];split
   ·rename_i h;exact⟨.inl,fun h1=>h1.elim id fun h2=>h2 ▸ h⟩
   ·rw[mem_append,mem_singleton];exact⟨fun h1=>h1.imp id Eq.symm,fun h1=>h1.imp id Eq.symm⟩
theorem CU:∀ n,(firsts col n).Nodup
 | 0=>.nil
 | n+1=>by
   simp only[firsts];split
   ·exact CU n
   ·rename_i h;exact List.nodup_append.2 ⟨CU n,by simp,fun x hx y hy e=>h (by rw[<- mem_singleton.1 hy,<- e];exact hx)⟩
theorem G0 (n:Nat):∃ m,firsts col (n+1)=firsts col n++m:=by
 simp only[firsts];split
 ·exact⟨[],by simp⟩
 ·exact⟨_,rfl⟩
theorem NR {n m:Nat} (h:n<=m):∃ k,firsts col m=firsts col n++k:=by
 induction h with
 | refl=>exact⟨[],by simp⟩
 | step h ih=>
   obtain⟨k,hk⟩:=ih;obtain⟨k2,hk2⟩:=G0 (col:=col) _;exact⟨k++k2,by rw[hk2,hk,List.append_assoc]⟩
theorem Jg (c:List Bool) {n m:Nat} (h:n<=m):(clsOf col pc c n).length<=(clsOf col pc c m).length:=by
 induction h with
 | refl=>exact le_refl _
 | @step m h ih=>
   simp only[clsOf];split
   ·have:=(Ky (clsOf col pc c m) (pc m)).1;omega
   ·exact ih
theorem Iu {c:List Bool}{n:Nat} (h:c ∉ firsts col n):clsOf col pc c n=[]:=by
 induction n with
 | zero=>rfl
 | succ n ih=>
   have h2:c ∉ firsts col n:=fun hm=>h (by
    obtain⟨m,e⟩:=G0 (col:=col) n;rw[e];exact List.mem_append_left _ hm)
   have h3:col n≠c:=fun e=>h (Cd.2 ⟨n,by omega,e⟩);simp only[clsOf,if_neg h3];exact ih h2
theorem FH {c:List Bool}{n:Nat} (h:c∈firsts col n):0<(clsOf col pc c n).length:=by
 induction n with
 | zero=>simp[firsts]at h
 | succ n ih=>
   simp only[clsOf];split
   ·exact(Ky _ _).2.2
   ·rename_i h3;refine ih ?_;obtain⟨k,h1,h2⟩:=Cd.1 h;rcases Nat.lt_succ_iff_lt_or_eq.1 h1 with h4|rfl
    ·exact Cd.2 ⟨k,h4,h2⟩
    ·exact absurd h2 h3
theorem Jr {n m:Nat} (h:n<=m) (hb:tooBig col pc n):tooBig col pc m:=by
 obtain⟨k,hk⟩:=NR (col:=col) h;rcases hb with hb|⟨c,hc,hl⟩
 ·left;rw[hk,length_append];omega
 ·right;exact⟨c,by rw[hk];exact List.mem_append_left _ hc,Nat.lt_of_lt_of_le hl (Jg c h)⟩
theorem BN (n:Nat):(classesA col pc n).length=(firsts col n).length:=by simp[classesA]
theorem Dh {n j:Nat} (h:(firsts col n)[j]?=some (col n)):firsts col (n+1)=firsts col n/\classesA col pc (n+1)=(classesA col pc n).set j (addI (clsOf col pc (col n) n) (pc n))/\(classesA col pc n)[j]?=some (clsOf col pc (col n) n):=by
 have hm:col n∈firsts col n:=mem_of_getElem? h;have h1:firsts col (n+1)=firsts col n:=by simp only[firsts,if_pos hm]
 refine⟨h1,?_,by simp[classesA,h]⟩;have hj:=(List.getElem?_eq_some_iff.1 h).1;refine List.ext_getElem? fun i=>?_;rw[List.getElem?_set];unfold classesA;rw[h1,List.getElem?_map,List.getElem?_map,length_map];by_cases e:j=i
 ·subst e;rw[if_pos rfl,if_pos hj,h];simp[clsOf]
 ·rw[if_neg e];rcases lt_or_ge i (firsts col n).length with hi|hi
  ·have hne:col n≠(firsts col n)[i]:=fun e2=>by
    have h3:=(List.getElem?_eq_some_iff.1 h).2;have hnd:=List.pairwise_iff_getElem.1 (CU (col:=col) n);rcases Nat.lt_or_gt_of_ne e with h4|h4
    ·exact hnd j i hj hi h4 (h3.trans e2)
    ·exact hnd i j hi hj h4 (e2.symm.trans h3.symm)
   rw[getElem?_eq_getElem hi];simp[clsOf,hne]
  ·rw[getElem?_eq_none hi];rfl
theorem Di {n:Nat} (h:col n ∉ firsts col n):firsts col (n+1)=firsts col n++[col n]/\classesA col pc (n+1)=classesA col pc n++[[pc n]]:=by
 have h1:firsts col (n+1)=firsts col n++[col n]:=by simp only[firsts,if_neg h]
 refine⟨h1,?_⟩;unfold classesA;rw[h1,map_append];congr 1
 ·refine List.map_congr_left fun c hc=>?_;have:col n≠c:=fun e=>h (by rw[e];exact hc);simp[clsOf,this]
 ·simp[clsOf,Iu h,Dm]
end classes
open Classical in
noncomputable def splitA (L:List Spans) (E:List Int) (top:Int):Option (List Spans):=
 if tooBig (colK L E top) (pieceA E top) E.length then none else some (classesA (colK L E top) (pieceA E top) E.length)
theorem DA {L:List Spans}{E:List Int}{top:Int}{n:Nat} (hn:n<=E.length) (h:tooBig (colK L E top) (pieceA E top) n):splitA L E top=none:=by
 unfold splitA;rw[if_pos (Jr hn h)]
theorem H5 {L:List Spans}{E:List Int}{top:Int} (h:¬ tooBig (colK L E top) (pieceA E top) E.length):splitA L E top=some (classesA (colK L E top) (pieceA E top) E.length):=by
 unfold splitA;rw[if_neg h]
def putL (l:List Int) (n top:Int):List Int:=
 if n > top∨n∈l then l else l.filter (fun x=>decide (x<n))++[n]++l.filter (fun x=>decide (n<x))
def putS (top:Int) (l:List Int) (s:Spans):List Int:=s.foldl (fun l p=>putL (putL l p.1 top) (p.2+1) top) l
def endsR (L:List Spans) (top:Int):List Int:=L.foldl (putS top) [0]
structure EndsOk (top:Int) (l:List Int):Prop where
 sorted:l.Pairwise (·< ·)
 le:∀ x∈l,0<=x/\x<=top
 zero:0∈l
theorem Eb {l:List Int}{n top x:Int}:x∈putL l n top↔x∈l∨(x=n/\n<=top):=by
 unfold putL;split
 ·rename_i h;constructor
  ·exact .inl
  ·rintro(h1|⟨rfl,h1⟩)
   ·exact h1
   ·rcases h with h|h
    ·omega
    ·exact h
 ·rename_i h;have h1:n<=top:=by omega
  have h2:n ∉ l:=fun e=>h (.inr e);simp only[mem_append,mem_filter,mem_singleton,decide_eq_true_eq];constructor
  ·rintro((⟨h3,h4⟩|rfl)|⟨h3,h4⟩)
   ·exact .inl h3
   ·exact .inr ⟨rfl,h1⟩
   ·exact .inl h3
  ·rintro(h3|⟨rfl,h4⟩)
   ·rcases Int.lt_trichotomy x n with h5|h5|h5
    ·exact .inl (.inl ⟨h3,h5⟩)
    ·exact .inl (.inr h5)
    ·exact .inr ⟨h3,h5⟩
   ·exact .inl (.inr rfl)
theorem EndsOk.put {top:Int}{l:List Int} (h:EndsOk top l) {n:Int} (hn:0<=n):EndsOk top (putL l n top):=by
 refine⟨?_,fun x hx=>?_,Eb.2 (.inl h.zero)⟩
 ·unfold putL;split
  ·exact h.sorted
  ·refine pairwise_append.2 ⟨pairwise_append.2 ⟨h.sorted.filter _,by simp,fun a ha b hb=>?_⟩,h.sorted.filter _,fun a ha b hb=>?_⟩
   ·rw[mem_singleton.1 hb];have:=(mem_filter.1 ha).2
    simpa using this
   ·have h2:=(mem_filter.1 hb).2;simp at h2;rcases mem_append.1 ha with ha|ha
    ·have:=(mem_filter.1 ha).2;simp at this;omega
    ·rw[mem_singleton.1 ha];exact h2
 ·rcases Eb.1 hx with h1|⟨rfl,h1⟩
  ·exact h.le x h1
  ·exact⟨hn,h1⟩
theorem KA (l:List Int) (n top:Int):(putL l n top).length<=l.length+1:=by
 unfold putL;split
 ·omega
 ·rename_i h;have h2:n ∉ l:=fun e=>h (.inr e);have h3:∀ l:List Int,(l.filter fun x=>decide (x<n)).length+(l.filter fun x=>decide (n<x)).length<=l.length:=by
   intro l
   induction l with
   | nil=>simp
   | cons a l ih=>
     by_cases h5:a<n
     ·have h6:¬ n<a:=by omega
      simp[List.filter_cons,h5,h6];omega
     ·by_cases h6:n<a
      ·simp[List.filter_cons,h5,h6];omega
      ·simp[List.filter_cons,h5,h6];omega
  have:=h3 l;simp only[length_append,List.length_singleton];omega
theorem JK {top:Int}:∀ {s:Spans}{l:List Int},EndsOk top l->(∀ p∈s,0<=p.1/\p.1<=p.2)->EndsOk top (putS top l s)/\(putS top l s).length<=l.length+2*s.length /\
  ∀ x,x∈putS top l s↔x∈l∨∃ p∈s,(x=p.1∨x=p.2+1)/\x<=top
 | [],l,h,_=>⟨h,by simp[putS],fun x=>by simp[putS]⟩
 | p::s,l,h,hs=>by
   have hp:=hs p (by simp);obtain⟨h1,h2,h3⟩:=JK (s:=s) ((h.put hp.1).put (n:=p.2+1) (by omega)) (fun q hq=>hs q (by simp[hq]));have l1:=KA l p.1 top;have l2:=KA (putL l p.1 top) (p.2+1) top;refine⟨h1,?_,fun x=>?_⟩
   ·show (putS top (putL (putL l p.1 top) (p.2+1) top) s).length<=_;simp only[length_cons];omega
   ·show x∈putS top (putL (putL l p.1 top) (p.2+1) top) s↔_;rw[h3,Eb,Eb];constructor
    ·rintro(((h4|⟨rfl,h4⟩)|⟨rfl,h4⟩)|⟨q,h4,h5⟩)
     ·exact .inl h4
     ·exact .inr ⟨p,by simp,.inl rfl,h4⟩
     ·exact .inr ⟨p,by simp,.inr rfl,h4⟩
     ·exact .inr ⟨q,by simp[h4],h5⟩
    ·rintro(h4|⟨q,h4,h5,h6⟩)
     ·exact .inl (.inl (.inl h4))
     ·rcases mem_cons.1 h4 with rfl|h4
      ·rcases h5 with rfl|rfl
       ·exact .inl (.inl (.inr ⟨rfl,h6⟩))
       ·exact .inl (.inr ⟨rfl,h6⟩)
      ·exact .inr ⟨q,h4,h5,h6⟩
theorem G8 {top:Int}:∀ {L:List Spans}{l:List Int},EndsOk top l->(∀ s∈L,∀ p∈s,0<=p.1/\p.1<=p.2)->EndsOk top (L.foldl (putS top) l) /\
  ∀ x,x∈L.foldl (putS top) l↔x∈l∨∃ s∈L,∃ p∈s,(x=p.1∨x=p.2+1)/\x<=top
 | [],l,h,_=>⟨h,fun x=>by simp⟩
 | s::L,l,h,hs=>by
   obtain⟨h1,_,h2⟩:=JK (s:=s) h (hs s (by simp));obtain⟨h3,h4⟩:=G8 (L:=L) h1 (fun t ht=>hs t (by simp[ht]));refine⟨h3,fun x=>?_⟩;show x∈L.foldl (putS top) (putS top l s)↔_;rw[h4,h2];constructor
   ·rintro((h5|⟨p,h5,h6⟩)|⟨t,h5,p,h6,h7⟩)
    ·exact .inl h5
    ·exact .inr ⟨s,by simp,p,h5,h6⟩
    ·exact .inr ⟨t,by simp[h5],p,h6,h7⟩
   ·rintro(h5|⟨t,h5,p,h6,h7⟩)
    ·exact .inl (.inl h5)
    ·rcases mem_cons.1 h5 with rfl|h5
     ·exact .inl (.inr ⟨p,h6,h7⟩)
     ·exact .inr ⟨t,h5,p,h6,h7⟩
theorem Q6 {top:Int} (h:0<=top):EndsOk top [0]:=⟨by simp,fun x hx=>by rw[mem_singleton.1 hx];omega,by simp⟩
theorem Kf {L:List Spans}{top:Int} (h:0<=top) (hs:∀ s∈L,SetV s):EndsOk top (endsR L top):=(G8 (Q6 h) fun s hs' p hp=>⟨((hs s hs').good p hp).1,((hs s hs').good p hp).2.1⟩).1
theorem NU {L:List Spans}{top:Int} (h:0<=top) (hs:∀ s∈L,SetV s) {x:Int}:x∈endsR L top↔x=0∨∃ s∈L,∃ p∈s,(x=p.1∨x=p.2+1)/\x<=top:=by
 have:=(G8 (Q6 h) fun s hs' p hp=>⟨((hs s hs').good p hp).1,((hs s hs').good p hp).2.1⟩).2 x;rw[mem_singleton]at this;exact this
def endS (top:Int) (i:Nat) (s:Spans):List (Int×Int):=s.flatMap fun p=>(if p.1<=top then [(p.1,(i:Int))] else [])++(if p.2+1<=top then [(p.2+1,(i:Int))] else [])
def endsP (top:Int):Nat->List Spans->List (Int×Int)
 | _,[]=>[]
 | i,s::L=>endS top i s++endsP top (i+1) L
theorem Ep {top:Int}{i:Nat}{s:Spans}{e:Int×Int}:e∈endS top i s↔e.2=i/\∃ p∈s,(e.1=p.1∨e.1=p.2+1)/\e.1<=top:=by
 unfold endS;simp only[List.mem_flatMap,mem_append];constructor
 ·rintro⟨p,hp,h|h⟩
  ·split at h
   ·rw[mem_singleton.1 h];exact⟨rfl,p,hp,.inl rfl,by assumption⟩
   ·simp at h
  ·split at h
   ·rw[mem_singleton.1 h];exact⟨rfl,p,hp,.inr rfl,by assumption⟩
   ·simp at h
 ·rintro⟨h1,p,hp,h2,h3⟩;obtain⟨a,b⟩:=e;simp only at h1 h2 h3;refine⟨p,hp,?_⟩;rcases h2 with rfl|rfl
  ·left;rw[if_pos h3,h1];simp
  ·right;rw[if_pos h3,h1];simp
theorem Dw {top:Int}:∀ {L:List Spans}{i:Nat}{e:Int×Int},e∈endsP top i L->(∃ k:Nat,e.2=(k:Int)/\i<=k/\k<i+L.length)/\∃ s∈L,∃ p∈s,(e.1=p.1∨e.1=p.2+1)/\e.1<=top
 | [],i,e,h=>by simp[endsP]at h
 | s::L,i,e,h=>by
   rcases mem_append.1 h with h|h
   ·obtain⟨h1,h2⟩:=Ep.1 h;exact⟨⟨i,h1,by omega,by simp only[length_cons];omega⟩,s,by simp,h2⟩
   ·obtain⟨⟨k,h1,h2,h3⟩,t,ht,h4⟩:=Dw h;exact⟨⟨k,h1,by omega,by simp only[length_cons];omega⟩,t,by simp[ht],h4⟩
theorem Io {top:Int}{x:Int}:∀ {L:List Spans}{i:Nat},(∃ s∈L,∃ p∈s,(x=p.1∨x=p.2+1)/\x<=top)->∃ e∈endsP top i L,e.1=x
 | [],i,⟨s,h,_⟩=>by simp at h
 | s::L,i,⟨t,ht,h⟩=>by
   rcases mem_cons.1 ht with rfl|ht
   ·exact⟨(x,(i:Int)),List.mem_append_left _ (Ep.2 ⟨rfl,h⟩),rfl⟩
   ·obtain⟨e,he,h2⟩:=Io (L:=L) (i:=i+1) ⟨t,ht,h⟩;exact⟨e,List.mem_append_right _ he,h2⟩
theorem Kg (top:Int) (i:Nat) (s:Spans):(endS top i s).length<=2*s.length:=by
 unfold endS
 induction s with
 | nil=>simp
 | cons p s ih=>
   simp only[List.flatMap_cons,length_append,length_cons]at ih |-;have h1:(if p.1<=top then [(p.1,(i:Int))] else []).length<=1:=by split<;>simp
   have h2:(if p.2+1<=top then [(p.2+1,(i:Int))] else []).length<=1:=by split<;>simp
   omega
theorem Dx {top:Int}:∀ {L:List Spans}{i:Nat},(∀ s∈L,s.length<=64)->(endsP top i L).length<=128*L.length
 | [],i,_=>by simp[endsP]
 | s::L,i,h=>by
   have h1:=Kg top i s;have h2:=Dx (top:=top) (L:=L) (i:=i+1) (fun t ht=>h t (by simp[ht]));have h3:=h s (by simp);simp only[endsP,length_append,length_cons];omega
theorem Ng {s:Spans} (h:SetV s) {x top:Int} (hx:x<=top) (i:Nat):(endS top i s).countP (fun e=>decide (e.1<=x)) % 2=if hasSpan s x then 1 else 0:=by
 have key:∀ s:Spans,(s.Pairwise fun p q=>p.2+2<=q.1)->(∀ p∈s,p.1<=p.2)->(endS top i s).countP (fun e=>decide (e.1<=x)) % 2=if hasSpan s x then 1 else 0:=by
  intro s
  induction s with
  | nil=>intro _ _;rfl
  | cons p s ih=>
    intro h1 h2;have ih:=ih (List.Pairwise.of_cons h1) (fun q hq=>h2 q (by simp[hq]));have hp:=h2 p (by simp);have h3:=(pairwise_cons.1 h1).1;have e:endS top i (p::s)=((if p.1<=top then [(p.1,(i:Int))] else [])++(if p.2+1<=top then [(p.2+1,(i:Int))] else []))++endS top i s:=rfl;have hh:hasSpan (p::s) x=((decide (p.1<=x)&&decide (x<=p.2))||hasSpan s x):=rfl;have c1:(if p.1<=top then [(p.1,(i:Int))] else []).countP (fun e=>decide (e.1<=x))=if p.1<=x then 1 else 0:=by
     by_cases h4:p.1<=x
     ·rw[if_pos (show p.1<=top by omega),if_pos h4];simp[h4]
     ·rw[if_neg h4];split<;>simp[h4]
    have c2:(if p.2+1<=top then [(p.2+1,(i:Int))] else []).countP (fun e=>decide (e.1<=x))=if p.2+1<=x then 1 else 0:=by
     by_cases h4:p.2+1<=x
     ·rw[if_pos (show p.2+1<=top by omega),if_pos h4];simp[h4]
     ·rw[if_neg h4];split<;>simp[h4]
    rw[e,List.countP_append,List.countP_append,c1,c2,hh];by_cases h4:p.1<=x
    ·by_cases h5:x<=p.2
     ·have h6:hasSpan s x=false:=by
       unfold hasSpan;rw[List.any_eq_false];intro q hq;have:=h3 q hq;simp;omega
      have h7:¬ p.2+1<=x:=by omega
      rw[h6]at ih;simp only[h6,h4,h5,h7,if_true,if_false,decide_true,Bool.and_self,Bool.or_false];simp at ih |-;omega
     ·have h7:p.2+1<=x:=by omega
      simp only[h4,h5,h7,if_true,decide_true,decide_false,Bool.and_false,Bool.false_or];rw[<- ih];omega
    ·have h7:¬ p.2+1<=x:=by omega
     simp only[h4,h7,if_false,decide_false,Bool.false_and,Bool.false_or];rw[<- ih];simp
 exact key s h.sep (fun p hp=>(h.good p hp).2.1)
theorem Lv {top:Int}{i j:Nat} (h:i≠j) (s:Spans) (x:Int):(endS top i s).countP (fun e=>decide (e.1<=x)&&decide (e.2=(j:Int)))=0:=by
 rw[List.countP_eq_zero];intro e he;have:=(Ep.1 he).1;simp[this];intro _;omega
theorem NY {top:Int}{i:Nat} (s:Spans) (x:Int):(endS top i s).countP (fun e=>decide (e.1<=x)&&decide (e.2=(i:Int)))=(endS top i s).countP (fun e=>decide (e.1<=x)):=by
 refine List.countP_congr fun e he=>?_;have:=(Ep.1 he).1;simp[this]
theorem HD {top x:Int} (hx:x<=top):∀ {L:List Spans}{i j:Nat},(∀ s∈L,SetV s)->i<=j->(endsP top i L).countP (fun e=>decide (e.1<=x)&&decide (e.2=(j:Int))) % 2=if(colA L x).getD (j-i) false then 1 else 0
 | [],i,j,_,_=>by simp[endsP,colA]
 | s::L,i,j,h,hij=>by
   simp only[endsP,List.countP_append];rcases lt_or_ge i j with h1|h1
   ·have ih:=HD hx (L:=L) (i:=i+1) (j:=j) (fun t ht=>h t (by simp[ht])) h1;rw[Lv (by omega),Nat.zero_add,ih];obtain⟨k,rfl⟩:∃ k,j=i+1+k:=⟨j-(i+1),by omega⟩;have e1:i+1+k-(i+1)=k:=by omega
    have e2:i+1+k-i=k+1:=by omega
    rw[e1,e2];simp[colA]
   ·obtain rfl:j=i:=by omega
    have h2:(endsP top (j+1) L).countP (fun e=>decide (e.1<=x)&&decide (e.2=(j:Int)))=0:=by
     rw[List.countP_eq_zero];intro e he;obtain⟨⟨k,h3,h4,h5⟩,_⟩:=Dw he;simp[h3];intro _;omega
    rw[h2,Nat.add_zero,NY,Ng (h s (by simp)) hx];simp[colA]
end Go.Ev
namespace Go.Ev
attribute [local go_sem] evBin
section
attribute [local go_sem] evAppend AV.cells
def aroundI (n m:Int):Int:=(if n<0 then-(n+1) else n) % m
def In64 (n:Int):Prop:=-9223372036854775808<=n/\n<=9223372036854775807
theorem Nw {n m:Int} (h:0<m):0<=aroundI n m/\aroundI n m<m:=by
 unfold aroundI;have:0<=(if n<0 then-(n+1) else n):=by split<;>omega
 exact⟨Int.emod_nonneg _ (by omega),Int.emod_lt_of_pos _ h⟩
theorem f12 (n m:Int) (hn:In64 n) (hm:m≠0) (H:List MB):call Pg pol1 8 [.int .i64 n,.int .i64 m] H=some (I (aroundI n m),H):=by
 obtain⟨h1,h2⟩:=hn;refine AS Tryz.func8 rfl rfl rfl rfl rfl rfl (fun _=>rfl) (by simp[AV.plain,AV.plainL,AJ,AF,AN,AO]) (by simp[AV.plain,AV.plainL,AJ,AF,AN,AO]) ?_ H;simp +contextual (disch:=omega) only[Tryz.f8,dd8,go_sem,simprocAttr,mu8,↓AD,↓AC,↓AB,↓AA];unfold aroundI;refine⟨fun h=>⟨hm,fzEq rfl ?_⟩,fun h=>⟨hm,fzEq rfl ?_⟩⟩
 ·rw[if_pos h];try (congr 2;omega)
 ·rw[if_neg h]
def pickI (l:List Int) (i m:Int):Int:=if i<0 then 0 else match l[i.toNat]? with
 | some x=>aroundI x m
 | none=>0
theorem F1 {l:List Int}{i m:Int} (h:0<m):0<=pickI l i m/\pickI l i m<m:=by
 unfold pickI;split
 ·omega
 ·split
  ·exact Nw h
  ·omega
theorem f57 (l:List Int) (i m:Int) (hl:∀ x∈l,In64 x) (hm:m≠0) (H:List MB):call Pg pol1 39 [.sl false (l.map I),.int .i64 i,.int .i64 m] H=some (I (pickI l i m),H):=by
 refine AS Tryz.func39 rfl rfl rfl rfl rfl rfl (fun _=>rfl) (by simp[AV.plain,AV.plainL,AJ,AF,AN,AO]) (by simp[AV.plain,AV.plainL,AJ,AF,AN,AO]) ?_ H;by_cases h0:i<0
 ·have e:pickI l i m=0:=by simp[pickI,h0]
  rw[e];simp +contextual (disch:=omega) only[Tryz.f39,dd39,go_sem,simprocAttr,mu39,↓AD,↓AC,↓AB,↓AA];exact fzEq rfl rfl
 ·obtain⟨k,rfl⟩:∃ k:Nat,i=k:=⟨i.toNat,by omega⟩;by_cases h1:k<l.length
  ·obtain⟨p,hp⟩:∃ p,l[k]?=some p:=⟨_,getElem?_eq_getElem h1⟩;have e:pickI l k m=aroundI p m:=by simp[pickI,h0,hp]
   rw[e];have hf:=f12 p m (hl p (mem_of_getElem? hp)) hm;simp +contextual (disch:=omega) only[Tryz.f39,dd39,go_sem,simprocAttr,mu39,↓AD,↓AC,↓AB,↓AA,hp,hf];exact fzEq rfl rfl
  ·have e:pickI l k m=0:=by simp[pickI,getElem?_eq_none (Nat.le_of_not_lt h1)]
   rw[e];simp +contextual (disch:=omega) only[Tryz.f39,dd39,go_sem,simprocAttr,mu39,↓AD,↓AC,↓AB,↓AA];exact fzEq rfl rfl
end
end Go.Ev
/- What a state of the machine is: the plain laws of the search for it. -/
namespace Go.Ev
structure VS where
 r:List Nat
 a:List Bool
 c:Bool
def VS.mark (s:VS) (n:Nat):VS:=⟨s.r,s.a.set n true,s.c⟩
def VS.found (s:VS) (n:Nat) (c:Bool):VS:=⟨s.r++[n],s.a.set n true,c⟩
def VS.open (s:VS):Nat:=s.a.countP (fun b=>!b)
def vs0 (n:Nat):VS:=⟨[],List.replicate n false,false⟩
structure VS.Ok (N:Nat) (s:VS):Prop where
 len:s.a.length=N
 res:∀ n∈s.r,n<N/\s.a[n]?=some true
 nodup:s.r.Nodup
theorem VS.Ok.mark {N n:Nat}{s:VS} (h:s.Ok N):(s.mark n).Ok N:=by
 refine⟨by simp[VS.mark,h.len],fun m hm=>?_,h.nodup⟩;obtain⟨h1,h2⟩:=h.res m hm;refine⟨h1,?_⟩;simp only[VS.mark];by_cases e:n=m
 ·subst e;rw[List.getElem?_set_self (by rw[h.len];exact h1)]
 ·rw[List.getElem?_set_ne e];exact h2
theorem VS.Ok.found {N n:Nat}{c:Bool}{s:VS} (h:s.Ok N) (hn:s.a[n]?=some false):(s.found n c).Ok N:=by
 have hlt:n<s.a.length:=(List.getElem?_eq_some_iff.1 hn).1;have hm:=h.mark (n:=n);refine⟨hm.len,fun m hm'=>?_,?_⟩
 ·rcases mem_append.1 hm' with h1|h1
  ·exact hm.res m h1
  ·rw[mem_singleton.1 h1];exact⟨by rw[<- h.len];exact hlt,by simp only[VS.found];rw[List.getElem?_set_self hlt]⟩
 ·refine List.nodup_append.2 ⟨h.nodup,by simp,fun x hx y hy e=>?_⟩;rw[mem_singleton.1 hy]at e;subst e;have:=(h.res x hx).2;rw[hn]at this;cases this
theorem NA {N:Nat}{l:List Nat} (h:l.Nodup) (hl:∀ n∈l,n<N):l.length<=N:=by
 have:=List.Nodup.length_le_of_subset h (l₂:=List.range N) (fun x hx=>mem_range.2 (hl x hx))
 simpa using this
theorem VS.Ok.small {N:Nat}{s:VS} (h:s.Ok N):s.r.length<=N:=NA h.nodup (fun n hn=>(h.res n hn).1)
end Go.Ev
namespace Go.Ev
attribute [local go_sem] evBin
section
attribute [local go_sem] evAppend AV.cells A8 BI bndO bnd evEq eqCells not_false_eq_true not_true_eq_false toList_some Array.size_empty length_append map_append tySzE head?_drop mul_one As A1 Am At Au Ag
abbrev NV (n:Nat):AV:=I (n:Int)
theorem Bo {α:Type} (K:List α) (x:α):(K++[x])[K.length]?=some x:=by simp
theorem IW {α:Type} (K:List α) (x y:α):(K++[x]).set K.length y=K++[y]:=by simp
theorem RY {t:Bool}{l:List AV} (h:AV.plainL l=true) (H:List MB):fz (.sl t l) H=some (.sl false l,H):=by
 simp only[fz,fzA,A3 _ _ _ h]
end
section
attribute [local go_sem] evAppend AV.cells A8 BI bndO bnd evEq eqCells not_false_eq_true not_true_eq_false toList_some Array.size_empty length_append map_append tySzE head?_drop mul_one As A1 Am At Au Ag
theorem C8 {P:Program}{pol:Pol}{f:Nat}{args l:List AV}{H H1:List MB} (hp:pol.pure f=true) (h:frzArgs pol f 0 args H=some (l,H1)) (ha:AV.plainL l=true) :
  call P pol f args H=call P pol f l H1:=by
 have hf:∀(l:List AV) (i:Nat),AV.plainL l=true->frzArgs pol f i l H1=some (l,H1):=by
  intro l
  induction l with
  | nil=>intro i _;rfl
  | cons x l ih=>
    intro i h;simp only[AV.plainL,Bool.and_eq_true]at h;simp only[frzArgs,Ad H1 h.1,ih (i+1) h.2];split<;>simp_all
 rw[BO,BO];unfold evStep;simp only[hp,if_true,h,hf l 0 ha]
theorem Bc {P:Program}{pol:Pol}{f:Nat}{args l:List AV}{H H1:List MB} (hp:pol.pure f=true) (h:frzArgs pol f 0 args H=some (l,H1)) (ha:AV.plainL l=true) :
  call P pol f args H=call P pol f l H1:=by
 have hf:∀(l:List AV) (i:Nat),AV.plainL l=true->frzArgs pol f i l H1=some (l,H1):=by
  intro l
  induction l with
  | nil=>intro i _;rfl
  | cons x l ih=>
    intro i h;simp only[AV.plainL,Bool.and_eq_true]at h;simp only[frzArgs,Ad H1 h.1,ih (i+1) h.2];split<;>simp_all
 rw[BO,BO];unfold evStep;simp only[hp,if_true,h,hf l 0 ha]
end
def WR (w:List Int) (b:Nat->Bool):Prop:=w.length=16/\∀ i,i<16->∃ x:Nat,w[i]?=some (x:Int)/\x<2 ^ 64/\∀ r,r<64->x.testBit r=b (64*i+r)
theorem WR.uniq {w w':List Int}{b b':Nat->Bool} (h:WR w b) (h':WR w' b') (hb:∀ j,j<1024->b j=b' j):w=w':=by
 refine List.ext_getElem? fun i=>?_;rcases lt_or_ge i 16 with hi|hi
 ·obtain⟨x,h1,h2,h3⟩:=h.2 i hi;obtain⟨y,h4,h5,h6⟩:=h'.2 i hi;have:x=y:=by
   refine Nat.eq_of_testBit_eq fun r=>?_;rcases lt_or_ge r 64 with hr|hr
   ·rw[h3 r hr,h6 r hr,hb _ (by omega)]
   ·rw[Nat.testBit_lt_two_pow (Nat.lt_of_lt_of_le h2 (Nat.pow_le_pow_right (by omega) hr)),Nat.testBit_lt_two_pow (Nat.lt_of_lt_of_le h5 (Nat.pow_le_pow_right (by omega) hr))]
  rw[h1,h4,this]
 ·rw[getElem?_eq_none (by rw[h.1];exact hi),getElem?_eq_none (by rw[h'.1];exact hi)]
theorem WR.inj {w:List Int}{b b':Nat->Bool} (h:WR w b) (h':WR w b') {j:Nat} (hj:j<1024):b j=b' j:=by
 obtain⟨x,h1,h2,h3⟩:=h.2 (j / 64) (by omega);obtain⟨y,h4,h5,h6⟩:=h'.2 (j / 64) (by omega);rw[h1]at h4;have:x=y:=by have:=Option.some.inj h4;omega
 subst this;have e:64*(j / 64)+j % 64=j:=by omega
 have h7:=h3 (j % 64) (by omega);have h8:=h6 (j % 64) (by omega);rw[e]at h7 h8;rw[<- h7,h8]
theorem WR.congr {w:List Int}{b b':Nat->Bool} (h:WR w b) (hb:∀ j,j<1024->b j=b' j):WR w b':=by
 refine⟨h.1,fun i hi=>?_⟩;obtain⟨x,h1,h2,h3⟩:=h.2 i hi;exact⟨x,h1,h2,fun r hr=>by rw[h3 r hr,hb _ (by omega)]⟩
theorem WR.zero:WR (List.replicate 16 0) fun _=>false:=by
 refine⟨rfl,fun i hi=>⟨0,?_,by decide,fun r _=>by simp⟩⟩;rw[List.getElem?_replicate,if_pos hi];rfl
def xorW (x:Int) (r:Nat):Int:=IntKind.u64.wrap ((BitVec.ofInt 64 x ^^^ BitVec.ofInt 64 (2 ^ r:Int)).toNat:Int)
theorem PQ {x r:Nat} (hx:x<2 ^ 64) (hr:r<64):xorW (x:Int) r=((x ^^^ 2 ^ r:Nat):Int):=by
 have h1:(2:Nat) ^ r<2 ^ 64:=Nat.pow_lt_pow_right (by omega) hr;have h2:x ^^^ 2 ^ r<2 ^ 64:=Nat.xor_lt_two_pow hx h1;have e1:(BitVec.ofInt 64 (x:Int)).toNat=x:=by
  rw[BitVec.ofInt_natCast,BitVec.toNat_ofNat,Nat.mod_eq_of_lt hx]
 have e2:(BitVec.ofInt 64 (2 ^ r:Int)).toNat=2 ^ r:=by
  have:(2 ^ r:Int)=((2 ^ r:Nat):Int):=by simp
  rw[this,BitVec.ofInt_natCast,BitVec.toNat_ofNat,Nat.mod_eq_of_lt h1]
 unfold xorW;rw[BitVec.toNat_xor,e1,e2];simp only[IntKind.wrap,IntKind.bits,IntKind.signed];simp;omega
theorem WR.tog {w:List Int}{b:Nat->Bool} (h:WR w b) {s:Nat} (hs:s<1024) {x:Int} (hx:w[s / 64]?=some x):WR (w.set (s / 64) (xorW x (s % 64))) fun j=>if j=s then !b j else b j:=by
 refine⟨by rw[List.length_set];exact h.1,fun i hi=>?_⟩;obtain⟨y,h1,h2,h3⟩:=h.2 i hi;by_cases e:s / 64=i
 ·subst e;rw[h1]at hx;obtain rfl:(y:Int)=x:=Option.some.inj hx;rw[List.getElem?_set_self (by rw[h.1];exact hi),PQ h2 (by omega)];refine⟨_,rfl,Nat.xor_lt_two_pow h2 (Nat.pow_lt_pow_right (by omega) (by omega)),fun r hr=>?_⟩;rw[Nat.testBit_xor,h3 r hr,Nat.testBit_two_pow];by_cases e2:s % 64=r
  ·have e3:64*(s / 64)+r=s:=by omega
   simp only[if_pos e3];simp[e2]
  ·simp only[if_neg (show ¬ 64*(s / 64)+r=s by omega)];simp[e2]
 ·rw[List.getElem?_set_ne e];refine⟨y,h1,h2,fun r hr=>?_⟩;simp only[if_neg (show ¬ 64*i+r=s by omega)];exact h3 r hr
def par (l:List (Int×Int)) (j:Nat):Bool:=l.countP (fun e=>decide (e.2=(j:Int))) % 2==1
theorem OW (l:List (Int×Int)) (a:Int) (s:Nat):par (l++[(a,(s:Int))])=fun j=>if j=s then !par l j else par l j:=by
 funext j
 unfold par;rw[List.countP_append];by_cases h:j=s
 ·subst h;simp[List.countP_cons];rcases Nat.mod_two_eq_zero_or_one (l.countP fun e=>decide (e.2=(j:Int))) with h2|h2
  ·rw[h2];simp;omega
  ·rw[h2];simp;omega
 ·have:¬ ((s:Int)=(j:Int)):=by omega
  simp[List.countP_cons,this,h]
section scan
variable {L:List Spans}{top:Int}{S:List (Int×Int)}{E:List Int}
structure ScanOk (L:List Spans) (top:Int) (S:List (Int×Int)) (E:List Int):Prop where
 sets:∀ s∈L,SetV s
 top0:0<=top
 many:L.length<=1024
 perm:S.Perm (endsP top 0 L)
 sorted:S.Pairwise fun a b=>a.1<=b.1
 ends:EndsOk top E
 mem:∀ x,x∈E↔x=0∨∃ s∈L,∃ p∈s,(x=p.1∨x=p.2+1)/\x<=top
def From (S:List (Int×Int)) (j:Nat) (x:Int):Prop:=(∀ i e,i<j->S[i]?=some e->e.1<x)/\∀ i e,j<=i->S[i]?=some e->x<=e.1
def Past (S:List (Int×Int)) (j:Nat) (x:Int):Prop:=(∀ i e,i<j->S[i]?=some e->e.1<=x)/\∀ i e,j<=i->S[i]?=some e->x<e.1
theorem ScanOk.at (h:ScanOk L top S E) {j:Nat}{e:Int×Int} (he:S[j]?=some e):(∃ k:Nat,e.2=(k:Int)/\k<L.length)/\e.1∈E/\0<=e.1/\e.1<=top:=by
 have hm:=h.perm.mem_iff.1 (mem_of_getElem? he);obtain⟨⟨k,h1,_,h2⟩,h3⟩:=Dw hm;have hE:=(h.mem e.1).2 (.inr h3);exact⟨⟨k,h1,by omega⟩,hE,h.ends.le _ hE⟩
theorem ScanOk.has (h:ScanOk L top S E) {x:Int} (hx:x∈E) (h0:x≠0):∃(j:Nat) (e:Int×Int),S[j]?=some e/\e.1=x:=by
 rcases(h.mem x).1 hx with h1|h1
 ·exact absurd h1 h0
 ·obtain⟨e,he,h2⟩:=Io (i:=0) h1;obtain⟨j,hj⟩:=getElem?_of_mem (h.perm.mem_iff.2 he);exact⟨j,e,hj,h2⟩
theorem Past.par (h:ScanOk L top S E) {j:Nat}{x:Int} (hx:x<=top) (hp:Past S j x) (k:Nat):par (S.take j) k=(colA L x).getD k false:=by
 have h1:=HD hx (L:=L) (i:=0) (j:=k) h.sets (Nat.zero_le _);rw[<- h.perm.countP_eq,Nat.sub_zero]at h1;have h2:S.countP (fun e=>decide (e.1<=x)&&decide (e.2=(k:Int)))=(S.take j).countP fun e=>decide (e.2=(k:Int)):=by
  conv=>lhs;rw[<- List.take_append_drop j S,List.countP_append]
  have e1:(S.drop j).countP (fun e=>decide (e.1<=x)&&decide (e.2=(k:Int)))=0:=by
   rw[List.countP_eq_zero];intro e he;obtain⟨i,hi⟩:=getElem?_of_mem he;rw[List.getElem?_drop]at hi;have:=hp.2 (j+i) e (by omega) hi;simp;intro _;omega
  rw[e1,Nat.add_zero];refine List.countP_congr fun e he=>?_;obtain⟨i,hi⟩:=getElem?_of_mem he;rw[List.getElem?_take]at hi;split at hi
  ·have:=hp.1 i e (by assumption) hi;simp[this]
  ·cases hi
 unfold Ev.par;rw[<- h2,h1];cases (colA L x).getD k false<;>rfl
theorem CI {E:List Int}{top x:Int}{k:Nat} (h:E[k]?=some x):lastP E top k=x:=by simp[lastP,h]
theorem Ds {E:List Int}{top:Int}{k:Nat} (h:E.length<=k):lastP E top k=top+1:=by simp[lastP,getElem?_eq_none h]
theorem EndsOk.lt (h:EndsOk top E) {i j:Nat}{x y:Int} (hi:E[i]?=some x) (hj:E[j]?=some y) (hij:i<j):x<y:=by
 obtain⟨h1,e1⟩:=List.getElem?_eq_some_iff.1 hi;obtain⟨h2,e2⟩:=List.getElem?_eq_some_iff.1 hj;have:=List.pairwise_iff_getElem.1 h.sorted i j h1 h2 hij;rw[e1,e2]at this;exact this
theorem EndsOk.first (h:EndsOk top E):E[0]?=some 0:=by
 obtain⟨j,hj⟩:=getElem?_of_mem h.zero;rcases Nat.eq_zero_or_pos j with rfl|h0
 ·exact hj
 ·have hlt:=(List.getElem?_eq_some_iff.1 hj).1;obtain⟨x,hx⟩:∃ x,E[0]?=some x:=⟨_,getElem?_eq_getElem (by omega)⟩;have h1:=h.lt hx hj h0;have h2:=h.le x (mem_of_getElem? hx);omega
theorem EndsOk.step (h:EndsOk top E) {k:Nat} (hk:k<E.length):lastP E top k<lastP E top (k+1)/\0<=lastP E top k/\lastP E top k<=top/\lastP E top (k+1)<=top+1:=by
 obtain⟨x,hx⟩:∃ x,E[k]?=some x:=⟨_,getElem?_eq_getElem hk⟩;have hl:=h.le x (mem_of_getElem? hx);rw[CI hx];rcases lt_or_ge (k+1) E.length with h1|h1
 ·obtain⟨y,hy⟩:∃ y,E[k+1]?=some y:=⟨_,getElem?_eq_getElem h1⟩;have hl2:=h.le y (mem_of_getElem? hy);rw[CI hy];exact⟨h.lt hx hy (by omega),hl.1,hl.2,by omega⟩
 ·rw[Ds h1];exact⟨by omega,hl.1,hl.2,by omega⟩
theorem EndsOk.mono (h:EndsOk top E) {i j:Nat} (hij:i<j) (hj:j<=E.length):lastP E top i<lastP E top j:=by
 obtain⟨x,hx⟩:∃ x,E[i]?=some x:=⟨_,getElem?_eq_getElem (by omega)⟩;rw[CI hx];rcases lt_or_ge j E.length with h1|h1
 ·obtain⟨y,hy⟩:∃ y,E[j]?=some y:=⟨_,getElem?_eq_getElem h1⟩;rw[CI hy];exact h.lt hx hy hij
 ·rw[Ds h1];have:=(h.le x (mem_of_getElem? hx)).2;omega
theorem Past.next (h:ScanOk L top S E) {j k:Nat} (hk:k<E.length) (hp:Past S j (lastP E top k)):lastP E top (k+1)=(match S[j]? with
  | some e=>e.1
  | none=>top+1)/\From S j (lastP E top (k+1)):=by
 obtain⟨x,hx⟩:∃ x,E[k]?=some x:=⟨_,getElem?_eq_getElem hk⟩;have hl:=h.ends.le x (mem_of_getElem? hx);rw[CI hx]at hp;have hsort:∀(i i':Nat) (e e':Int×Int),i<=i'->S[i]?=some e->S[i']?=some e'->e.1<=e'.1:=fun i i' e e' hii h1 h2=>by
  rcases Nat.lt_or_eq_of_le hii with h3|rfl
  ·obtain⟨l1,q1⟩:=List.getElem?_eq_some_iff.1 h1;obtain⟨l2,q2⟩:=List.getElem?_eq_some_iff.1 h2;have:=List.pairwise_iff_getElem.1 h.sorted i i' l1 l2 h3;rw[q1,q2]at this;exact this
  ·rw[h1]at h2;rw[Option.some.inj h2];exact Int.le_refl _
 have later:∀(m:Nat) (y:Int),k<m->E[m]?=some y->∃(i:Nat) (e:Int×Int),j<=i/\S[i]?=some e/\e.1=y:=fun m y hm hy=>by
  have hlt:=h.ends.lt hx hy hm;obtain⟨i,e,hi,he⟩:=h.has (mem_of_getElem? hy) (by omega);refine⟨i,e,?_,hi,he⟩;rcases lt_or_ge i j with h1|h1
  ·have:=hp.1 i e h1 hi;omega
  ·exact h1
 cases hS:S[j]? with
 | none=>
   have hk1:E.length<=k+1:=by
    rcases lt_or_ge (k+1) E.length with h1|h1
    ·obtain⟨i,e,h2,h3,_⟩:=later (k+1) _ (by omega) (getElem?_eq_getElem h1);have:=(List.getElem?_eq_some_iff.1 h3).1;have:=List.getElem?_eq_none_iff.1 hS;omega
    ·exact h1
   rw[Ds hk1];refine⟨rfl,fun i e hi he=>?_,fun i e hi he=>?_⟩
   ·have:=hp.1 i e hi he;omega
   ·have h1:=(List.getElem?_eq_some_iff.1 he).1;have h2:=List.getElem?_eq_none_iff.1 hS;omega
 | some e=>
   have hgt:=hp.2 j e (le_refl _) hS;obtain⟨m,hm⟩:=getElem?_of_mem (h.at hS).2.1;have hkm:k<m:=by
    rcases lt_or_ge k m with h1|h1
    ·exact h1
    ·rcases Nat.lt_or_eq_of_le h1 with h2|rfl
     ·have:=h.ends.lt hm hx h2;omega
     ·rw[hm]at hx;have:=Option.some.inj hx;omega
   have hmlt:=(List.getElem?_eq_some_iff.1 hm).1;obtain⟨y,hy⟩:∃ y,E[k+1]?=some y:=⟨_,getElem?_eq_getElem (by omega)⟩;obtain⟨i,e',h1,h2,h3⟩:=later (k+1) y (by omega) hy;have h4:=hsort j i e e' h1 hS h2;have h5:y<=e.1:=by
    rcases Nat.lt_or_eq_of_le (show k+1<=m by omega) with h6|rfl
    ·exact Int.le_of_lt (h.ends.lt hy hm h6)
    ·rw[hy]at hm;rw[Option.some.inj hm];exact Int.le_refl _
   have h6:y=e.1:=by omega
   rw[CI hy,h6];refine⟨rfl,fun i' e2 hi he=>?_,fun i' e2 hi he=>hsort j i' e e2 hi hS he⟩;have:=hp.1 i' e2 hi he;omega
theorem From.zero (h:ScanOk L top S E):From S 0 0:=⟨fun i e hi=>by omega,fun i e _ he=>(h.at he).2.2.1⟩
def Mid (S:List (Int×Int)) (j:Nat) (x:Int):Prop:=(∀ i e,i<j->S[i]?=some e->e.1<=x)/\∀ i e,j<=i->S[i]?=some e->x<=e.1
theorem From.mid {j:Nat}{x:Int} (h:From S j x):Mid S j x:=⟨fun i e hi he=>Int.le_of_lt (h.1 i e hi he),h.2⟩
theorem Mid.step {j:Nat}{x:Int} (h:Mid S j x) {e:Int×Int} (he:S[j]?=some e) (hx:e.1=x):Mid S (j+1) x:=by
 refine⟨fun i e' hi h1=>?_,fun i e' hi h1=>h.2 i e' (by omega) h1⟩;rcases Nat.lt_succ_iff_lt_or_eq.1 hi with h2|rfl
 ·exact h.1 i e' h2 h1
 ·rw[he]at h1;rw[<- Option.some.inj h1];omega
theorem Mid.past (hs:S.Pairwise fun a b=>a.1<=b.1) {j:Nat}{x:Int} (h:Mid S j x) (hn:∀ e,S[j]?=some e->e.1≠x):Past S j x:=by
 refine⟨h.1,fun i e hi he=>?_⟩;have hlt:=(List.getElem?_eq_some_iff.1 he).1;obtain⟨e0,h0⟩:∃ e0,S[j]?=some e0:=⟨_,getElem?_eq_getElem (by omega)⟩;have h1:=h.2 j e0 (le_refl _) h0;have h2:=hn e0 h0;have h3:e0.1<=e.1:=by
  rcases Nat.lt_or_eq_of_le hi with h4|rfl
  ·obtain⟨l1,q1⟩:=List.getElem?_eq_some_iff.1 h0;have:=List.pairwise_iff_getElem.1 hs j i l1 hlt h4;rw[q1,(List.getElem?_eq_some_iff.1 he).2]at this;exact this
  ·rw[h0]at he;rw[Option.some.inj he];exact Int.le_refl _
 omega
end scan
end Go.Ev
namespace Go.Ev
attribute [local go_sem] evBin
section
attribute [local go_sem] A8 BI bndO bnd evEq eqCells not_false_eq_true not_true_eq_false toList_some Array.size_empty length_append map_append tySzE head?_drop mul_one As A1 Am At Au Ag
abbrev setAV (s:Spans):AV:=.sl false (s.map spanAV)
theorem AZ (L:List Spans):AV.plainL (L.map setAV)=true:=by
 induction L with
 | nil=>rfl
 | cons a l ih=>simp[AV.plainL,AV.plain,AF,ih]
theorem Lt {top:Int}{L:List Spans}{i:Nat}{s:Spans} (h:L[i]?=some s):endsR (L.take (i+1)) top=putS top (endsR (L.take i) top) s:=by
 rw[take_add_one,h];simp[endsR]
theorem NW {top:Int} (h0:0<=top):∀ {L:List Spans},(∀ s∈L,SetV s)->(∀ s∈L,s.length<=64)->(endsR L top).length<=1+128*L.length:=by
 intro L hs hl;have key:∀ i,i<=L.length->(endsR (L.take i) top).length<=1+128*i:=by
  intro i
  induction i with
  | zero=>intro _;simp[endsR]
  | succ i ih=>
    intro hi;obtain⟨s,hsi⟩:∃ s,L[i]?=some s:=⟨_,getElem?_eq_getElem (by omega)⟩;have hm:=mem_of_getElem? hsi;rw[Lt hsi];have h1:=(JK (s:=s) (Kf (L:=L.take i) h0 fun t ht=>hs t (List.mem_of_mem_take ht)) (fun p hp=>⟨((hs s hm).good p hp).1,((hs s hm).good p hp).2.1⟩)).2.1;have h2:=hl s hm;have h3:=ih (by omega);omega
 have:=key L.length (le_refl _);rw[List.take_length]at this;exact this
theorem PH {H:List MB}{i n z:Nat}{rs:Spans}{p:Int×Int}{t:Bool} (hi:getRow H i=some (2,rs.map spanAV,z)) (hz:z<=n) (hn:rs.length=n) (hr:n+1<=4000000000) :
  evAppend Pg H 23 23 (.ms i 2 n 0 n) (.sl t [.agg [I p.1,I p.2]])=some (.ms i 2 (n+1) 0 (n+1),H.set i (.row 2 ((rs++[p]).map spanAV) z)):=by
 have hs:srcElems Pg H 73 (.sl t [.agg [I p.1,I p.2]])=some [.agg [I p.1,I p.2]]:=rfl;rw[Ao (e:=73) (by kernel_rfl) (by kernel_rfl) (k:=2) (by kernel_rfl) (by_:=16) (by kernel_rfl) (ze:=.agg [I 0,I 0]) (by kernel_rfl) rfl (by omega) hs (by simp[AV.cells,AV.ok]) hi (by rw[length_map];exact hn) hz (Ag (by simp;omega) (by omega))];rw[map_append];rfl
theorem Rl {H:List MB}{i n z:Nat}{rs:List Spans}{p:Spans}{t:Bool} (hi:getRow H i=some (1,rs.map setAV,z)) (hz:z<=n) (hn:rs.length=n) (hr:n+1<=4000000000) :
  evAppend Pg H 33 33 (.ms i 1 n 0 n) (.sl t [.sl false (p.map spanAV)])=some (.ms i 1 (n+1) 0 (n+1),H.set i (.row 1 ((rs++[p]).map setAV) z)):=by
 have hs:srcElems Pg H 23 (.sl t [.sl false (p.map spanAV)])=some [.sl false (p.map spanAV)]:=rfl;rw[Ao (e:=23) (by kernel_rfl) (by kernel_rfl) (k:=1) (by kernel_rfl) (by_:=24) (by kernel_rfl) (ze:=.sl true []) (by kernel_rfl) rfl (by omega) hs (by simp[AV.cells,AV.ok]) hi (by rw[length_map];exact hn) hz (Ag (by simp;omega) (by omega))];rw[map_append];rfl
def splitR:Option (List Spans)->AV
 | none=>.tup [.sl false [],I 4]
 | some cls=>.tup [.sl false (cls.map setAV),I 0]
end
theorem Bh (a b:List (Int×Int)) (x:Int):hasSpan (a++b) x=(hasSpan a x||hasSpan b x):=by simp[hasSpan]
theorem JO {a b:List (Int×Int)} (h:a.Perm b) (x:Int):hasSpan a x=hasSpan b x:=by
 rw[Bool.eq_iff_iff];simp only[hasSpan,any_eq_true];exact⟨fun⟨p,hp,hx⟩=>⟨p,h.mem_iff.1 hp,hx⟩,fun⟨p,hp,hx⟩=>⟨p,h.mem_iff.2 hp,hx⟩⟩
def goodS (p:Int×Int):Prop:=0<=p.1/\p.1<=p.2/\p.2<=1114111
structure SetOk (s O:List (Int×Int)):Prop where
 sep:O.Pairwise fun p q=>p.2+2<=q.1
 good:∀ p∈O,goodS p
 has:∀ x,hasSpan O x=hasSpan s x
 len:O.length<=s.length
 last:∀ q,O.getLast?=some q->∃ p∈s,p.1=q.1
theorem SetOk.nil:SetOk [] []:=⟨.nil,fun _ h=>by simp at h,fun _=>rfl,le_refl _,fun _ h=>by simp at h⟩
theorem SetOk.add {s O:List (Int×Int)} (h:SetOk s O) {p:Int×Int} (hg:goodS p) (hle:∀ q∈s,q.1<=p.1):SetOk (s++[p]) (addI O p):=by
 obtain⟨hg0,hg1,hg2⟩:=hg;rcases List.eq_nil_or_concat O with rfl|⟨O',q,rfl⟩
 ·rw[Dm];have h0:=h.has;refine⟨List.pairwise_singleton _ _,fun r hr=>by rw[mem_singleton.1 hr];exact⟨hg0,hg1,hg2⟩,fun x=>?_,by simp,fun q hq=>⟨p,by simp,by simp at hq;rw[hq]⟩⟩;rw[Bh,<- h0 x];simp[hasSpan]
 ·rw[List.concat_eq_append]at *;obtain⟨p0,hp0,e0⟩:=h.last q (by simp);have hqp:=hle p0 hp0;have hgq:=h.good q (by simp);obtain⟨k1,k2,k3⟩:=hgq;have hsep:=pairwise_append.1 h.sep;rw[Dz];split
  ·rename_i hm;refine⟨pairwise_append.2 ⟨hsep.1,List.pairwise_singleton _ _,fun a ha b hb=>?_⟩,fun r hr=>?_,fun x=>?_,?_,fun r hr=>⟨p0,by simp[hp0],by simp at hr;rw[<- hr];exact e0⟩⟩
   ·rw[mem_singleton.1 hb];exact hsep.2.2 a ha q (by simp)
   ·rcases mem_append.1 hr with hr|hr
    ·exact h.good r (by simp[hr])
    ·rw[mem_singleton.1 hr];exact⟨k1,by show q.1<=max q.2 p.2;omega,by show max q.2 p.2<=_;omega⟩
   ·have:=h.has x;rw[Bh]at this |-;rw[Bh,<- this,Bool.or_assoc];congr 1;rw[Bool.eq_iff_iff];simp[hasSpan];omega
   ·have:=h.len;simp at this |-;omega
  ·rename_i hm;refine⟨pairwise_append.2 ⟨h.sep,List.pairwise_singleton _ _,fun a ha b hb=>?_⟩,fun r hr=>?_,fun x=>?_,?_,fun r hr=>⟨p,by simp,by simp at hr;rw[hr]⟩⟩
   ·rw[mem_singleton.1 hb];rcases mem_append.1 ha with ha|ha
    ·have:=hsep.2.2 a ha q (by simp);omega
    ·rw[mem_singleton.1 ha];omega
   ·rcases mem_append.1 hr with hr|hr
    ·exact h.good r hr
    ·rw[mem_singleton.1 hr];exact⟨hg0,hg1,hg2⟩
   ·rw[Bh,h.has x,Bh]
   ·have:=h.len;simp at this |-;omega
def foldI (s:List (Int×Int)):List (Int×Int):=s.foldl addI []
theorem Gy (s:List (Int×Int)) (p:Int×Int):foldI (s++[p])=addI (foldI s) p:=by simp[foldI]
theorem Ll {s:List (Int×Int)}{i:Nat}{p:Int×Int} (h:s[i]?=some p):foldI (s.take (i+1))=addI (foldI (s.take i)) p:=by
 rw[take_add_one,h];exact Gy _ _
theorem KX {s:List (Int×Int)} (hs:s.Pairwise fun p q=>p.1<=q.1) (hg:∀ p∈s,goodS p):∀ i,i<=s.length->SetOk (s.take i) (foldI (s.take i)):=by
 intro i
 induction i with
 | zero=>intro _;exact SetOk.nil
 | succ i ih=>
   intro hi;obtain⟨p,hp⟩:∃ p,s[i]?=some p:=⟨_,getElem?_eq_getElem (by omega)⟩;have hpm:=mem_of_getElem? hp;have:=(ih (by omega)).add (p:=p) (hg p hpm) (fun q hq=>by
    obtain⟨k,hk,e⟩:=List.getElem_of_mem hq;simp at hk e;have h1:=List.pairwise_iff_getElem.1 hs k i (by omega) (by omega) (by omega);rw[(List.getElem?_eq_some_iff.1 hp).2,e]at h1;exact h1)
   rw[take_add_one,hp]
   simpa [Gy] using this
def normL (s:List (Int×Int)):List (Int×Int):=foldI (sortE s)
theorem Gw {s:List (Int×Int)} (hg:∀ p∈s,goodS p):∀ x∈s,Small x:=fun x hx=>by
 have:=hg x hx;unfold goodS at this;unfold Small;omega
theorem CZ {s:List (Int×Int)} (hg:∀ p∈s,goodS p):SetOk (sortE s) (normL s)/\(∀ x,hasSpan (normL s) x=hasSpan s x)/\(normL s).length<=s.length:=by
 have hsm:=Gw hg;have hp:=DE hsm;have h:=KX (DD s) (fun p hp2=>hg p (hp.mem_iff.1 hp2)) (sortE s).length (le_refl _);rw[List.take_length]at h;refine⟨h,fun x=>?_,?_⟩
 ·rw[normL,h.has x];exact JO hp x
 ·have:=h.len;rw[hp.length_eq]at this;exact this
theorem J8 {l:List (Int×Int)} (hs:l.Pairwise fun p q=>p.2+2<=q.1) (hg:∀ p∈l,goodS p) (hl:l.length<=64):refSpans l=0:=by
 have hb:∀ i,i<l.length->badAt l i=false:=fun i hi=>by
  have e:=getElem?_eq_getElem hi;have:=hg _ (List.getElem_mem hi);unfold goodS at this;unfold badAt;rw[e];simp only[Bool.or_eq_false_iff,Bool.not_eq_false',decide_eq_true_eq];refine⟨⟨this.1,this.2.1,this.2.2⟩,?_⟩;cases i with
  | zero=>rfl
  | succ k=>
    have e2:=getElem?_eq_getElem (show k<l.length by omega);simp only[e2];have:=List.pairwise_iff_getElem.1 hs k (k+1) (by omega) hi (by omega);simp;omega
 unfold refSpans;rw[if_neg,if_neg (by omega)];simp only[any_eq_true,mem_range,not_exists,not_and,Bool.not_eq_true];exact hb
end Go.Ev
namespace Go.Ev
theorem De {s:List (Int×Int)}{x:Int}:hasSpan s x=true↔∃ p∈s,p.1<=x/\x<=p.2:=by
 unfold hasSpan;rw[any_eq_true];constructor
 ·rintro⟨p,h1,h2⟩;exact⟨p,h1,by simpa using h2⟩
 ·rintro⟨p,h1,h2⟩;exact⟨p,h1,by simpa using h2⟩
structure NormS (s:List (Int×Int)):Prop where
 gap:s.Pairwise fun p q=>p.2+1<q.1
 val:∀ p∈s,p.1<=p.2
theorem NormS.tail {p:Int×Int}{s:List (Int×Int)} (h:NormS (p::s)):NormS s:=⟨(pairwise_cons.1 h.gap).2,fun q hq=>h.val q (by simp[hq])⟩
theorem Aq {p:Int×Int}{s:List (Int×Int)}{x:Int}:hasSpan (p::s) x=true↔(p.1<=x/\x<=p.2)∨hasSpan s x=true:=by
 rw[De,De];constructor
 ·rintro⟨q,hq,h⟩;rcases mem_cons.1 hq with e|e
  ·subst e;exact .inl h
  ·exact .inr ⟨q,e,h⟩
 ·rintro(h|⟨q,hq,h⟩)
  ·exact⟨p,by simp,h⟩
  ·exact⟨q,by simp[hq],h⟩
theorem NormS.above {p:Int×Int}{s:List (Int×Int)} (h:NormS (p::s)) {x:Int} (hx:hasSpan s x=true):p.2+1<x:=by
 obtain⟨q,hq,h1,h2⟩:=De.1 hx;have:=(pairwise_cons.1 h.gap).1 q hq;omega
theorem IJ:∀ {s t:List (Int×Int)},NormS s->NormS t->(∀ x,hasSpan s x=true↔hasSpan t x=true)->s=t
 | [],[],_,_,_=>rfl
 | [],q::t,_,ht,h=>by
   have:=(h q.1).2 (Aq.2 (.inl ⟨Int.le_refl _,ht.val q (by simp)⟩));cases this
 | p::s,[],hs,_,h=>by
   have:=(h p.1).1 (Aq.2 (.inl ⟨Int.le_refl _,hs.val p (by simp)⟩));cases this
 | p::s,q::t,hs,ht,h=>by
   have vp:=hs.val p (by simp);have vq:=ht.val q (by simp);have lo:∀ {a b:Int×Int}{u v:List (Int×Int)},NormS (a::u)->NormS (b::v)->(hasSpan (b::v) a.1=true)->b.1<=a.1:=by
    intro a b u v h1 h2 h3;have:=h2.val b (by simp);rcases Aq.1 h3 with h4|h4
    ·exact h4.1
    ·have:=h2.above h4;omega
   have e1:p.1=q.1:=by
    have a1:=lo hs ht ((h p.1).1 (Aq.2 (.inl ⟨Int.le_refl _,vp⟩)));have a2:=lo ht hs ((h q.1).2 (Aq.2 (.inl ⟨Int.le_refl _,vq⟩)));omega
   have e2:p.2=q.2:=by
    rcases Int.lt_trichotomy p.2 q.2 with g|g|g
    ·exfalso;have:=(h (p.2+1)).2 (Aq.2 (.inl ⟨by omega,by omega⟩));rcases Aq.1 this with h4|h4
     ·omega
     ·have:=hs.above h4;omega
    ·exact g
    ·exfalso;have:=(h (q.2+1)).1 (Aq.2 (.inl ⟨by omega,by omega⟩));rcases Aq.1 this with h4|h4
     ·omega
     ·have:=ht.above h4;omega
   have e3:s=t:=IJ hs.tail ht.tail fun x=>by
    constructor
    ·intro hx;have g:=hs.above hx;rcases Aq.1 ((h x).1 (Aq.2 (.inr hx))) with h4|h4
     ·omega
     ·exact h4
    ·intro hx;have g:=ht.above hx;rcases Aq.1 ((h x).2 (Aq.2 (.inr hx))) with h4|h4
     ·omega
     ·exact h4
   rw[e3,show p=q from Prod.ext e1 e2]
theorem IK {s:Spans} (h:s.Pairwise fun p q=>p.2+2<=q.1) (hg:∀ p∈s,p.1<=p.2):NormS s:=⟨h.imp fun h=>by omega,hg⟩
theorem AX {α:Type}{s:List α}{k:Nat}{p:α} (h:s[k]?=some p):s.take (k+1)=s.take k++[p]:=by
 rw[take_add_one,h];rfl
section
variable {L:List Spans}{E:List Int}{top:Int}
end
theorem Bx (l:List Bool):AV.plainL (l.map AV.bool)=true:=by
 induction l with
 | nil=>rfl
 | cons a l ih=>simp[AV.plainL,AV.plain,ih]
theorem Sl {H:List MB}{i n z:Nat}{rs:List Bool}{x:Bool}{t:Bool} (hi:getRow H i=some (1,rs.map AV.bool,z)) (hz:z<=n) (hn:rs.length=n) (hr:n+1<=4000000000) :
  evAppend Pg H 35 35 (.ms i 1 n 0 n) (.sl t [.bool x])=some (.ms i 1 (n+1) 0 (n+1),H.set i (.row 1 ((rs++[x]).map AV.bool) z)):=by
 have hs:srcElems Pg H 4 (.sl t [.bool x])=some [.bool x]:=rfl;rw[Ao (e:=4) (by kernel_rfl) (by kernel_rfl) (k:=1) (by kernel_rfl) (by_:=1) (by kernel_rfl) (ze:=.bool false) (by kernel_rfl) rfl (by omega) hs (by simp[AV.cells,AV.ok]) hi (by rw[length_map];exact hn) hz (Ag (by simp;omega) (by omega))];rw[map_append];rfl
end Go.Ev
namespace Go.Ev
abbrev emptyR:Re:=.mk 0 [] [] 0 0 0 0 false
abbrev setR (s:List (Int×Int)):Re:=.mk 1 s [] 0 0 0 0 false
abbrev nothR:Re:=setR []
def isNoth (r:Re):Bool:=decide (r.op=1)&&decide (r.set.length=0)
def joinR (op:Int) (l:List Re) (z:Re):Re:=match l with
 | []=>z
 | [x]=>x
 | x::y::l=>.mk op [] (x::y::l) 0 0 0 0 false
def flatR (op:Int) (l:List Re):List Re:=l.flatMap fun k=>if k.op=op then k.sub else [k]
theorem Ln {op:Int}{l:List Re}{k:Re}:flatR op (l++[k])=flatR op l++(if k.op=op then k.sub else [k]):=by
 simp[flatR]
theorem Lm {op:Int}{l:List Re}{i:Nat}{k:Re} (h:l[i]?=some k):flatR op (l.take (i+1))=flatR op (l.take i)++(if k.op=op then k.sub else [k]):=by
 rw[AX h,Ln]
theorem Re.wtL_app:∀(a b:List Re),Re.wtL (a++b)=Re.wtL a+Re.wtL b
 | [],b=>by simp[Re.wtL]
 | k::ks,b=>by simp[Re.wtL,Re.wtL_app ks b];omega
theorem Re.wt_sub (r:Re):1+r.set.length+Re.wtL r.sub=r.wt:=by cases r;simp[Re.wt,Re.set,Re.sub]
theorem C3 (op:Int):∀ l:List Re,Re.wtL (flatR op l)<=Re.wtL l
 | []=>le_refl _
 | k::l=>by
   have ih:=C3 op l;have hs:=Re.wt_sub k;have e:flatR op (k::l)=(if k.op=op then k.sub else [k])++flatR op l:=by simp[flatR]
   rw[e,Re.wtL_app];split<;>simp only[Re.wtL]<;>omega
def catR (l:List Re):Re:=if(l.filter fun r=>!decide (r.op=0)).any isNoth then nothR else joinR 2 (l.filter fun r=>!decide (r.op=0)) emptyR
def spansOf (l:List Re):List (Int×Int):=l.flatMap fun k=>if k.op=1 then k.set else []
theorem I9 {l:List Re}{i:Nat}{k:Re} (h:l[i]?=some k):spansOf (l.take (i+1))=spansOf (l.take i)++(if k.op=1 then k.set else []):=by
 rw[AX h];simp[spansOf]
def othersOf (l:List Re):List Re:=l.filter fun k=>!decide (k.op=1)
theorem He {l:List Re}{i:Nat}{k:Re} (h:l[i]?=some k):othersOf (l.take (i+1))=othersOf (l.take i)++(if k.op=1 then [] else [k]):=by
 rw[AX h];by_cases hk:k.op=1<;>simp[othersOf,hk]
def altBad (l:List Re):Bool:=decide (64<(normL (spansOf l)).length)
def altL (l:List Re):List Re:=othersOf l++(if altBad l=true∨normL (spansOf l)=[] then [] else [setR (normL (spansOf l))])
def altR (l:List Re):Re:=joinR 3 (putAll [] (altL l)) nothR
def repR (mn mx:Int) (k:Re):Re:=match k with
 | .mk op set kids kmn kmx md n neg=>
   if op=0∨(isNoth k=true/\mn=0) then emptyR else if isNoth k=true∨(op=4/\kmn=0/\kmx = -1)∨(mn=1/\mx=1) then k else .mk 4 [] [k] mn mx 0 0 false
def formN (op:Int) (set:List (Int×Int)) (ks:List Re) (mn mx:Int):Re:=
 if op=1 then setR set else if op=2 then catR (flatR 2 ks) else if op=3 then altR (flatR 3 ks) else if op=4 then repR mn mx (ks.headD emptyR) else if op=5 then ks.headD emptyR else emptyR
mutual
def nf:Re->Re
 | .mk op set kids mn mx md n neg=>formN op set (nfL kids) mn mx
def nfL:List Re->List Re
 | []=>[]
 | k::ks=>nf k::nfL ks
end
theorem BF:∀ l:List Re,nfL l=l.map nf
 | []=>rfl
 | k::l=>by rw[nfL,BF l];rfl
mutual
def badR:Re->Bool
 | .mk op set kids mn mx md n neg=>badRL kids||(decide (op=3)&&altBad (flatR 3 (nfL kids)))
def badRL:List Re->Bool
 | []=>false
 | k::ks=>badR k||badRL ks
end
theorem CD:∀ l:List Re,badRL l=l.any badR
 | []=>rfl
 | k::l=>by rw[badRL,CD l];rfl
theorem Cs:∀(n:Nat) (l:List Re),l.length<=n->l.Pairwise (fun a b=>cmpR a b<=0)->(compactR l).Pairwise ltR/\(∀ x,x∈compactR l↔x∈l)
 | _,[],_,_=>by simp[compactR]
 | _,[x],_,_=>by simp[compactR]
 | n+1,x::y::l,hl,h=>by
   obtain⟨h1,h2⟩:=pairwise_cons.1 h;obtain⟨h3,h4⟩:=pairwise_cons.1 h2;rw[compactR];split
   ·rename_i g;obtain rfl:=BW g;obtain⟨a1,a2⟩:=Cs n (x::l) (by simp at hl |-;omega) (pairwise_cons.2 ⟨h3,h4⟩);refine⟨a1,fun z=>?_⟩;rw[a2 z];simp
   ·rename_i g;obtain⟨a1,a2⟩:=Cs n (y::l) (by simp at hl |-;omega) h2;refine⟨pairwise_cons.2 ⟨fun z hz=>?_,a1⟩,fun z=>?_⟩
    ·have hxy:=h1 y (by simp);have lxy:ltR x y:=by
      unfold ltR;rcases CO x y with e|e|e
      ·exact e
      ·exact absurd e g
      ·omega
     rcases mem_cons.1 ((a2 z).1 hz) with rfl|e
     ·exact lxy
     ·have hyz:=h3 z e;rcases CO y z with e2|e2|e2
      ·exact B7 lxy e2
      ·rw[<- BW e2];exact lxy
      ·omega
    ·rw[mem_cons,a2 z,mem_cons (a:=z) (b:=x)]
theorem Je (l:List Re):compactR (sortR l)=putAll [] l:=by
 obtain⟨h1,h2⟩:=Cs _ (sortR l) (le_refl _) (EU l);refine Dp h1 (Bs (by simp)) fun x=>?_;rw[h2 x,BJ,(DC l).mem_iff];simp
end Go.Ev
