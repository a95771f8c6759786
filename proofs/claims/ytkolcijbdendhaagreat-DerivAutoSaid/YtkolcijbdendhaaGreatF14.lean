/- What functions of the program compute; no further conditions. -/
import Derived.Test.YtkolcijbdendhaaGreatF13
set_option linter.unusedVariables false
set_option linter.unusedSimpArgs false
open List (any_eq_true getElem?_eq_getElem getElem?_eq_none getElem?_of_mem length_append length_cons map_append map_take mem_append mem_cons mem_filter mem_of_getElem? mem_range mem_singleton)
open Nat (le_refl lt_or_ge)
open Go.Proofs Go.RowKit Go.IntWalk
set_option maxHeartbeats 8000000
set_option maxRecDepth 100000
namespace Go.Ev
attribute [local go_sem] evAppend evBin AV.cells
section
theorem f136 (a b:Int) (H:List MB):call Pg pol1 98 [.agg [.int .i64 a,.int .i64 b]] H=some (.bool (decide (0<=a/\a<=b/\b<=1114111)),H):=by
 refine AR Tryz.func98 rfl rfl rfl rfl rfl rfl (fun _=>rfl) (by simp[AV.plain,AV.plainL,AG,AF,AL,AM]) (by simp[AV.plain,AV.plainL,AG,AF,AL,AM]) ?_ H;simp only[Tryz.f98,dd98,go_sem,simprocAttr,mu98];repeat' (first|intro _|apply And.intro|refine fzEq rfl ?_)
 all_goals (congr 1;simp only[decide_eq_decide,false_eq_decide_iff];omega)
def badAt (l:List (Int×Int)) (i:Nat):Bool:=
 match l[i]? with
 | some p=>!decide (0<=p.1/\p.1<=p.2/\p.2<=1114111)||(match i with
   | 0=>false
   | k+1=>match l[k]? with
     | some q=>decide (p.1-q.2<2)
     | none=>false)
 | none=>false
def refSpans (l:List (Int×Int)):Int:=if(List.range l.length).any (badAt l) then 1 else if 64<l.length then 4 else 0
theorem Ca {l:List (Int×Int)}{i:Nat} (hi:i<l.length) (h:badAt l i=true):refSpans l=1:=by
 unfold refSpans;rw[if_pos];exact any_eq_true.2 ⟨i,mem_range.2 hi,h⟩
theorem ED {l:List (Int×Int)} (h:∀ k,k<l.length->badAt l k=false):refSpans l=if 64<l.length then 4 else 0:=by
 unfold refSpans;rw[if_neg];intro h2;obtain⟨k,h3,h4⟩:=any_eq_true.1 h2;rw[h k (mem_range.1 h3)]at h4;cases h4
theorem f119 (l:List (Int×Int)) (hl:l.length<=1000000) (H:List MB):call Pg pol1 64 [.sl false (l.map spanAV)] H=some (I (refSpans l),H):=by
 refine AR Tryz.func64 rfl rfl rfl rfl rfl rfl (fun _=>rfl) (by simp[AV.plain,AV.plainL,AG,AF,AL,AM]) (by simp[AV.plain,AV.plainL,AG,AF,AL,AM]) ?_ H;simp only[Tryz.f64,dd64,go_sem,simprocAttr,mu64];refine AY (M:=(mskOf (pol1.mask 64) (pol1.gc 64) (pol1.acts 64) 0 2)) rfl l.length (fun i=>(⟨40,[(3,I i),(0,.sl false (l.map spanAV))],[]⟩:St)) (fun i=>∀ k,k<i->badAt l k=false) ?_ ?_ (fun k h=>by omega) _ rfl
 ·intro i hlt hg;obtain⟨p,hp⟩:∃ p,l[i]?=some p:=⟨_,getElem?_eq_getElem hlt⟩;have ext:badAt l i=false->∀ k,k<i+1->badAt l k=false:=fun h k hk=>by
   rcases lt_or_ge k i with h1|h1
   ·exact hg k h1
   ·obtain rfl:k=i:=by omega
    exact h
  by_cases hgd:0<=p.1/\p.1<=p.2/\p.2<=1114111
  ·rcases i with _|i
   ·simp +contextual (disch:=omega) only[Tryz.f64,dd64,go_sem,simprocAttr,mu64,↓AE,↓AC,↓AB,↓AA,hp,spanAV,hgd,f136];refine⟨by unfold dOk;kernel_rfl,ext ?_,rfl⟩;simp[badAt,hp,hgd]
   ·obtain⟨q,hq⟩:∃ q,l[i]?=some q:=⟨_,getElem?_eq_getElem (by omega)⟩;have hbq:=hg i (by omega);simp only[badAt,hq,Bool.or_eq_false_iff,Bool.not_eq_false',decide_eq_true_eq]at hbq
    replace hbq:=hbq.1
    have hb:badAt l (i+1)=decide (p.1-q.2<2):=by simp[badAt,hp,hq,hgd]
    simp +contextual (disch:=omega) only[Tryz.f64,dd64,go_sem,simprocAttr,mu64,↓AE,↓AC,↓AB,↓AA,hp,hq,spanAV,hgd,f136];refine⟨by unfold dOk;kernel_rfl,?_⟩;refine⟨fun h=>fzEq rfl ?_,fun h=>⟨ext ?_,rfl⟩⟩
    ·rw[Ca hlt];simp[hb];omega
    ·simp[hb];omega
  ·simp +contextual (disch:=omega) only[Tryz.f64,dd64,go_sem,simprocAttr,mu64,↓AE,↓AC,↓AB,↓AA,hp,spanAV,hgd,f136];refine⟨by unfold dOk;kernel_rfl,fzEq rfl ?_⟩;rw[Ca hlt (by simp only[badAt,hp];simp only[hgd,decide_false,Bool.not_false,Bool.true_or])]
 ·intro hg;rw[ED hg];simp +contextual (disch:=omega) only[Tryz.f64,dd64,go_sem,simprocAttr,mu64,↓AE,↓AC,↓AB,↓AA];refine⟨fun h=>fzEq rfl ?_,fun h=>fzEq rfl ?_⟩
  ·rw[if_pos (by omega)]
  ·rw[if_neg (by omega)]
end
section
theorem f91 (a b:Int) (H:List MB):call Pg pol1 75 [.agg [.int .i64 a,.int .i64 b]] H=some (.bool (decide (0<=a/\a<=b/\b<=1114111)),H):=by
 refine AR Tryz.func75 rfl rfl rfl rfl rfl rfl (fun _=>rfl) (by simp[AV.plain,AV.plainL,AG,AF,AL,AM]) (by simp[AV.plain,AV.plainL,AG,AF,AL,AM]) ?_ H;simp only[Tryz.f75,dd75,go_sem,simprocAttr,mu75];repeat' (first|intro _|apply And.intro|refine fzEq rfl ?_)
 all_goals (congr 1;simp only[decide_eq_decide,false_eq_decide_iff];omega)
theorem f121 (l:List (Int×Int)) (hl:l.length<=1000000) (H:List MB):call Pg pol1 49 [.sl false (l.map spanAV)] H=some (I (refSpans l),H):=by
 refine AR Tryz.func49 rfl rfl rfl rfl rfl rfl (fun _=>rfl) (by simp[AV.plain,AV.plainL,AG,AF,AL,AM]) (by simp[AV.plain,AV.plainL,AG,AF,AL,AM]) ?_ H;simp only[Tryz.f49,dd49,go_sem,simprocAttr,mu49];refine AY (M:=(mskOf (pol1.mask 49) (pol1.gc 49) (pol1.acts 49) 0 2)) rfl l.length (fun i=>(⟨35,[(7,I i),(6,I l.length),(5,.sl false (l.map spanAV)),(0,.sl false (l.map spanAV))],[]⟩:St)) (fun i=>∀ k,k<i->badAt l k=false) ?_ ?_ (fun k h=>by omega) _ (by first|rfl|(refine AN rfl (by rfl) (by rfl) (by rfl) ?_ ?_<;>simp[AV.underL,AV.under,MB.under,AD,AI,AG,AF,AL,AM,-map_take]))
 ·intro i hlt hg;obtain⟨p,hp⟩:∃ p,l[i]?=some p:=⟨_,getElem?_eq_getElem hlt⟩;have ext:badAt l i=false->∀ k,k<i+1->badAt l k=false:=fun h k hk=>by
   rcases lt_or_ge k i with h1|h1
   ·exact hg k h1
   ·obtain rfl:k=i:=by omega
    exact h
  by_cases hgd:0<=p.1/\p.1<=p.2/\p.2<=1114111
  ·rcases i with _|i
   ·simp +contextual (disch:=omega) only[Tryz.f49,dd49,go_sem,simprocAttr,mu49,↓AE,↓AC,↓AB,↓AA,hp,spanAV,hgd,f91];refine⟨by unfold dOk;kernel_rfl,ext ?_,(by first|rfl|(refine AN rfl (by rfl) (by rfl) (by rfl) ?_ ?_<;>simp[AV.underL,AV.under,MB.under,AD,AI,AG,AF,AL,AM,-map_take]))⟩;simp[badAt,hp,hgd]
   ·obtain⟨q,hq⟩:∃ q,l[i]?=some q:=⟨_,getElem?_eq_getElem (by omega)⟩;have hbq:=hg i (by omega);simp only[badAt,hq,Bool.or_eq_false_iff,Bool.not_eq_false',decide_eq_true_eq]at hbq
    replace hbq:=hbq.1
    have hb:badAt l (i+1)=decide (p.1-q.2<2):=by simp[badAt,hp,hq,hgd]
    simp +contextual (disch:=omega) only[Tryz.f49,dd49,go_sem,simprocAttr,mu49,↓AE,↓AC,↓AB,↓AA,hp,hq,spanAV,hgd,f91];refine⟨by unfold dOk;kernel_rfl,fun h=>fzEq rfl ?_,fun h=>⟨ext ?_,(by first|rfl|(refine AN rfl (by rfl) (by rfl) (by rfl) ?_ ?_<;>simp[AV.underL,AV.under,MB.under,AD,AI,AG,AF,AL,AM,-map_take]))⟩⟩
    ·rw[Ca hlt];simp[hb];omega
    ·simp[hb];omega
  ·simp +contextual (disch:=omega) only[Tryz.f49,dd49,go_sem,simprocAttr,mu49,↓AE,↓AC,↓AB,↓AA,hp,spanAV,hgd,f91];refine⟨by unfold dOk;kernel_rfl,fzEq rfl ?_⟩;rw[Ca hlt (by simp only[badAt,hp];simp only[hgd,decide_false,Bool.not_false,Bool.true_or])]
 ·intro hg;rw[ED hg];simp +contextual (disch:=omega) only[Tryz.f49,dd49,go_sem,simprocAttr,mu49,↓AE,↓AC,↓AB,↓AA];refine⟨fun h=>fzEq rfl ?_,fun h=>fzEq rfl ?_⟩
  ·rw[if_pos (by omega)]
  ·rw[if_neg (by omega)]
end
section
attribute [local go_sem] Ax A8 bndO bnd evEq eqCells not_false_eq_true not_true_eq_false toList_some Array.size_empty length_append map_append
def hasSpan (l:List (Int×Int)) (x:Int):Bool:=l.any fun p=>decide (p.1<=x)&&decide (x<=p.2)
theorem G8 {l:List (Int×Int)}{x:Int}{i:Nat}{p:Int×Int} (h:l[i]?=some p) (hp:p.1<=x/\x<=p.2):hasSpan l x=true:=by
 unfold hasSpan;exact any_eq_true.2 ⟨p,mem_of_getElem? h,by simp[hp]⟩
theorem G7 {l:List (Int×Int)}{x:Int} (h:∀ k p,k<l.length->l[k]?=some p->¬ (p.1<=x/\x<=p.2)):hasSpan l x=false:=by
 unfold hasSpan;rw[List.any_eq_false];intro p hp;obtain⟨k,hk,e⟩:=List.getElem_of_mem hp;have:=h k p hk (by rw[<- e];exact getElem?_eq_getElem hk)
 simpa using this
theorem f43 (l:List (Int×Int)) (x:Int) (hl:l.length<=1000000) (H:List MB):call Pg pol1 89 [.sl false (l.map spanAV),I x] H=some (.bool (hasSpan l x),H):=by
 refine AR Tryz.func89 rfl rfl rfl rfl rfl rfl (fun _=>rfl) (by simp[AV.plain,AV.plainL,AG,AF,AL,AM]) (by simp[AV.plain,AV.plainL,AG,AF,AL,AM]) ?_ H;simp +contextual (disch:=omega) only[Tryz.f89,dd89,go_sem,simprocAttr,mu89,↓AE,↓AC,↓AB,↓AA];refine AY (M:=(mskOf (pol1.mask 89) (pol1.gc 89) (pol1.acts 89) 0 2)) rfl l.length (fun i=>(⟨24,[(9,I i),(8,I l.length),(7,.sl false (l.map spanAV)),(1,I x)],[]⟩:St)) (fun i=>∀ k p,k<i->l[k]?=some p->¬ (p.1<=x/\x<=p.2)) ?_ ?_ (fun k p h=>by omega) _ (by first|rfl|(refine AN rfl (by rfl) (by rfl) (by rfl) ?_ ?_<;>simp[AV.underL,AV.under,MB.under,AD,AI,AG,AF,AL,AM,-map_take]))
 ·intro i hi hg;obtain⟨p,hp⟩:∃ p,l[i]?=some p:=⟨_,getElem?_eq_getElem hi⟩;by_cases hin:p.1<=x/\x<=p.2
  ·rw[G8 hp hin];simp +contextual (disch:=omega) only[Tryz.f89,dd89,go_sem,simprocAttr,mu89,↓AE,↓AC,↓AB,↓AA,hp,spanAV];exact fzEq rfl rfl
  ·have ext:∀ k q,k<i+1->l[k]?=some q->¬ (q.1<=x/\x<=q.2):=fun k q hk hq=>by
    rcases lt_or_ge k i with h|h
    ·exact hg k q h hq
    ·obtain rfl:k=i:=by omega
     rw[hp]at hq;obtain rfl:=Option.some.inj hq;exact hin
   by_cases h1:p.1<=x
   ·simp +contextual (disch:=omega) only[Tryz.f89,dd89,go_sem,simprocAttr,mu89,↓AE,↓AC,↓AB,↓AA,hp,spanAV];exact⟨ext,(by first|rfl|(refine AN rfl (by rfl) (by rfl) (by rfl) ?_ ?_<;>simp[AV.underL,AV.under,MB.under,AD,AI,AG,AF,AL,AM,-map_take]))⟩
   ·simp +contextual (disch:=omega) only[Tryz.f89,dd89,go_sem,simprocAttr,mu89,↓AE,↓AC,↓AB,↓AA,hp,spanAV];exact⟨ext,(by first|rfl|(refine AN rfl (by rfl) (by rfl) (by rfl) ?_ ?_<;>simp[AV.underL,AV.under,MB.under,AD,AI,AG,AF,AL,AM,-map_take]))⟩
 ·intro hg;rw[G7 hg];simp +contextual (disch:=omega) only[Tryz.f89,dd89,go_sem,simprocAttr,mu89,↓AE,↓AC,↓AB,↓AA];exact fzEq rfl rfl
end
abbrev Spans:=List (Int×Int)
def addI (O:Spans) (p:Int×Int):Spans:=
 match O.getLast? with
 | some q=>if p.1<=q.2+1 then O.dropLast++[(q.1,max q.2 p.2)] else O++[p]
 | none=>[p]
theorem DJ (p:Int×Int):addI [] p=[p]:=rfl
theorem CP (O:Spans) (q p:Int×Int):addI (O++[q]) p=if p.1<=q.2+1 then O++[(q.1,max q.2 p.2)] else O++[q]++[p]:=by
 simp[addI]
theorem Ht (O:Spans) (p:Int×Int):O.length<=(addI O p).length/\(addI O p).length<=O.length+1/\0<(addI O p).length:=by
 rcases List.eq_nil_or_concat O with rfl|⟨O',q,rfl⟩
 ·simp[DJ]
 ·rw[List.concat_eq_append,CP];split<;>simp
structure SetV (s:Spans):Prop where
 sep:s.Pairwise fun p q=>p.2+2<=q.1
 good:∀ p∈s,0<=p.1/\p.1<=p.2/\p.2<=1114111
def colA (L:List Spans) (x:Int):List Bool:=L.map fun s=>hasSpan s x
def lastP (E:List Int) (top:Int) (k:Nat):Int:=(E[k]?).getD (top+1)
def pieceA (E:List Int) (top:Int) (k:Nat):Int×Int:=(lastP E top k,lastP E top (k+1)-1)
def colK (L:List Spans) (E:List Int) (top:Int) (k:Nat):List Bool:=colA L (lastP E top k)
section classes
variable (col:Nat->List Bool) (pc:Nat->Int×Int)
def firsts:Nat->List (List Bool)
 | 0=>[]
 | n+1=>if col n∈firsts n then firsts n else firsts n++[col n]
def clsOf (c:List Bool):Nat->Spans
 | 0=>[]
 | n+1=>if col n=c then addI (clsOf c n) (pc n) else clsOf c n
def classesA (n:Nat):List Spans:=(firsts col n).map fun c=>clsOf col pc c n
def tooBig (n:Nat):Prop:=1024<(firsts col n).length∨∃ c∈firsts col n,64<(clsOf col pc c n).length
variable {col pc}
theorem Bm {c:List Bool}:∀ {n:Nat},c∈firsts col n↔∃ k,k<n/\col k=c
 | 0=>by simp[firsts]
 | n+1=>by
   have ih:=Bm (c:=c) (n:=n);have e:(∃ k,k<n+1/\col k=c)↔(c∈firsts col n∨col n=c):=by
    rw[ih];constructor
    ·rintro⟨k,h1,h2⟩;rcases Nat.lt_succ_iff_lt_or_eq.1 h1 with h3|rfl
     ·exact .inl ⟨k,h3,h2⟩
     ·exact .inr h2
    ·rintro(⟨k,h1,h2⟩|h)
     ·exact⟨k,by omega,h2⟩
     ·exact⟨n,by omega,h⟩
   rw[e];simp only[firsts];split
   ·rename_i h;exact⟨.inl,fun h1=>h1.elim id fun h2=>h2 ▸ h⟩
   ·rw[mem_append,mem_singleton];exact⟨fun h1=>h1.imp id Eq.symm,fun h1=>h1.imp id Eq.symm⟩
theorem Cd:∀ n,(firsts col n).Nodup
 | 0=>.nil
 | n+1=>by
   simp only[firsts];split
   ·exact Cd n
   ·rename_i h;exact List.nodup_append.2 ⟨Cd n,by simp,fun x hx y hy e=>h (by rw[<- mem_singleton.1 hy,<- e];exact hx)⟩
theorem HG (n:Nat):∃ m,firsts col (n+1)=firsts col n++m:=by
 simp only[firsts];split
 ·exact⟨[],by simp⟩
 ·exact⟨_,rfl⟩
theorem Nb {n m:Nat} (h:n<=m):∃ k,firsts col m=firsts col n++k:=by
 induction h with
 | refl=>exact⟨[],by simp⟩
 | step h ih=>
   obtain⟨k,hk⟩:=ih;obtain⟨k2,hk2⟩:=HG (col:=col) _;exact⟨k++k2,by rw[hk2,hk,List.append_assoc]⟩
theorem Lv (n:Nat):(firsts col n).length<=n:=by
 induction n with
 | zero=>simp[firsts]
 | succ n ih=>simp only[firsts];split<;>(try simp only[length_append,List.length_singleton])<;>omega
theorem J2 (c:List Bool) {n m:Nat} (h:n<=m):(clsOf col pc c n).length<=(clsOf col pc c m).length:=by
 induction h with
 | refl=>exact le_refl _
 | @step m h ih=>
   simp only[clsOf];split
   ·have:=(Ht (clsOf col pc c m) (pc m)).1;omega
   ·exact ih
theorem JF {c:List Bool}{n:Nat} (h:c ∉ firsts col n):clsOf col pc c n=[]:=by
 induction n with
 | zero=>rfl
 | succ n ih=>
   have h2:c ∉ firsts col n:=fun hm=>h (by
    obtain⟨m,e⟩:=HG (col:=col) n;rw[e];exact List.mem_append_left _ hm)
   have h3:col n≠c:=fun e=>h (Bm.2 ⟨n,by omega,e⟩);simp only[clsOf,if_neg h3];exact ih h2
theorem FY {c:List Bool}{n:Nat} (h:c∈firsts col n):0<(clsOf col pc c n).length:=by
 induction n with
 | zero=>simp[firsts]at h
 | succ n ih=>
   simp only[clsOf];split
   ·exact(Ht _ _).2.2
   ·rename_i h3;refine ih ?_;obtain⟨k,h1,h2⟩:=Bm.1 h;rcases Nat.lt_succ_iff_lt_or_eq.1 h1 with h4|rfl
    ·exact Bm.2 ⟨k,h4,h2⟩
    ·exact absurd h2 h3
theorem KD {n m:Nat} (h:n<=m) (hb:tooBig col pc n):tooBig col pc m:=by
 obtain⟨k,hk⟩:=Nb (col:=col) h;rcases hb with hb|⟨c,hc,hl⟩
 ·left;rw[hk,length_append];omega
 ·right;exact⟨c,by rw[hk];exact List.mem_append_left _ hc,Nat.lt_of_lt_of_le hl (J2 c h)⟩
theorem BQ (n:Nat):(classesA col pc n).length=(firsts col n).length:=by simp[classesA]
theorem Dn {n j:Nat} (h:(firsts col n)[j]?=some (col n)):firsts col (n+1)=firsts col n/\classesA col pc (n+1)=(classesA col pc n).set j (addI (clsOf col pc (col n) n) (pc n))/\(classesA col pc n)[j]?=some (clsOf col pc (col n) n):=by
 have hm:col n∈firsts col n:=mem_of_getElem? h;have h1:firsts col (n+1)=firsts col n:=by simp only[firsts,if_pos hm]
 refine⟨h1,?_,by simp[classesA,h]⟩;have hj:=(List.getElem?_eq_some_iff.1 h).1;refine List.ext_getElem? fun i=>?_;rw[List.getElem?_set];unfold classesA;rw[h1,List.getElem?_map,List.getElem?_map,List.length_map];by_cases e:j=i
 ·subst e;rw[if_pos rfl,if_pos hj,h];simp[clsOf]
 ·rw[if_neg e];rcases lt_or_ge i (firsts col n).length with hi|hi
  ·have hne:col n≠(firsts col n)[i]:=fun e2=>by
    have h3:=(List.getElem?_eq_some_iff.1 h).2;have hnd:=List.pairwise_iff_getElem.1 (Cd (col:=col) n);rcases Nat.lt_or_gt_of_ne e with h4|h4
    ·exact hnd j i hj hi h4 (h3.trans e2)
    ·exact hnd i j hi hj h4 (e2.symm.trans h3.symm)
   rw[getElem?_eq_getElem hi];simp[clsOf,hne]
  ·rw[getElem?_eq_none hi];rfl
theorem Do {n:Nat} (h:col n ∉ firsts col n):firsts col (n+1)=firsts col n++[col n]/\classesA col pc (n+1)=classesA col pc n++[[pc n]]:=by
 have h1:firsts col (n+1)=firsts col n++[col n]:=by simp only[firsts,if_neg h]
 refine⟨h1,?_⟩;unfold classesA;rw[h1,map_append];congr 1
 ·refine List.map_congr_left fun c hc=>?_;have:col n≠c:=fun e=>h (by rw[e];exact hc);simp[clsOf,this]
 ·simp[clsOf,JF h,DJ]
end classes
open Classical in
noncomputable def splitA (L:List Spans) (E:List Int) (top:Int):Option (List Spans):=
 if tooBig (colK L E top) (pieceA E top) E.length then none else some (classesA (colK L E top) (pieceA E top) E.length)
theorem CD {L:List Spans}{E:List Int}{top:Int}{n:Nat} (hn:n<=E.length) (h:tooBig (colK L E top) (pieceA E top) n):splitA L E top=none:=by
 unfold splitA;rw[if_pos (KD hn h)]
theorem FC {L:List Spans}{E:List Int}{top:Int} (h:¬ tooBig (colK L E top) (pieceA E top) E.length):splitA L E top=some (classesA (colK L E top) (pieceA E top) E.length):=by
 unfold splitA;rw[if_neg h]
def putL (l:List Int) (n top:Int):List Int:=
 if n > top∨n∈l then l else l.filter (fun x=>decide (x<n))++[n]++l.filter (fun x=>decide (n<x))
def putS (top:Int) (l:List Int) (s:Spans):List Int:=s.foldl (fun l p=>putL (putL l p.1 top) (p.2+1) top) l
def endsR (L:List Spans) (top:Int):List Int:=L.foldl (putS top) [0]
structure EndsOk (top:Int) (l:List Int):Prop where
 sorted:l.Pairwise (·< ·)
 le:∀ x∈l,0<=x/\x<=top
 zero:0∈l
theorem Er {l:List Int}{n top x:Int}:x∈putL l n top↔x∈l∨(x=n/\n<=top):=by
 unfold putL;split
 ·rename_i h;constructor
  ·exact .inl
  ·rintro(h1|⟨rfl,h1⟩)
   ·exact h1
   ·rcases h with h|h
    ·omega
    ·exact h
 ·rename_i h;have h1:n<=top:=by omega
  have h2:n ∉ l:=fun e=>h (.inr e);simp only[mem_append,mem_filter,mem_singleton,decide_eq_true_eq];constructor
  ·rintro((⟨h3,h4⟩|rfl)|⟨h3,h4⟩)
   ·exact .inl h3
   ·exact .inr ⟨rfl,h1⟩
   ·exact .inl h3
  ·rintro(h3|⟨rfl,h4⟩)
   ·rcases Int.lt_trichotomy x n with h5|h5|h5
    ·exact .inl (.inl ⟨h3,h5⟩)
    ·exact .inl (.inr h5)
    ·exact .inr ⟨h3,h5⟩
   ·exact .inl (.inr rfl)
theorem EndsOk.put {top:Int}{l:List Int} (h:EndsOk top l) {n:Int} (hn:0<=n):EndsOk top (putL l n top):=by
 refine⟨?_,fun x hx=>?_,Er.2 (.inl h.zero)⟩
 ·unfold putL;split
  ·exact h.sorted
  ·refine List.pairwise_append.2 ⟨List.pairwise_append.2 ⟨h.sorted.filter _,by simp,fun a ha b hb=>?_⟩,h.sorted.filter _,fun a ha b hb=>?_⟩
   ·rw[mem_singleton.1 hb];have:=(mem_filter.1 ha).2
    simpa using this
   ·have h2:=(mem_filter.1 hb).2;simp at h2;rcases mem_append.1 ha with ha|ha
    ·have:=(mem_filter.1 ha).2;simp at this;omega
    ·rw[mem_singleton.1 ha];exact h2
 ·rcases Er.1 hx with h1|⟨rfl,h1⟩
  ·exact h.le x h1
  ·exact⟨hn,h1⟩
theorem Es (l:List Int) (n top:Int):(putL l n top).length<=l.length+1:=by
 unfold putL;split
 ·omega
 ·rename_i h;have h2:n ∉ l:=fun e=>h (.inr e);have h3:∀ l:List Int,(l.filter fun x=>decide (x<n)).length+(l.filter fun x=>decide (n<x)).length<=l.length:=by
   intro l
   induction l with
   | nil=>simp
   | cons a l ih=>
     by_cases h5:a<n
     ·have h6:¬ n<a:=by omega
      simp[List.filter_cons,h5,h6];omega
     ·by_cases h6:n<a
      ·simp[List.filter_cons,h5,h6];omega
      ·simp[List.filter_cons,h5,h6];omega
  have:=h3 l;simp only[length_append,List.length_singleton];omega
theorem Cr {top:Int}:∀ {s:Spans}{l:List Int},EndsOk top l->(∀ p∈s,0<=p.1/\p.1<=p.2)->EndsOk top (putS top l s)/\(putS top l s).length<=l.length+2*s.length /\
  ∀ x,x∈putS top l s↔x∈l∨∃ p∈s,(x=p.1∨x=p.2+1)/\x<=top
 | [],l,h,_=>⟨h,by simp[putS],fun x=>by simp[putS]⟩
 | p::s,l,h,hs=>by
   have hp:=hs p (by simp);obtain⟨h1,h2,h3⟩:=Cr (s:=s) ((h.put hp.1).put (n:=p.2+1) (by omega)) (fun q hq=>hs q (by simp[hq]));have l1:=Es l p.1 top;have l2:=Es (putL l p.1 top) (p.2+1) top;refine⟨h1,?_,fun x=>?_⟩
   ·show (putS top (putL (putL l p.1 top) (p.2+1) top) s).length<=_;simp only[length_cons];omega
   ·show x∈putS top (putL (putL l p.1 top) (p.2+1) top) s↔_;rw[h3,Er,Er];constructor
    ·rintro(((h4|⟨rfl,h4⟩)|⟨rfl,h4⟩)|⟨q,h4,h5⟩)
     ·exact .inl h4
     ·exact .inr ⟨p,by simp,.inl rfl,h4⟩
     ·exact .inr ⟨p,by simp,.inr rfl,h4⟩
     ·exact .inr ⟨q,by simp[h4],h5⟩
    ·rintro(h4|⟨q,h4,h5,h6⟩)
     ·exact .inl (.inl (.inl h4))
     ·rcases mem_cons.1 h4 with rfl|h4
      ·rcases h5 with rfl|rfl
       ·exact .inl (.inl (.inr ⟨rfl,h6⟩))
       ·exact .inl (.inr ⟨rfl,h6⟩)
      ·exact .inr ⟨q,h4,h5,h6⟩
theorem HQ {top:Int}:∀ {L:List Spans}{l:List Int},EndsOk top l->(∀ s∈L,∀ p∈s,0<=p.1/\p.1<=p.2)->EndsOk top (L.foldl (putS top) l) /\
  ∀ x,x∈L.foldl (putS top) l↔x∈l∨∃ s∈L,∃ p∈s,(x=p.1∨x=p.2+1)/\x<=top
 | [],l,h,_=>⟨h,fun x=>by simp⟩
 | s::L,l,h,hs=>by
   obtain⟨h1,_,h2⟩:=Cr (s:=s) h (hs s (by simp));obtain⟨h3,h4⟩:=HQ (L:=L) h1 (fun t ht=>hs t (by simp[ht]));refine⟨h3,fun x=>?_⟩;show x∈L.foldl (putS top) (putS top l s)↔_;rw[h4,h2];constructor
   ·rintro((h5|⟨p,h5,h6⟩)|⟨t,h5,p,h6,h7⟩)
    ·exact .inl h5
    ·exact .inr ⟨s,by simp,p,h5,h6⟩
    ·exact .inr ⟨t,by simp[h5],p,h6,h7⟩
   ·rintro(h5|⟨t,h5,p,h6,h7⟩)
    ·exact .inl (.inl h5)
    ·rcases mem_cons.1 h5 with rfl|h5
     ·exact .inl (.inr ⟨p,h6,h7⟩)
     ·exact .inr ⟨t,h5,p,h6,h7⟩
theorem JA {top:Int} (h:0<=top):EndsOk top [0]:=⟨by simp,fun x hx=>by rw[mem_singleton.1 hx];omega,by simp⟩
theorem E5 {L:List Spans}{top:Int} (h:0<=top) (hs:∀ s∈L,SetV s):EndsOk top (endsR L top):=(HQ (JA h) fun s hs' p hp=>⟨((hs s hs').good p hp).1,((hs s hs').good p hp).2.1⟩).1
theorem Nf {L:List Spans}{top:Int} (h:0<=top) (hs:∀ s∈L,SetV s) {x:Int}:x∈endsR L top↔x=0∨∃ s∈L,∃ p∈s,(x=p.1∨x=p.2+1)/\x<=top:=by
 have:=(HQ (JA h) fun s hs' p hp=>⟨((hs s hs').good p hp).1,((hs s hs').good p hp).2.1⟩).2 x;rw[mem_singleton]at this;exact this
def endS (top:Int) (i:Nat) (s:Spans):List (Int×Int):=s.flatMap fun p=>(if p.1<=top then [(p.1,(i:Int))] else [])++(if p.2+1<=top then [(p.2+1,(i:Int))] else [])
def endsP (top:Int):Nat->List Spans->List (Int×Int)
 | _,[]=>[]
 | i,s::L=>endS top i s++endsP top (i+1) L
theorem E6 {top:Int}{i:Nat}{s:Spans}{e:Int×Int}:e∈endS top i s↔e.2=i/\∃ p∈s,(e.1=p.1∨e.1=p.2+1)/\e.1<=top:=by
 unfold endS;simp only[List.mem_flatMap,mem_append];constructor
 ·rintro⟨p,hp,h|h⟩
  ·split at h
   ·rw[mem_singleton.1 h];exact⟨rfl,p,hp,.inl rfl,by assumption⟩
   ·simp at h
  ·split at h
   ·rw[mem_singleton.1 h];exact⟨rfl,p,hp,.inr rfl,by assumption⟩
   ·simp at h
 ·rintro⟨h1,p,hp,h2,h3⟩;obtain⟨a,b⟩:=e;simp only at h1 h2 h3;refine⟨p,hp,?_⟩;rcases h2 with rfl|rfl
  ·left;rw[if_pos h3,h1];simp
  ·right;rw[if_pos h3,h1];simp
theorem D3 {top:Int}:∀ {L:List Spans}{i:Nat}{e:Int×Int},e∈endsP top i L->(∃ k:Nat,e.2=(k:Int)/\i<=k/\k<i+L.length)/\∃ s∈L,∃ p∈s,(e.1=p.1∨e.1=p.2+1)/\e.1<=top
 | [],i,e,h=>by simp[endsP]at h
 | s::L,i,e,h=>by
   rcases mem_append.1 h with h|h
   ·obtain⟨h1,h2⟩:=E6.1 h;exact⟨⟨i,h1,by omega,by simp only[length_cons];omega⟩,s,by simp,h2⟩
   ·obtain⟨⟨k,h1,h2,h3⟩,t,ht,h4⟩:=D3 h;exact⟨⟨k,h1,by omega,by simp only[length_cons];omega⟩,t,by simp[ht],h4⟩
theorem I8 {top:Int}{x:Int}:∀ {L:List Spans}{i:Nat},(∃ s∈L,∃ p∈s,(x=p.1∨x=p.2+1)/\x<=top)->∃ e∈endsP top i L,e.1=x
 | [],i,⟨s,h,_⟩=>by simp at h
 | s::L,i,⟨t,ht,h⟩=>by
   rcases mem_cons.1 ht with rfl|ht
   ·exact⟨(x,(i:Int)),List.mem_append_left _ (E6.2 ⟨rfl,h⟩),rfl⟩
   ·obtain⟨e,he,h2⟩:=I8 (L:=L) (i:=i+1) ⟨t,ht,h⟩;exact⟨e,List.mem_append_right _ he,h2⟩
theorem Kz (top:Int) (i:Nat) (s:Spans):(endS top i s).length<=2*s.length:=by
 unfold endS
 induction s with
 | nil=>simp
 | cons p s ih=>
   simp only[List.flatMap_cons,length_append,length_cons]at ih |-;have h1:(if p.1<=top then [(p.1,(i:Int))] else []).length<=1:=by split<;>simp
   have h2:(if p.2+1<=top then [(p.2+1,(i:Int))] else []).length<=1:=by split<;>simp
   omega
theorem D4 {top:Int}:∀ {L:List Spans}{i:Nat},(∀ s∈L,s.length<=64)->(endsP top i L).length<=128*L.length
 | [],i,_=>by simp[endsP]
 | s::L,i,h=>by
   have h1:=Kz top i s;have h2:=D4 (top:=top) (L:=L) (i:=i+1) (fun t ht=>h t (by simp[ht]));have h3:=h s (by simp);simp only[endsP,length_append,length_cons];omega
theorem Ns {s:Spans} (h:SetV s) {x top:Int} (hx:x<=top) (i:Nat):(endS top i s).countP (fun e=>decide (e.1<=x)) % 2=if hasSpan s x then 1 else 0:=by
 have key:∀ s:Spans,(s.Pairwise fun p q=>p.2+2<=q.1)->(∀ p∈s,p.1<=p.2)->(endS top i s).countP (fun e=>decide (e.1<=x)) % 2=if hasSpan s x then 1 else 0:=by
  intro s
  induction s with
  | nil=>intro _ _;rfl
  | cons p s ih=>
    intro h1 h2;have ih:=ih (List.Pairwise.of_cons h1) (fun q hq=>h2 q (by simp[hq]));have hp:=h2 p (by simp);have h3:=(List.pairwise_cons.1 h1).1;have e:endS top i (p::s)=((if p.1<=top then [(p.1,(i:Int))] else [])++(if p.2+1<=top then [(p.2+1,(i:Int))] else []))++endS top i s:=rfl;have hh:hasSpan (p::s) x=((decide (p.1<=x)&&decide (x<=p.2))||hasSpan s x):=rfl;have c1:(if p.1<=top then [(p.1,(i:Int))] else []).countP (fun e=>decide (e.1<=x))=if p.1<=x then 1 else 0:=by
     by_cases h4:p.1<=x
     ·rw[if_pos (show p.1<=top by omega),if_pos h4];simp[h4]
     ·rw[if_neg h4];split<;>simp[h4]
    have c2:(if p.2+1<=top then [(p.2+1,(i:Int))] else []).countP (fun e=>decide (e.1<=x))=if p.2+1<=x then 1 else 0:=by
     by_cases h4:p.2+1<=x
     ·rw[if_pos (show p.2+1<=top by omega),if_pos h4];simp[h4]
     ·rw[if_neg h4];split<;>simp[h4]
    rw[e,List.countP_append,List.countP_append,c1,c2,hh];by_cases h4:p.1<=x
    ·by_cases h5:x<=p.2
     ·have h6:hasSpan s x=false:=by
       unfold hasSpan;rw[List.any_eq_false];intro q hq;have:=h3 q hq;simp;omega
      have h7:¬ p.2+1<=x:=by omega
      rw[h6]at ih;simp only[h6,h4,h5,h7,if_true,if_false,decide_true,Bool.and_self,Bool.or_false];simp at ih |-;omega
     ·have h7:p.2+1<=x:=by omega
      simp only[h4,h5,h7,if_true,decide_true,decide_false,Bool.and_false,Bool.false_or];rw[<- ih];omega
    ·have h7:¬ p.2+1<=x:=by omega
     simp only[h4,h7,if_false,decide_false,Bool.false_and,Bool.false_or];rw[<- ih];simp
 exact key s h.sep (fun p hp=>(h.good p hp).2.1)
theorem L6 {top:Int}{i j:Nat} (h:i≠j) (s:Spans) (x:Int):(endS top i s).countP (fun e=>decide (e.1<=x)&&decide (e.2=(j:Int)))=0:=by
 rw[List.countP_eq_zero];intro e he;have:=(E6.1 he).1;simp[this];intro _;omega
theorem Ni {top:Int}{i:Nat} (s:Spans) (x:Int):(endS top i s).countP (fun e=>decide (e.1<=x)&&decide (e.2=(i:Int)))=(endS top i s).countP (fun e=>decide (e.1<=x)):=by
 refine List.countP_congr fun e he=>?_;have:=(E6.1 he).1;simp[this]
theorem HX {top x:Int} (hx:x<=top):∀ {L:List Spans}{i j:Nat},(∀ s∈L,SetV s)->i<=j->(endsP top i L).countP (fun e=>decide (e.1<=x)&&decide (e.2=(j:Int))) % 2=if(colA L x).getD (j-i) false then 1 else 0
 | [],i,j,_,_=>by simp[endsP,colA]
 | s::L,i,j,h,hij=>by
   simp only[endsP,List.countP_append];rcases lt_or_ge i j with h1|h1
   ·have ih:=HX hx (L:=L) (i:=i+1) (j:=j) (fun t ht=>h t (by simp[ht])) h1;rw[L6 (by omega),Nat.zero_add,ih];obtain⟨k,rfl⟩:∃ k,j=i+1+k:=⟨j-(i+1),by omega⟩;have e1:i+1+k-(i+1)=k:=by omega
    have e2:i+1+k-i=k+1:=by omega
    rw[e1,e2];simp[colA]
   ·obtain rfl:j=i:=by omega
    have h2:(endsP top (j+1) L).countP (fun e=>decide (e.1<=x)&&decide (e.2=(j:Int)))=0:=by
     rw[List.countP_eq_zero];intro e he;obtain⟨⟨k,h3,h4,h5⟩,_⟩:=D3 he;simp[h3];intro _;omega
    rw[h2,Nat.add_zero,Ni,Ns (h s (by simp)) hx];simp[colA]
end Go.Ev
namespace Go.Ev
attribute [local go_sem] evAppend evBin AV.cells
section
def aroundI (n m:Int):Int:=(if n<0 then-(n+1) else n) % m
def In64 (n:Int):Prop:=-9223372036854775808<=n/\n<=9223372036854775807
theorem OC {n m:Int} (h:0<m):0<=aroundI n m/\aroundI n m<m:=by
 unfold aroundI;have:0<=(if n<0 then-(n+1) else n):=by split<;>omega
 exact⟨Int.emod_nonneg _ (by omega),Int.emod_lt_of_pos _ h⟩
theorem f12 (n m:Int) (hn:In64 n) (hm:m≠0) (H:List MB):call Pg pol1 8 [.int .i64 n,.int .i64 m] H=some (I (aroundI n m),H):=by
 obtain⟨h1,h2⟩:=hn;refine AR Tryz.func8 rfl rfl rfl rfl rfl rfl (fun _=>rfl) (by simp[AV.plain,AV.plainL,AG,AF,AL,AM]) (by simp[AV.plain,AV.plainL,AG,AF,AL,AM]) ?_ H;simp +contextual (disch:=omega) only[Tryz.f8,dd8,go_sem,simprocAttr,mu8,↓AE,↓AC,↓AB,↓AA];unfold aroundI;refine⟨fun h=>⟨hm,fzEq rfl ?_⟩,fun h=>⟨hm,fzEq rfl ?_⟩⟩
 ·rw[if_pos h];try (congr 2;omega)
 ·rw[if_neg h]
def pickI (l:List Int) (i m:Int):Int:=if i<0 then 0 else match l[i.toNat]? with
 | some x=>aroundI x m
 | none=>0
theorem MU {l:List Int}{i m:Int} (h:0<m):0<=pickI l i m/\pickI l i m<m:=by
 unfold pickI;split
 ·omega
 ·split
  ·exact OC h
  ·omega
theorem f57 (l:List Int) (i m:Int) (hl:∀ x∈l,In64 x) (hm:m≠0) (H:List MB):call Pg pol1 39 [.sl false (l.map I),.int .i64 i,.int .i64 m] H=some (I (pickI l i m),H):=by
 refine AR Tryz.func39 rfl rfl rfl rfl rfl rfl (fun _=>rfl) (by simp[AV.plain,AV.plainL,AG,AF,AL,AM]) (by simp[AV.plain,AV.plainL,AG,AF,AL,AM]) ?_ H;by_cases h0:i<0
 ·have e:pickI l i m=0:=by simp[pickI,h0]
  rw[e];simp +contextual (disch:=omega) only[Tryz.f39,dd39,go_sem,simprocAttr,mu39,↓AE,↓AC,↓AB,↓AA];exact fzEq rfl rfl
 ·obtain⟨k,rfl⟩:∃ k:Nat,i=k:=⟨i.toNat,by omega⟩;by_cases h1:k<l.length
  ·obtain⟨p,hp⟩:∃ p,l[k]?=some p:=⟨_,getElem?_eq_getElem h1⟩;have e:pickI l k m=aroundI p m:=by simp[pickI,h0,hp]
   rw[e];have hf:=f12 p m (hl p (mem_of_getElem? hp)) hm;simp +contextual (disch:=omega) only[Tryz.f39,dd39,go_sem,simprocAttr,mu39,↓AE,↓AC,↓AB,↓AA,hp,hf];exact fzEq rfl rfl
  ·have e:pickI l k m=0:=by simp[pickI,getElem?_eq_none (Nat.le_of_not_lt h1)]
   rw[e];simp +contextual (disch:=omega) only[Tryz.f39,dd39,go_sem,simprocAttr,mu39,↓AE,↓AC,↓AB,↓AA];exact fzEq rfl rfl
end
end Go.Ev
/- What a state of the machine is: the plain laws of the search for it. -/
namespace Go.Ev
structure VS where
 r:List Nat
 a:List Bool
 c:Bool
def VS.mark (s:VS) (n:Nat):VS:=⟨s.r,s.a.set n true,s.c⟩
def VS.found (s:VS) (n:Nat) (c:Bool):VS:=⟨s.r++[n],s.a.set n true,c⟩
def VS.open (s:VS):Nat:=s.a.countP (fun b=>!b)
def vs0 (n:Nat):VS:=⟨[],List.replicate n false,false⟩
structure VS.Ok (N:Nat) (s:VS):Prop where
 len:s.a.length=N
 res:∀ n∈s.r,n<N/\s.a[n]?=some true
 nodup:s.r.Nodup
theorem VS.Ok.mark {N n:Nat}{s:VS} (h:s.Ok N):(s.mark n).Ok N:=by
 refine⟨by simp[VS.mark,h.len],fun m hm=>?_,h.nodup⟩;obtain⟨h1,h2⟩:=h.res m hm;refine⟨h1,?_⟩;simp only[VS.mark];by_cases e:n=m
 ·subst e;rw[List.getElem?_set_self (by rw[h.len];exact h1)]
 ·rw[List.getElem?_set_ne e];exact h2
theorem VS.Ok.found {N n:Nat}{c:Bool}{s:VS} (h:s.Ok N) (hn:s.a[n]?=some false):(s.found n c).Ok N:=by
 have hlt:n<s.a.length:=(List.getElem?_eq_some_iff.1 hn).1;have hm:=h.mark (n:=n);refine⟨hm.len,fun m hm'=>?_,?_⟩
 ·rcases mem_append.1 hm' with h1|h1
  ·exact hm.res m h1
  ·rw[mem_singleton.1 h1];exact⟨by rw[<- h.len];exact hlt,by simp only[VS.found];rw[List.getElem?_set_self hlt]⟩
 ·refine List.nodup_append.2 ⟨h.nodup,by simp,fun x hx y hy e=>?_⟩;rw[mem_singleton.1 hy]at e;subst e;have:=(h.res x hx).2;rw[hn]at this;cases this
theorem NK {N:Nat}{l:List Nat} (h:l.Nodup) (hl:∀ n∈l,n<N):l.length<=N:=by
 have:=List.Nodup.length_le_of_subset h (l₂:=List.range N) (fun x hx=>mem_range.2 (hl x hx))
 simpa using this
theorem VS.Ok.small {N:Nat}{s:VS} (h:s.Ok N):s.r.length<=N:=NK h.nodup (fun n hn=>(h.res n hn).1)
end Go.Ev
namespace Go.Ev
attribute [local go_sem] evAppend evBin AV.cells
section
attribute [local go_sem] Ax A8 bndO bnd evEq eqCells not_false_eq_true not_true_eq_false toList_some Array.size_empty length_append map_append tySzE List.head?_drop Nat.mul_one Aj Aq Ag Ak Al Ae
abbrev NV (n:Nat):AV:=I (n:Int)
theorem BJ (l:List Bool):AV.plainL (l.map AV.bool)=true:=by
 induction l with
 | nil=>rfl
 | cons a l ih=>simp[AV.plainL,ih];rfl
theorem Bt {α:Type} (K:List α) (x:α):(K++[x])[K.length]?=some x:=by simp
theorem Ij {α:Type} (K:List α) (x y:α):(K++[x]).set K.length y=K++[y]:=by simp
theorem Su {H:List MB}{i n:Nat}{rs:List Nat}{c:Nat}{t:Bool} (hi:getRow H i=some (1,rs.map NV,0)) (hn:rs.length=n) (hr:n+1<=4000000000) :
  evAppend Pg H 22 22 (.ms i 1 n 0 n) (.sl t [NV c])=some (.ms i 1 (n+1) 0 (n+1),H.set i (.row 1 ((rs++[c]).map NV) 0)):=by
 have hs:srcElems Pg H 3 (.sl t [NV c])=some [NV c]:=rfl;rw[Ai (e:=3) (by kernel_rfl) (by kernel_rfl) (k:=1) (by kernel_rfl) (by_:=8) (by kernel_rfl) (ze:=I 0) (by kernel_rfl) rfl (by omega) hs rfl hi (by rw[List.length_map];exact hn) (Nat.zero_le _) (Ae (by simpa using hr) (by omega))];rw[map_append];rfl
theorem C1 {t:Bool}{l:List AV} (h:AV.plainL l=true) (H:List MB):fz (.sl t l) H=some (.sl false l,H):=by
 simp only[fz,fzA,A9 _ _ _ h]
end
section
attribute [local go_sem] Ax A8 bndO bnd evEq eqCells not_false_eq_true not_true_eq_false toList_some Array.size_empty length_append map_append tySzE List.head?_drop Nat.mul_one Aj Aq Ag Ak Al Ae
theorem CM {P:Program}{pol:Pol}{f:Nat}{args l:List AV}{H H1:List MB} (hp:pol.pure f=true) (h:frzArgs pol f 0 args H=some (l,H1)) (ha:AV.plainL l=true) :
  call P pol f args H=call P pol f l H1:=by
 have hf:∀(l:List AV) (i:Nat),AV.plainL l=true->frzArgs pol f i l H1=some (l,H1):=by
  intro l
  induction l with
  | nil=>intro i _;rfl
  | cons x l ih=>
    intro i h;simp only[AV.plainL,Bool.and_eq_true]at h;simp only[frzArgs,Ac H1 h.1,ih (i+1) h.2];split<;>simp_all
 rw[BR,BR];unfold evStep;simp only[hp,if_true,h,hf l 0 ha]
theorem BB {P:Program}{pol:Pol}{f:Nat}{args l:List AV}{H H1:List MB} (hp:pol.pure f=true) (h:frzArgs pol f 0 args H=some (l,H1)) (ha:AV.plainL l=true) :
  call P pol f args H=call P pol f l H1:=by
 have hf:∀(l:List AV) (i:Nat),AV.plainL l=true->frzArgs pol f i l H1=some (l,H1):=by
  intro l
  induction l with
  | nil=>intro i _;rfl
  | cons x l ih=>
    intro i h;simp only[AV.plainL,Bool.and_eq_true]at h;simp only[frzArgs,Ac H1 h.1,ih (i+1) h.2];split<;>simp_all
 rw[BR,BR];unfold evStep;simp only[hp,if_true,h,hf l 0 ha]
theorem Mb (l:List (Int×Int)) (x:Int) (hl:l.length<=1000000000) (H:List MB):call Pg pol1 100 [.sl false (l.map spanAV),I x] H=some (.bool (hasSpan l x),H):=by
 refine AR Tryz.func100 rfl rfl rfl rfl rfl rfl (fun _=>rfl) (by simp[AV.plain,AV.plainL,AG,AF,AL,AM]) (by simp[AV.plain,AV.plainL,AG,AF,AL,AM]) ?_ H;simp +contextual (disch:=omega) only[Tryz.f100,K4,go_sem,simprocAttr,Kc,↓AE,↓AC,↓AB,↓AA];refine AY (M:=(mskOf (pol1.mask 100) (pol1.gc 100) (pol1.acts 100) 0 2)) rfl l.length (fun i=>(⟨28,[(5,I i),(1,I x),(0,.sl false (l.map spanAV))],[]⟩:St)) (fun i=>∀ k p,k<i->l[k]?=some p->¬ (p.1<=x/\x<=p.2)) ?_ ?_ (fun k p h=>by omega) _ (by first|rfl|(refine AN rfl (by rfl) (by rfl) (by rfl) ?_ ?_<;>simp[AV.underL,AV.under,MB.under,AD,AI,AG,AF,AL,AM,-map_take]))
 ·intro i hi hg;obtain⟨p,hp⟩:∃ p,l[i]?=some p:=⟨_,getElem?_eq_getElem hi⟩;by_cases hin:p.1<=x/\x<=p.2
  ·rw[G8 hp hin];simp +contextual (disch:=omega) only[Tryz.f100,K4,go_sem,simprocAttr,Kc,↓AE,↓AC,↓AB,↓AA,hp,spanAV];exact fzEq rfl rfl
  ·have ext:∀ k q,k<i+1->l[k]?=some q->¬ (q.1<=x/\x<=q.2):=fun k q hk hq=>by
    rcases lt_or_ge k i with h|h
    ·exact hg k q h hq
    ·obtain rfl:k=i:=by omega
     rw[hp]at hq;obtain rfl:=Option.some.inj hq;exact hin
   by_cases h1:p.1<=x
   ·simp +contextual (disch:=omega) only[Tryz.f100,K4,go_sem,simprocAttr,Kc,↓AE,↓AC,↓AB,↓AA,hp,spanAV];exact⟨ext,(by first|rfl|(refine AN rfl (by rfl) (by rfl) (by rfl) ?_ ?_<;>simp[AV.underL,AV.under,MB.under,AD,AI,AG,AF,AL,AM,-map_take]))⟩
   ·simp +contextual (disch:=omega) only[Tryz.f100,K4,go_sem,simprocAttr,Kc,↓AE,↓AC,↓AB,↓AA,hp,spanAV];exact⟨ext,(by first|rfl|(refine AN rfl (by rfl) (by rfl) (by rfl) ?_ ?_<;>simp[AV.underL,AV.under,MB.under,AD,AI,AG,AF,AL,AM,-map_take]))⟩
 ·intro hg;rw[G7 hg];simp +contextual (disch:=omega) only[Tryz.f100,K4,go_sem,simprocAttr,Kc,↓AE,↓AC,↓AB,↓AA];exact fzEq rfl rfl
end
def WR (w:List Int) (b:Nat->Bool):Prop:=w.length=16/\∀ i,i<16->∃ x:Nat,w[i]?=some (x:Int)/\x<2 ^ 64/\∀ r,r<64->x.testBit r=b (64*i+r)
theorem WR.uniq {w w':List Int}{b b':Nat->Bool} (h:WR w b) (h':WR w' b') (hb:∀ j,j<1024->b j=b' j):w=w':=by
 refine List.ext_getElem? fun i=>?_;rcases lt_or_ge i 16 with hi|hi
 ·obtain⟨x,h1,h2,h3⟩:=h.2 i hi;obtain⟨y,h4,h5,h6⟩:=h'.2 i hi;have:x=y:=by
   refine Nat.eq_of_testBit_eq fun r=>?_;rcases lt_or_ge r 64 with hr|hr
   ·rw[h3 r hr,h6 r hr,hb _ (by omega)]
   ·rw[Nat.testBit_lt_two_pow (Nat.lt_of_lt_of_le h2 (Nat.pow_le_pow_right (by omega) hr)),Nat.testBit_lt_two_pow (Nat.lt_of_lt_of_le h5 (Nat.pow_le_pow_right (by omega) hr))]
  rw[h1,h4,this]
 ·rw[getElem?_eq_none (by rw[h.1];exact hi),getElem?_eq_none (by rw[h'.1];exact hi)]
theorem WR.inj {w:List Int}{b b':Nat->Bool} (h:WR w b) (h':WR w b') {j:Nat} (hj:j<1024):b j=b' j:=by
 obtain⟨x,h1,h2,h3⟩:=h.2 (j / 64) (by omega);obtain⟨y,h4,h5,h6⟩:=h'.2 (j / 64) (by omega);rw[h1]at h4;have:x=y:=by have:=Option.some.inj h4;omega
 subst this;have e:64*(j / 64)+j % 64=j:=by omega
 have h7:=h3 (j % 64) (by omega);have h8:=h6 (j % 64) (by omega);rw[e]at h7 h8;rw[<- h7,h8]
theorem WR.congr {w:List Int}{b b':Nat->Bool} (h:WR w b) (hb:∀ j,j<1024->b j=b' j):WR w b':=by
 refine⟨h.1,fun i hi=>?_⟩;obtain⟨x,h1,h2,h3⟩:=h.2 i hi;exact⟨x,h1,h2,fun r hr=>by rw[h3 r hr,hb _ (by omega)]⟩
theorem WR.zero:WR (List.replicate 16 0) fun _=>false:=by
 refine⟨rfl,fun i hi=>⟨0,?_,by decide,fun r _=>by simp⟩⟩;rw[List.getElem?_replicate,if_pos hi];rfl
def xorW (x:Int) (r:Nat):Int:=IntKind.u64.wrap ((BitVec.ofInt 64 x ^^^ BitVec.ofInt 64 (2 ^ r:Int)).toNat:Int)
theorem Pn {x r:Nat} (hx:x<2 ^ 64) (hr:r<64):xorW (x:Int) r=((x ^^^ 2 ^ r:Nat):Int):=by
 have h1:(2:Nat) ^ r<2 ^ 64:=Nat.pow_lt_pow_right (by omega) hr;have h2:x ^^^ 2 ^ r<2 ^ 64:=Nat.xor_lt_two_pow hx h1;have e1:(BitVec.ofInt 64 (x:Int)).toNat=x:=by
  rw[BitVec.ofInt_natCast,BitVec.toNat_ofNat,Nat.mod_eq_of_lt hx]
 have e2:(BitVec.ofInt 64 (2 ^ r:Int)).toNat=2 ^ r:=by
  have:(2 ^ r:Int)=((2 ^ r:Nat):Int):=by simp
  rw[this,BitVec.ofInt_natCast,BitVec.toNat_ofNat,Nat.mod_eq_of_lt h1]
 unfold xorW;rw[BitVec.toNat_xor,e1,e2];simp only[IntKind.wrap,IntKind.bits,IntKind.signed];simp;omega
theorem WR.tog {w:List Int}{b:Nat->Bool} (h:WR w b) {s:Nat} (hs:s<1024) {x:Int} (hx:w[s / 64]?=some x):WR (w.set (s / 64) (xorW x (s % 64))) fun j=>if j=s then !b j else b j:=by
 refine⟨by rw[List.length_set];exact h.1,fun i hi=>?_⟩;obtain⟨y,h1,h2,h3⟩:=h.2 i hi;by_cases e:s / 64=i
 ·subst e;rw[h1]at hx;obtain rfl:(y:Int)=x:=Option.some.inj hx;rw[List.getElem?_set_self (by rw[h.1];exact hi),Pn h2 (by omega)];refine⟨_,rfl,Nat.xor_lt_two_pow h2 (Nat.pow_lt_pow_right (by omega) (by omega)),fun r hr=>?_⟩;rw[Nat.testBit_xor,h3 r hr,Nat.testBit_two_pow];by_cases e2:s % 64=r
  ·have e3:64*(s / 64)+r=s:=by omega
   simp only[if_pos e3];simp[e2]
  ·simp only[if_neg (show ¬ 64*(s / 64)+r=s by omega)];simp[e2]
 ·rw[List.getElem?_set_ne e];refine⟨y,h1,h2,fun r hr=>?_⟩;simp only[if_neg (show ¬ 64*i+r=s by omega)];exact h3 r hr
def par (l:List (Int×Int)) (j:Nat):Bool:=l.countP (fun e=>decide (e.2=(j:Int))) % 2==1
theorem Oi (l:List (Int×Int)) (a:Int) (s:Nat):par (l++[(a,(s:Int))])=fun j=>if j=s then !par l j else par l j:=by
 funext j
 unfold par;rw[List.countP_append];by_cases h:j=s
 ·subst h;simp[List.countP_cons];rcases Nat.mod_two_eq_zero_or_one (l.countP fun e=>decide (e.2=(j:Int))) with h2|h2
  ·rw[h2];simp;omega
  ·rw[h2];simp;omega
 ·have:¬ ((s:Int)=(j:Int)):=by omega
  simp[List.countP_cons,this,h]
section scan
variable {L:List Spans}{top:Int}{S:List (Int×Int)}{E:List Int}
structure ScanOk (L:List Spans) (top:Int) (S:List (Int×Int)) (E:List Int):Prop where
 sets:∀ s∈L,SetV s
 top0:0<=top
 many:L.length<=1024
 perm:S.Perm (endsP top 0 L)
 sorted:S.Pairwise fun a b=>a.1<=b.1
 ends:EndsOk top E
 mem:∀ x,x∈E↔x=0∨∃ s∈L,∃ p∈s,(x=p.1∨x=p.2+1)/\x<=top
def From (S:List (Int×Int)) (j:Nat) (x:Int):Prop:=(∀ i e,i<j->S[i]?=some e->e.1<x)/\∀ i e,j<=i->S[i]?=some e->x<=e.1
def Past (S:List (Int×Int)) (j:Nat) (x:Int):Prop:=(∀ i e,i<j->S[i]?=some e->e.1<=x)/\∀ i e,j<=i->S[i]?=some e->x<e.1
theorem ScanOk.at (h:ScanOk L top S E) {j:Nat}{e:Int×Int} (he:S[j]?=some e):(∃ k:Nat,e.2=(k:Int)/\k<L.length)/\e.1∈E/\0<=e.1/\e.1<=top:=by
 have hm:=h.perm.mem_iff.1 (mem_of_getElem? he);obtain⟨⟨k,h1,_,h2⟩,h3⟩:=D3 hm;have hE:=(h.mem e.1).2 (.inr h3);exact⟨⟨k,h1,by omega⟩,hE,h.ends.le _ hE⟩
theorem ScanOk.has (h:ScanOk L top S E) {x:Int} (hx:x∈E) (h0:x≠0):∃(j:Nat) (e:Int×Int),S[j]?=some e/\e.1=x:=by
 rcases(h.mem x).1 hx with h1|h1
 ·exact absurd h1 h0
 ·obtain⟨e,he,h2⟩:=I8 (i:=0) h1;obtain⟨j,hj⟩:=getElem?_of_mem (h.perm.mem_iff.2 he);exact⟨j,e,hj,h2⟩
theorem Past.par (h:ScanOk L top S E) {j:Nat}{x:Int} (hx:x<=top) (hp:Past S j x) (k:Nat):par (S.take j) k=(colA L x).getD k false:=by
 have h1:=HX hx (L:=L) (i:=0) (j:=k) h.sets (Nat.zero_le _);rw[<- h.perm.countP_eq,Nat.sub_zero]at h1;have h2:S.countP (fun e=>decide (e.1<=x)&&decide (e.2=(k:Int)))=(S.take j).countP fun e=>decide (e.2=(k:Int)):=by
  conv=>lhs;rw[<- List.take_append_drop j S,List.countP_append]
  have e1:(S.drop j).countP (fun e=>decide (e.1<=x)&&decide (e.2=(k:Int)))=0:=by
   rw[List.countP_eq_zero];intro e he;obtain⟨i,hi⟩:=getElem?_of_mem he;rw[List.getElem?_drop]at hi;have:=hp.2 (j+i) e (by omega) hi;simp;intro _;omega
  rw[e1,Nat.add_zero];refine List.countP_congr fun e he=>?_;obtain⟨i,hi⟩:=getElem?_of_mem he;rw[List.getElem?_take]at hi;split at hi
  ·have:=hp.1 i e (by assumption) hi;simp[this]
  ·cases hi
 unfold Ev.par;rw[<- h2,h1];cases (colA L x).getD k false<;>rfl
theorem BI {E:List Int}{top x:Int}{k:Nat} (h:E[k]?=some x):lastP E top k=x:=by simp[lastP,h]
theorem B6 {E:List Int}{top:Int}{k:Nat} (h:E.length<=k):lastP E top k=top+1:=by simp[lastP,getElem?_eq_none h]
theorem EndsOk.lt (h:EndsOk top E) {i j:Nat}{x y:Int} (hi:E[i]?=some x) (hj:E[j]?=some y) (hij:i<j):x<y:=by
 obtain⟨h1,e1⟩:=List.getElem?_eq_some_iff.1 hi;obtain⟨h2,e2⟩:=List.getElem?_eq_some_iff.1 hj;have:=List.pairwise_iff_getElem.1 h.sorted i j h1 h2 hij;rw[e1,e2]at this;exact this
theorem EndsOk.first (h:EndsOk top E):E[0]?=some 0:=by
 obtain⟨j,hj⟩:=getElem?_of_mem h.zero;rcases Nat.eq_zero_or_pos j with rfl|h0
 ·exact hj
 ·have hlt:=(List.getElem?_eq_some_iff.1 hj).1;obtain⟨x,hx⟩:∃ x,E[0]?=some x:=⟨_,getElem?_eq_getElem (by omega)⟩;have h1:=h.lt hx hj h0;have h2:=h.le x (mem_of_getElem? hx);omega
theorem EndsOk.step (h:EndsOk top E) {k:Nat} (hk:k<E.length):lastP E top k<lastP E top (k+1)/\0<=lastP E top k/\lastP E top k<=top/\lastP E top (k+1)<=top+1:=by
 obtain⟨x,hx⟩:∃ x,E[k]?=some x:=⟨_,getElem?_eq_getElem hk⟩;have hl:=h.le x (mem_of_getElem? hx);rw[BI hx];rcases lt_or_ge (k+1) E.length with h1|h1
 ·obtain⟨y,hy⟩:∃ y,E[k+1]?=some y:=⟨_,getElem?_eq_getElem h1⟩;have hl2:=h.le y (mem_of_getElem? hy);rw[BI hy];exact⟨h.lt hx hy (by omega),hl.1,hl.2,by omega⟩
 ·rw[B6 h1];exact⟨by omega,hl.1,hl.2,by omega⟩
theorem EndsOk.mono (h:EndsOk top E) {i j:Nat} (hij:i<j) (hj:j<=E.length):lastP E top i<lastP E top j:=by
 obtain⟨x,hx⟩:∃ x,E[i]?=some x:=⟨_,getElem?_eq_getElem (by omega)⟩;rw[BI hx];rcases lt_or_ge j E.length with h1|h1
 ·obtain⟨y,hy⟩:∃ y,E[j]?=some y:=⟨_,getElem?_eq_getElem h1⟩;rw[BI hy];exact h.lt hx hy hij
 ·rw[B6 h1];have:=(h.le x (mem_of_getElem? hx)).2;omega
theorem Past.next (h:ScanOk L top S E) {j k:Nat} (hk:k<E.length) (hp:Past S j (lastP E top k)):lastP E top (k+1)=(match S[j]? with
  | some e=>e.1
  | none=>top+1)/\From S j (lastP E top (k+1)):=by
 obtain⟨x,hx⟩:∃ x,E[k]?=some x:=⟨_,getElem?_eq_getElem hk⟩;have hl:=h.ends.le x (mem_of_getElem? hx);rw[BI hx]at hp;have hsort:∀(i i':Nat) (e e':Int×Int),i<=i'->S[i]?=some e->S[i']?=some e'->e.1<=e'.1:=fun i i' e e' hii h1 h2=>by
  rcases Nat.lt_or_eq_of_le hii with h3|rfl
  ·obtain⟨l1,q1⟩:=List.getElem?_eq_some_iff.1 h1;obtain⟨l2,q2⟩:=List.getElem?_eq_some_iff.1 h2;have:=List.pairwise_iff_getElem.1 h.sorted i i' l1 l2 h3;rw[q1,q2]at this;exact this
  ·rw[h1]at h2;rw[Option.some.inj h2];exact Int.le_refl _
 have later:∀(m:Nat) (y:Int),k<m->E[m]?=some y->∃(i:Nat) (e:Int×Int),j<=i/\S[i]?=some e/\e.1=y:=fun m y hm hy=>by
  have hlt:=h.ends.lt hx hy hm;obtain⟨i,e,hi,he⟩:=h.has (mem_of_getElem? hy) (by omega);refine⟨i,e,?_,hi,he⟩;rcases lt_or_ge i j with h1|h1
  ·have:=hp.1 i e h1 hi;omega
  ·exact h1
 cases hS:S[j]? with
 | none=>
   have hk1:E.length<=k+1:=by
    rcases lt_or_ge (k+1) E.length with h1|h1
    ·obtain⟨i,e,h2,h3,_⟩:=later (k+1) _ (by omega) (getElem?_eq_getElem h1);have:=(List.getElem?_eq_some_iff.1 h3).1;have:=List.getElem?_eq_none_iff.1 hS;omega
    ·exact h1
   rw[B6 hk1];refine⟨rfl,fun i e hi he=>?_,fun i e hi he=>?_⟩
   ·have:=hp.1 i e hi he;omega
   ·have h1:=(List.getElem?_eq_some_iff.1 he).1;have h2:=List.getElem?_eq_none_iff.1 hS;omega
 | some e=>
   have hgt:=hp.2 j e (le_refl _) hS;obtain⟨m,hm⟩:=getElem?_of_mem (h.at hS).2.1;have hkm:k<m:=by
    rcases lt_or_ge k m with h1|h1
    ·exact h1
    ·rcases Nat.lt_or_eq_of_le h1 with h2|rfl
     ·have:=h.ends.lt hm hx h2;omega
     ·rw[hm]at hx;have:=Option.some.inj hx;omega
   have hmlt:=(List.getElem?_eq_some_iff.1 hm).1;obtain⟨y,hy⟩:∃ y,E[k+1]?=some y:=⟨_,getElem?_eq_getElem (by omega)⟩;obtain⟨i,e',h1,h2,h3⟩:=later (k+1) y (by omega) hy;have h4:=hsort j i e e' h1 hS h2;have h5:y<=e.1:=by
    rcases Nat.lt_or_eq_of_le (show k+1<=m by omega) with h6|rfl
    ·exact Int.le_of_lt (h.ends.lt hy hm h6)
    ·rw[hy]at hm;rw[Option.some.inj hm];exact Int.le_refl _
   have h6:y=e.1:=by omega
   rw[BI hy,h6];refine⟨rfl,fun i' e2 hi he=>?_,fun i' e2 hi he=>hsort j i' e e2 hi hS he⟩;have:=hp.1 i' e2 hi he;omega
theorem From.zero (h:ScanOk L top S E):From S 0 0:=⟨fun i e hi=>by omega,fun i e _ he=>(h.at he).2.2.1⟩
def Mid (S:List (Int×Int)) (j:Nat) (x:Int):Prop:=(∀ i e,i<j->S[i]?=some e->e.1<=x)/\∀ i e,j<=i->S[i]?=some e->x<=e.1
theorem From.mid {j:Nat}{x:Int} (h:From S j x):Mid S j x:=⟨fun i e hi he=>Int.le_of_lt (h.1 i e hi he),h.2⟩
theorem Mid.step {j:Nat}{x:Int} (h:Mid S j x) {e:Int×Int} (he:S[j]?=some e) (hx:e.1=x):Mid S (j+1) x:=by
 refine⟨fun i e' hi h1=>?_,fun i e' hi h1=>h.2 i e' (by omega) h1⟩;rcases Nat.lt_succ_iff_lt_or_eq.1 hi with h2|rfl
 ·exact h.1 i e' h2 h1
 ·rw[he]at h1;rw[<- Option.some.inj h1];omega
theorem Mid.past (hs:S.Pairwise fun a b=>a.1<=b.1) {j:Nat}{x:Int} (h:Mid S j x) (hn:∀ e,S[j]?=some e->e.1≠x):Past S j x:=by
 refine⟨h.1,fun i e hi he=>?_⟩;have hlt:=(List.getElem?_eq_some_iff.1 he).1;obtain⟨e0,h0⟩:∃ e0,S[j]?=some e0:=⟨_,getElem?_eq_getElem (by omega)⟩;have h1:=h.2 j e0 (le_refl _) h0;have h2:=hn e0 h0;have h3:e0.1<=e.1:=by
  rcases Nat.lt_or_eq_of_le hi with h4|rfl
  ·obtain⟨l1,q1⟩:=List.getElem?_eq_some_iff.1 h0;have:=List.pairwise_iff_getElem.1 hs j i l1 hlt h4;rw[q1,(List.getElem?_eq_some_iff.1 he).2]at this;exact this
  ·rw[h0]at he;rw[Option.some.inj he];exact Int.le_refl _
 omega
end scan
end Go.Ev
