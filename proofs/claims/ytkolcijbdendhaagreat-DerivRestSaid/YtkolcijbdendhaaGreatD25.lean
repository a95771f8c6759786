/- What a tree means: plain. -/
import Derived.Test.YtkolcijbdendhaaGreatD24
set_option linter.unusedVariables false
set_option linter.unusedSimpArgs false
open List (any_eq_true append_assoc append_nil cons_append length_append mem_append mem_cons mem_filter mem_map mem_singleton nil_append)
open Bool (and_eq_true or_eq_true)
open Go.Proofs Go.RowKit Go.IntWalk
set_option maxHeartbeats 4000000
set_option maxRecDepth 100000
namespace Go.Ev
def powL (L:List Int->Prop):Nat->List Int->Prop
 | 0,w=>w=[]
 | n+1,w=>∃ u v,w=u++v/\L u/\powL L n v
theorem B1 {L M:List Int->Prop} (h:∀ w,L w↔M w):∀(n:Nat) (w:List Int),powL L n w↔powL M n w
 | 0,w=>Iff.rfl
 | n+1,w=>by
   simp only[powL,h,B1 h n]
theorem GT {L:List Int->Prop} (h:L []):∀ n,powL L n []
 | 0=>rfl
 | n+1=>⟨[],[],rfl,h,GT h n⟩
theorem II {L:List Int->Prop}{x:Int}:∀ {n:Nat}{w:List Int},powL L (n+1) (x::w)->∃ u v,w=u++v/\L (x::u)/\powL L n v
 | 0,w,⟨u,v,e,h1,h2⟩=>by
   simp only[powL]at h2;subst h2;rw[append_nil]at e;exact⟨w,[],by simp,e ▸ h1,rfl⟩
 | n+1,w,⟨[],v,e,h1,h2⟩=>by
   rw[nil_append]at e;subst e;obtain⟨u',v',e',h3,h4⟩:=II h2;exact⟨u',v',e',h3,[],v',rfl,h1,h4⟩
 | n+1,w,⟨y::u,v,e,h1,h2⟩=>by
   simp only[cons_append,List.cons.injEq]at e;obtain⟨rfl,rfl⟩:=e;exact⟨u,v,rfl,h1,h2⟩
theorem GU {L:List Int->Prop}:∀ {a b:Nat}{u v:List Int},powL L a u->powL L b v->powL L (a+b) (u++v)
 | 0,b,u,v,h1,h2=>by
   simp only[powL]at h1;subst h1
   simpa using h2
 | a+1,b,u,v,⟨u1,u2,e,h1,h3⟩,h2=>by
   rw[show a+1+b=(a+b)+1 by omega];exact⟨u1,u2++v,by rw[e,append_assoc],h1,GU h3 h2⟩
theorem IH {L:List Int->Prop}:∀ {n:Nat}{w:List Int},powL (fun u=>∃ m,powL L m u) n w->∃ m,powL L m w
 | 0,w,h=>⟨0,h⟩
 | n+1,w,⟨u,v,e,⟨m,h1⟩,h2⟩=>by
   obtain⟨m2,h3⟩:=IH h2;exact⟨m+m2,e ▸ GU h1 h3⟩
mutual
def lang:Re->List Int->Prop
 | .mk op set kids mn mx _ _ _=>fun w=>
   if op=1 then ∃ x,w=[x]/\hasSpan set x=true else if op=2 then langC kids w else if op=3∨op=5 then langA kids w
   else if op=4 then ∃ n:Nat,mn<=n/\(mx = -1∨(n:Int)<=mx)/\powL (langA kids) n w else w=[]
def langC:List Re->List Int->Prop
 | []=>fun w=>w=[]
 | k::l=>fun w=>∃ u v,w=u++v/\lang k u/\langC l v
def langA:List Re->List Int->Prop
 | []=>fun _=>False
 | k::l=>fun w=>lang k w∨langA l w
end
theorem BV {w:List Int}:∀ {l:List Re},langA l w↔∃ k∈l,lang k w
 | []=>by simp[langA]
 | k::l=>by simp[langA,BV (l:=l)]
theorem IV {w:List Int}:∀ {a b:List Re},langC (a++b) w↔∃ u v,w=u++v/\langC a u/\langC b v
 | [],b=>by
   simp only[nil_append,langC];exact⟨fun h=>⟨[],w,rfl,rfl,h⟩,fun⟨u,v,e,h1,h2⟩=>by subst h1;rw[e];exact h2⟩
 | k::a,b=>by
   simp only[cons_append,langC,IV (a:=a) (b:=b)];constructor
   ·rintro⟨u,v,e,h1,v1,v2,e2,h2,h3⟩;exact⟨u++v1,v2,by rw[e,e2,append_assoc],⟨u,v1,rfl,h1,h2⟩,h3⟩
   ·rintro⟨u,v,e,⟨u1,u2,e2,h1,h2⟩,h3⟩;exact⟨u1,u2++v,by rw[e,e2,append_assoc],h1,u2,v,rfl,h2,h3⟩
theorem DJ {w:List Int}:lang emptyR w↔w=[]:=by simp[lang]
theorem Gl {s:List (Int×Int)}{w:List Int}:lang (setR s) w↔∃ x,w=[x]/\hasSpan s x=true:=by simp[lang]
theorem Dt {w:List Int}:lang nothR w↔False:=by simp[lang,hasSpan]
theorem DZ {l:List Re}{w:List Int}:lang (.mk 2 [] l 0 0 0 0 false) w↔langC l w:=by simp[lang]
theorem Ek {l:List Re}{w:List Int}:lang (.mk 3 [] l 0 0 0 0 false) w↔langA l w:=by simp[lang]
theorem Gp {k:Re}{n:Int}{w:List Int}:lang (.mk 5 [] [k] 0 0 0 n false) w↔lang k w:=by simp[lang,langA]
theorem Ca {k:Re}{mn mx md n:Int}{w:List Int}:lang (.mk 4 [] [k] mn mx md n false) w↔∃ n:Nat,mn<=n/\(mx = -1∨(n:Int)<=mx)/\powL (lang k) n w:=by
 have:∀ u,langA [k] u↔lang k u:=fun u=>by simp[langA]
 simp only[lang];constructor
 ·rintro h;simp at h;obtain⟨n,h1,h2,h3⟩:=h;exact⟨n,h1,h2,(B1 this n w).1 h3⟩
 ·rintro⟨n,h1,h2,h3⟩;simp;exact⟨n,h1,h2,(B1 this n w).2 h3⟩
theorem IU {k:Re}{w:List Int}:langC [k] w↔lang k w:=by
 simp only[langC];exact⟨fun⟨u,v,e,h1,h2⟩=>by subst h2;rw[e,append_nil];exact h1,fun h=>⟨w,[],by simp,h,rfl⟩⟩
theorem Gn {l:List Re}{w:List Int}:lang (joinR 2 l emptyR) w↔langC l w:=by
 match l with
 | []=>simp[joinR,DJ,langC]
 | [k]=>rw[joinR,IU]
 | k::k2::l=>rw[joinR,DZ]
theorem ED {l:List Re}{w:List Int}:lang (joinR 3 l nothR) w↔langA l w:=by
 match l with
 | []=>simp[joinR,Dt,langA]
 | [k]=>simp[joinR,langA]
 | k::k2::l=>rw[joinR,Ek]
theorem E1 {t:Re} (h:OkD t):nullG t=true↔lang t []:=by
 induction h with
 | empty=>simp[nullG,lang]
 | set s h=>simp[nullG,lang]
 | cat kids h ih=>
   rw[DZ];have e:nullG (.mk 2 [] kids 0 0 0 0 false)=nullAll kids:=by simp[nullG]
   rw[e];clear e
   induction kids with
   | nil=>simp[nullAll,langC]
   | cons k l ihl=>
     simp only[nullAll,and_eq_true,langC];have h2:nullAll l=true↔langC l []:=ihl (fun q hq=>h q (.tail _ hq)) fun q hq=>ih q (.tail _ hq);rw[ih k (.head _),h2];exact⟨fun⟨a,b⟩=>⟨[],[],rfl,a,b⟩,fun⟨u,v,e,a,b⟩=>by
      have:=List.append_eq_nil_iff.1 e.symm;rw[this.1]at a;rw[this.2]at b;exact⟨a,b⟩⟩
 | alt kids h ih=>
   rw[Ek];have e:nullG (.mk 3 [] kids 0 0 0 0 false)=nullAny kids:=by simp[nullG]
   rw[e];clear e
   induction kids with
   | nil=>simp[nullAny,langA]
   | cons k l ihl=>
     simp only[nullAny,or_eq_true,langA];have h2:nullAny l=true↔langA l []:=ihl (fun q hq=>h q (.tail _ hq)) fun q hq=>ih q (.tail _ hq);rw[ih k (.head _),h2]
 | rep k mn mx md h h1 h2 ih=>
   rw[Ca];have e:nullG (.mk 4 [] [k] mn mx md 0 false)=(decide (mn<=0)||nullG k):=by simp[nullG,nullHd]
   rw[e,or_eq_true,decide_eq_true_eq,ih];constructor
   ·rintro(h|h)
    ·exact⟨0,by omega,by omega,rfl⟩
    ·exact⟨mn.toNat,by omega,by omega,GT h _⟩
   ·rintro⟨n,a,b,c⟩;cases n with
    | zero=>left;omega
    | succ n=>
      obtain⟨u,v,e,d,_⟩:=c;rw[(List.append_eq_nil_iff.1 e.symm).1]at d;exact .inr d
 | cap k n h ih=>
   rw[Gp,<- ih];simp[nullG,nullHd]
theorem O8 {x:Int}{t:Re} (h:OkD t):∀ w,lang (drv x t) w↔lang t (x::w):=by
 induction h with
 | empty=>intro w;simp[drv,Dt,DJ]
 | set s h=>
   intro w;rw[Gl];have e:drv x (setR s)=if hasSpan s x=true then emptyR else nothR:=by simp[drv]
   rw[e];split
   ·rename_i hs;rw[DJ];exact⟨fun h=>⟨x,by rw[h],hs⟩,fun⟨y,e,_⟩=>(List.cons.inj e).2⟩
   ·rename_i hs;rw[Dt];exact⟨False.elim,fun⟨y,e,h⟩=>hs ((List.cons.inj e).1 ▸ h)⟩
 | cat kids h ih=>
   intro w;have e:drv x (.mk 2 [] kids 0 0 0 0 false)=joinR 3 (catD x kids) nothR:=by simp[drv]
   rw[e,ED,DZ];clear e
   induction kids generalizing w with
   | nil=>simp[catD,langA,langC]
   | cons k l ihl=>
     have ih1:=ih k (.head _);have ih2:=ihl (fun q hq=>h q (.tail _ hq)) (fun q hq=>ih q (.tail _ hq));have hn:=E1 (h k (.head _));simp only[catD,langA,Gn,langC];constructor
     ·rintro(⟨u,v,e,a,b⟩|h3)
      ·exact⟨x::u,v,by rw[e];rfl,(ih1 u).1 a,b⟩
      ·split at h3
       ·rename_i hk;exact⟨[],x::w,rfl,hn.1 hk,(ih2 w).1 h3⟩
       ·simp[langA]at h3
     ·rintro⟨u,v,e,a,b⟩;cases u with
      | nil=>
        simp only[nil_append]at e;subst e;refine .inr ?_;rw[if_pos (hn.2 a)];exact(ih2 w).2 b
      | cons y u=>
        simp only[cons_append,List.cons.injEq]at e;obtain⟨rfl,rfl⟩:=e;exact .inl ⟨u,v,rfl,(ih1 u).2 a,b⟩
 | alt kids h ih=>
   intro w;have e:drv x (.mk 3 [] kids 0 0 0 0 false)=joinR 3 (drvL x kids) nothR:=by simp[drv]
   rw[e,ED,Ek,Dy,BV,BV];constructor
   ·rintro⟨k,hk,a⟩;obtain⟨q,hq,rfl⟩:=mem_map.1 hk;exact⟨q,hq,(ih q hq w).1 a⟩
   ·rintro⟨q,hq,a⟩;exact⟨_,List.mem_map_of_mem hq,(ih q hq w).2 a⟩
 | rep k mn mx md h h1 h2 ih=>
   intro w;have e:drv x (.mk 4 [] [k] mn mx md 0 false)=if mx=1 then drv x k else .mk 2 [] [drv x k,.mk 4 [] [k] (max (mn-1) 0) (if mx = -1 then mx else mx-1) md 0 false] 0 0 0 0 false:=by simp[drv,drvL]
   rw[e,Ca];split
   ·rename_i h3;subst h3;rw[ih];constructor
    ·intro h4;exact⟨1,by omega,.inr (by omega),x::w,[],by simp,h4,rfl⟩
    ·rintro⟨n,a,b,c⟩;have:n<=1:=by omega
     match n,this,c with
     | 0,_,c=>simp[powL]at c
     | 1,_,⟨u,v,e,c,d⟩=>
       simp only[powL]at d;subst d;rw[append_nil]at e;exact e ▸ c
   ·rename_i h3;rw[DZ];simp only[langC];constructor
    ·rintro⟨u,v,e,a,v1,v2,e2,b,rfl⟩;rw[append_nil]at e2;subst e2;rw[Ca]at b;obtain⟨n,b1,b2,b3⟩:=b;refine⟨n+1,by omega,?_,x::u,v,by rw[e];rfl,(ih u).1 a,b3⟩;split at b2<;>omega
    ·rintro⟨n,a,b,c⟩;cases n with
     | zero=>simp[powL]at c
     | succ n=>
       obtain⟨u,v,e,c1,c2⟩:=II c;refine⟨u,v,e,(ih u).2 c1,v,[],by simp,?_,rfl⟩;rw[Ca];refine⟨n,by omega,?_,c2⟩;split<;>omega
 | cap k n h ih=>
   intro w;rw[Gp,<- ih];simp[drv,drvL]
end Go.Ev
namespace Go.Ev
theorem On {k:Re}{w:List Int} (h:k.op=2):lang k w↔langC k.sub w:=by
 obtain⟨op,set,kids,mn,mx,md,n,neg⟩:=k;simp only[Re.op]at h;subst h;simp[lang,Re.sub]
theorem KJ {k:Re}{w:List Int} (h:k.op=3):lang k w↔langA k.sub w:=by
 obtain⟨op,set,kids,mn,mx,md,n,neg⟩:=k;simp only[Re.op]at h;subst h;simp[lang,Re.sub]
theorem KL {k:Re}{w:List Int} (h:k.op=0):lang k w↔w=[]:=by
 obtain⟨op,set,kids,mn,mx,md,n,neg⟩:=k;simp only[Re.op]at h;subst h;simp[lang]
theorem Gm {k:Re}{w:List Int} (h:k.op=1):lang k w↔∃ x,w=[x]/\hasSpan k.set x=true:=by
 obtain⟨op,set,kids,mn,mx,md,n,neg⟩:=k;simp only[Re.op]at h;subst h;simp[lang,Re.set]
theorem Cf {k:Re}{w:List Int} (h:isNoth k=true):¬ lang k w:=by
 simp only[isNoth,and_eq_true,decide_eq_true_eq]at h;rw[Gm h.1];rintro⟨x,_,h2⟩;rw[List.length_eq_zero_iff.1 h.2]at h2;simp[hasSpan]at h2
theorem Lc {l:List Re}:∀ w,langC (flatR 2 l) w↔langC l w:=by
 induction l with
 | nil=>intro w;simp[flatR]
 | cons k l ih=>
   intro w;have e:flatR 2 (k::l)=(if k.op=2 then k.sub else [k])++flatR 2 l:=by simp[flatR]
   rw[e,IV];simp only[langC,ih];have:∀ u,langC (if k.op=2 then k.sub else [k]) u↔lang k u:=fun u=>by
    split
    ·rename_i h;exact(On h).symm
    ·exact IU
   simp only[this]
theorem Ld {l:List Re}:∀ w,langA (flatR 3 l) w↔langA l w:=by
 intro w;rw[BV,BV];constructor
 ·rintro⟨k,hk,a⟩;rcases B5.1 hk with ⟨q,hq,⟨h1,h2⟩|⟨h1,rfl⟩⟩
  ·exact⟨q,hq,(KJ h1).2 (BV.2 ⟨k,h2,a⟩)⟩
  ·exact⟨_,hq,a⟩
 ·rintro⟨q,hq,a⟩;by_cases h:q.op=3
  ·obtain⟨k,hk,b⟩:=BV.1 ((KJ h).1 a);exact⟨k,B5.2 ⟨q,hq,.inl ⟨h,hk⟩⟩,b⟩
  ·exact⟨q,B5.2 ⟨q,hq,.inr ⟨h,rfl⟩⟩,a⟩
theorem Lb {l:List Re} (h:l.any isNoth=true):∀ w,¬ langC l w:=by
 induction l with
 | nil=>simp at h
 | cons k l ih=>
   intro w;simp only[langC];rintro⟨u,v,_,a,b⟩;rw[List.any_cons,or_eq_true]at h;rcases h with h|h
   ·exact Cf h a
   ·exact ih h v b
theorem Em {l:List Re}:∀ w,langC (l.filter fun r=>!decide (r.op=0)) w↔langC l w:=by
 induction l with
 | nil=>intro w;simp
 | cons k l ih=>
   intro w;by_cases h:k.op=0
   ·rw[List.filter_cons_of_neg (by simp[h]),ih];simp only[langC,KL h];exact⟨fun a=>⟨[],w,rfl,rfl,a⟩,fun⟨u,v,e,a,b⟩=>by subst a;rw[e];exact b⟩
   ·rw[List.filter_cons_of_pos (by simp[h])];simp only[langC,ih]
theorem Nk {l:List Re} (w:List Int):lang (catR l) w↔langC l w:=by
 unfold catR;split
 ·rename_i h;rw[Dt,<- Em];exact⟨False.elim,Lb h w⟩
 ·rw[Gn,Em]
theorem N0 {l:List Re} (hg:∀ k∈l,gsR k) (hb:altBad l=false) (w:List Int):lang (altR l) w↔langA l w:=by
 unfold altR;rw[ED,BV,BV];have hsp:=(CZ (DB hg)).2.1;have hs:∀ x,hasSpan (spansOf l) x=true↔∃ k∈l,k.op=1/\hasSpan k.set x=true:=fun x=>by
  simp only[hasSpan,spansOf,any_eq_true,List.mem_flatMap];constructor
  ·rintro⟨p,⟨k,hk,hp⟩,h⟩;split at hp
   ·rename_i h1;exact⟨k,hk,h1,p,hp,h⟩
   ·cases hp
  ·rintro⟨k,hk,h1,p,hp,h⟩;exact⟨p,⟨k,hk,by rw[if_pos h1];exact hp⟩,h⟩
 constructor
 ·rintro⟨k,hk,a⟩;rcases BJ.1 hk with h|h
  ·cases h
  unfold altL at h;rcases mem_append.1 h with h|h
  ·unfold othersOf at h;exact⟨k,(mem_filter.1 h).1,a⟩
  ·split at h
   ·cases h
   ·rw[mem_singleton.1 h,Gl]at a;obtain⟨x,e,a⟩:=a;rw[hsp]at a;obtain⟨q,hq,h1,h2⟩:=(hs x).1 a;exact⟨q,hq,(Gm h1).2 ⟨x,e,h2⟩⟩
 ·rintro⟨k,hk,a⟩;by_cases h1:k.op=1
  ·obtain⟨x,e,h2⟩:=(Gm h1).1 a;have h3:hasSpan (normL (spansOf l)) x=true:=by rw[hsp];exact(hs x).2 ⟨k,hk,h1,h2⟩
   have hne:normL (spansOf l)≠[]:=fun e=>by rw[e]at h3;simp[hasSpan]at h3
   refine⟨setR (normL (spansOf l)),BJ.2 (.inr ?_),Gl.2 ⟨x,e,h3⟩⟩;unfold altL;rw[if_neg (by simp[hb,hne])];simp
  ·refine⟨k,BJ.2 (.inr ?_),a⟩;unfold altL;exact List.mem_append_left _ (mem_filter.2 ⟨hk,by simp[h1]⟩)
theorem M7 {k:Re}{mn mx:Int} (h1:0<=mn/\mn<=32) (h2:mx = -1∨(1<=mx/\mx<=32/\mn<=mx)) (hk:NF k) (w:List Int):lang (repR mn mx k) w↔∃ n:Nat,mn<=n/\(mx = -1∨(n:Int)<=mx)/\powL (lang k) n w:=by
 obtain⟨op,set,kids,kmn,kmx,md,n,neg⟩:=k;unfold repR;have hz:∀ {L:List Int->Prop}{n:Nat},(∀ u,L u↔u=[])->(powL L n w↔w=[]):=fun {L n} h=>by
  induction n generalizing w with
  | zero=>rfl
  | succ n ih=>
    simp only[powL];constructor
    ·rintro⟨u,v,e,a,b⟩;rw[(h u).1 a]at e;rw[(ih v).1 b]at e;exact e
    ·rintro rfl;exact⟨[],[],rfl,(h []).2 rfl,(ih []).2 rfl⟩
 simp only;split
 ·rename_i h;rw[DJ];rcases h with h|⟨h,h0⟩
  ·have he:∀ u,lang (.mk op set kids kmn kmx md n neg) u↔u=[]:=fun u=>KL h;constructor
   ·intro hw;exact⟨mn.toNat,by omega,by omega,(hz he).2 hw⟩
   ·rintro⟨m,_,_,a⟩;exact(hz he).1 a
  ·constructor
   ·intro hw;exact⟨0,by omega,by omega,hw⟩
   ·rintro⟨m,_,_,a⟩;cases m with
    | zero=>exact a
    | succ m=>
      obtain⟨u,v,e,b,_⟩:=a;exact absurd b (Cf h)
 ·rename_i h;simp only[not_or,not_and]at h;split
  ·rename_i h3;rcases h3 with h3|⟨h3,h4,h5⟩|⟨h3,h4⟩
   ·have hm:=h.2 h3;constructor
    ·intro a;exact absurd a (Cf h3)
    ·rintro⟨m,a,_,b⟩;cases m with
     | zero=>omega
     | succ m=>
       obtain⟨u,v,e,b,_⟩:=b;exact absurd b (Cf h3)
   ·have hst:∃ q,∀ u,lang (.mk op set kids kmn kmx md n neg) u↔∃ m,powL (lang q) m u:=by
     subst h3 h4 h5;cases hk with
     | rep q _ _ hq=>
       refine⟨q,fun u=>?_⟩;rw[Ca];exact⟨fun⟨m,_,_,a⟩=>⟨m,a⟩,fun⟨m,a⟩=>⟨m,by omega,.inl rfl,a⟩⟩
    obtain⟨q,hq⟩:=hst;rw[hq];constructor
    ·rintro⟨m,a⟩;have h0:lang (.mk op set kids kmn kmx md n neg) []:=(hq []).2 ⟨0,rfl⟩;have h1':lang (.mk op set kids kmn kmx md n neg) w:=(hq w).2 ⟨m,a⟩;by_cases hmn:mn<=1
     ·exact⟨1,by omega,by omega,w,[],by simp,h1',rfl⟩
     ·refine⟨1+(mn.toNat-1),by omega,by omega,?_⟩;have:=GU (L:=lang (.mk op set kids kmn kmx md n neg)) (a:=1) (b:=mn.toNat-1) (u:=w) (v:=[]) ⟨w,[],by simp,h1',rfl⟩ (GT h0 _)
      simpa using this
    ·rintro⟨m,_,_,a⟩;exact IH ((B1 hq m w).1 a)
   ·subst h3 h4;constructor
    ·intro a;exact⟨1,by omega,.inr (by omega),w,[],by simp,a,rfl⟩
    ·rintro⟨m,a,b,c⟩;obtain rfl:m=1:=by omega
     obtain⟨u,v,e,d,f⟩:=c;simp only[powL]at f;subst f;rw[append_nil]at e;exact e ▸ d
  ·rw[Ca]
theorem KM {l m:List Re} (f:Re->Re) (hm:m=l.map f) (h:∀ k∈l,∀ w,lang (f k) w↔lang k w):∀ w,langC m w↔langC l w:=by
 subst hm
 induction l with
 | nil=>intro w;rfl
 | cons k l ih=>
   intro w;simp only[List.map_cons,langC,h k (.head _),ih fun q hq=>h q (.tail _ hq)]
theorem MT {t:Re} (h:OkD t):badR t=false->∀ w,lang (nf t) w↔lang t w:=by
 induction h with
 | empty=>intro _ w;simp[nf,formN,nfL]
 | set s h=>intro _ w;simp[nf,formN,nfL]
 | cat kids h ih=>
   intro hb w;have hbk:∀ k∈kids,badR k=false:=fun k hk=>by
    have:badRL kids=false:=by simpa [badR] using hb
    rw[CD]at this
    simpa using List.any_eq_false.1 this k hk
   have e:nf (.mk 2 [] kids 0 0 0 0 false)=catR (flatR 2 (kids.map nf)):=by simp[nf,formN,BF]
   rw[e,Nk,Lc,DZ];exact KM nf rfl (fun k hk=>ih k hk (hbk k hk)) w
 | alt kids h ih=>
   intro hb w;have hb1:badRL kids=false/\altBad (flatR 3 (kids.map nf))=false:=by
    simp only[badR,BF]at hb
    simpa using hb
   have hbk:∀ k∈kids,badR k=false:=fun k hk=>by
    have:=hb1.1;rw[CD]at this
    simpa using List.any_eq_false.1 this k hk
   have e:nf (.mk 3 [] kids 0 0 0 0 false)=altR (flatR 3 (kids.map nf)):=by simp[nf,formN,BF]
   have hg:∀ k∈kids.map nf,gsR k:=fun k hk=>by
    obtain⟨q,hq,rfl⟩:=mem_map.1 hk;exact(Od q (h q hq).gs).1
   rw[e,N0 (Eo hg) hb1.2,Ld,Ek,BV,BV];constructor
   ·rintro⟨k,hk,a⟩;obtain⟨q,hq,rfl⟩:=mem_map.1 hk;exact⟨q,hq,(ih q hq (hbk q hq) w).1 a⟩
   ·rintro⟨q,hq,a⟩;exact⟨nf q,List.mem_map_of_mem hq,(ih q hq (hbk q hq) w).2 a⟩
 | rep k mn mx md h h1 h2 ih=>
   intro hb w;have hbk:badR k=false:=by simpa [badR,badRL] using hb
   have e:nf (.mk 4 [] [k] mn mx md 0 false)=repR mn mx (nf k):=by simp[nf,formN,nfL]
   rw[e,M7 h1 h2 (Fa h hbk),Ca];constructor
   ·rintro⟨n,a,b,c⟩;exact⟨n,a,b,(B1 (ih hbk) n w).1 c⟩
   ·rintro⟨n,a,b,c⟩;exact⟨n,a,b,(B1 (ih hbk) n w).2 c⟩
 | cap k n h ih=>
   intro hb w;have hbk:badR k=false:=by simpa [badR,badRL] using hb
   have e:nf (.mk 5 [] [k] 0 0 0 n false)=nf k:=by simp[nf,formN,nfL]
   rw[e,Gp,ih hbk]
end Go.Ev
namespace Go.Ev
def tpS (top:Int) (s:List (Int×Int)):Prop:=∀ p∈s,goodS p/\p.2<=top
mutual
def tpR (top:Int):Re->Prop
 | .mk _ set kids _ _ _ _ _=>tpS top set/\tpL top kids
def tpL (top:Int):List Re->Prop
 | []=>True
 | k::ks=>tpR top k/\tpL top ks
end
variable {top:Int}
theorem Bw:∀ {l:List Re},tpL top l↔∀ k∈l,tpR top k
 | []=>by simp[tpL]
 | k::l=>by simp[tpL,Bw (l:=l)]
theorem Cn:tpS top []:=fun p hp=>by cases hp
theorem DR:tpR top emptyR:=⟨Cn,trivial⟩
theorem Dn:tpR top nothR:=⟨Cn,trivial⟩
theorem RE {r:Re} (h:tpR top r):tpS top r.set:=by
 obtain⟨op,set,kids,kmn,kmx,md,n,neg⟩:=r;exact h.1
theorem RD {r:Re} (h:tpR top r):∀ k∈r.sub,tpR top k:=by
 obtain⟨op,set,kids,kmn,kmx,md,n,neg⟩:=r;exact Bw.1 h.2
theorem MH {op:Int}{l:List Re} (h:∀ k∈l,tpR top k):∀ k∈flatR op l,tpR top k:=fun k hk=>by
 obtain⟨q,hq,⟨_,e⟩|⟨_,rfl⟩⟩:=B5.1 hk
 ·exact RD (h q hq) k e
 ·exact h k hq
theorem OC {l:List Re} (h:∀ k∈l,tpR top k):tpS top (spansOf l):=fun p hp=>by
 unfold spansOf at hp;obtain⟨k,hk,hp⟩:=List.mem_flatMap.1 hp;split at hp
 ·exact RE (h k hk) p hp
 ·cases hp
theorem PS {s:List (Int×Int)} (h:tpS top s):tpS top (normL s):=by
 obtain⟨n1,n2,_⟩:=CZ fun p hp=>(h p hp).1;intro p hp;have hg:=n1.good p hp;refine⟨hg,?_⟩;have h1:hasSpan (normL s) p.2=true:=by
  simp only[hasSpan,any_eq_true];exact⟨p,hp,by have:=hg.2.1;simp;omega⟩
 rw[n2]at h1;simp only[hasSpan,any_eq_true]at h1;obtain⟨q,hq,h2⟩:=h1;have:=(h q hq).2;simp at h2;omega
theorem EQ {op:Int}{l:List Re}{z:Re} (hz:tpR top z) (h:∀ k∈l,tpR top k):tpR top (joinR op l z):=by
 match l,h with
 | [],_=>exact hz
 | [x],h=>exact h x (by simp)
 | x::y::l,h=>exact⟨Cn,Bw.2 h⟩
theorem RH {l:List Re} (h:∀ k∈l,tpR top k):tpR top (catR l):=by
 unfold catR;split
 ·exact Dn
 ·exact EQ DR fun k hk=>h k (mem_filter.1 hk).1
theorem RI {l:List Re} (h:∀ k∈l,tpR top k):tpR top (altR l):=by
 unfold altR;refine EQ Dn fun k hk=>?_;rcases BJ.1 hk with e|e
 ·cases e
 ·unfold altL at e;rcases mem_append.1 e with e|e
  ·exact h k (mem_filter.1 e).1
  ·split at e
   ·cases e
   ·rw[mem_singleton.1 e];exact⟨PS (OC h),trivial⟩
theorem RF {mn mx:Int}{k:Re} (h:tpR top k):tpR top (repR mn mx k):=by
 obtain⟨op,set,kids,kmn,kmx,md,n,neg⟩:=k;simp only[repR];split
 ·exact DR
 ·split
  ·exact h
  ·exact⟨Cn,h,trivial⟩
theorem Qy {t:Re} (ho:OkD t) (h:tpR top t):tpR top (nf t):=by
 induction ho with
 | empty=>simpa [nf,formN,nfL] using h
 | set s _=>simpa [nf,formN,nfL] using h
 | cat kids _ ih=>
   have e:nf (.mk 2 [] kids 0 0 0 0 false)=catR (flatR 2 (kids.map nf)):=by simp[nf,formN,BF]
   rw[e];refine RH (MH fun k hk=>?_);obtain⟨q,hq,rfl⟩:=mem_map.1 hk;exact ih q hq (Bw.1 h.2 q hq)
 | alt kids _ ih=>
   have e:nf (.mk 3 [] kids 0 0 0 0 false)=altR (flatR 3 (kids.map nf)):=by simp[nf,formN,BF]
   rw[e];refine RI (MH fun k hk=>?_);obtain⟨q,hq,rfl⟩:=mem_map.1 hk;exact ih q hq (Bw.1 h.2 q hq)
 | rep k mn mx md _ h1 h2 ih=>
   have e:nf (.mk 4 [] [k] mn mx md 0 false)=repR mn mx (nf k):=by simp[nf,formN,nfL]
   rw[e];exact RF (ih h.2.1)
 | cap k n _ ih=>
   have e:nf (.mk 5 [] [k] 0 0 0 n false)=nf k:=by simp[nf,formN,nfL]
   rw[e];exact ih h.2.1
theorem RG {x:Int}{t:Re} (ho:OkD t) (h:tpR top t):tpR top (drv x t):=by
 induction ho with
 | empty=>simpa [drv] using Dn
 | set s _=>
   have e:drv x (setR s)=if hasSpan s x=true then emptyR else nothR:=by simp[drv]
   rw[e];split
   ·exact DR
   ·exact Dn
 | cat kids hkk ih=>
   have e:drv x (.mk 2 [] kids 0 0 0 0 false)=joinR 3 (catD x kids) nothR:=by simp[drv]
   rw[e];have hk:=Bw.1 h.2;clear h e;refine EQ Dn ?_
   induction kids with
   | nil=>intro k hk;simp[catD]at hk
   | cons k l ihl=>
     intro q hq;simp only[catD]at hq;rcases mem_cons.1 hq with rfl|hq
     ·refine EQ DR fun p hp=>?_;rcases mem_cons.1 hp with rfl|hp
      ·exact ih k (.head _) (hk k (.head _))
      ·exact hk p (.tail _ hp)
     ·split at hq
      ·rename_i hh;exact ihl (fun q hq=>hkk q (.tail _ hq)) (fun q hq=>ih q (.tail _ hq)) (fun q hq=>hk q (.tail _ hq)) q hq
      ·cases hq
 | alt kids _ ih=>
   have e:drv x (.mk 3 [] kids 0 0 0 0 false)=joinR 3 (drvL x kids) nothR:=by simp[drv]
   rw[e,Dy];refine EQ Dn fun k hk=>?_;obtain⟨q,hq,rfl⟩:=mem_map.1 hk;exact ih q hq (Bw.1 h.2 q hq)
 | rep k mn mx md _ h1 h2 ih=>
   have e:drv x (.mk 4 [] [k] mn mx md 0 false)=if mx=1 then drv x k else .mk 2 [] [drv x k,.mk 4 [] [k] (max (mn-1) 0) (if mx = -1 then mx else mx-1) md 0 false] 0 0 0 0 false:=by simp[drv,drvL]
   rw[e];have hk:=ih h.2.1;split
   ·exact hk
   ·exact⟨Cn,hk,⟨Cn,h.2.1,trivial⟩,trivial⟩
 | cap k n _ ih=>
   have e:drv x (.mk 5 [] [k] 0 0 0 n false)=drv x k:=by simp[drv,drvL]
   rw[e];exact ih h.2.1
theorem Jq {caps:Int} (ht:top<=1114111) {t:Re} (ho:OkD t) (h:wholeG caps top t=true):tpR top t:=by
 induction ho with
 | empty=>exact DR
 | set s hs=>
   refine⟨fun p hp=>?_,trivial⟩;have h1:spansG s top=true:=by
    simp only[wholeG,formedG,and_eq_true,if_true]at h;simp at h;exact h.1.2
   refine⟨hs.good p hp,?_⟩;simp only[spansG,and_eq_true,decide_eq_true_eq,Bool.not_eq_true']at h1;obtain⟨k,hk⟩:=List.getElem?_of_mem hp;have h2:=List.any_eq_false.1 h1.2 k (List.mem_range.2 (List.getElem?_eq_some_iff.1 hk).1);exact(Jk hk (by simpa using h2)).2.2
 | cat kids _ ih=>
   rw[wholeG,and_eq_true,Af]at h;exact⟨Cn,Bw.2 fun k hk=>ih k hk (h.2 k hk)⟩
 | alt kids _ ih=>
   rw[wholeG,and_eq_true,Af]at h;exact⟨Cn,Bw.2 fun k hk=>ih k hk (h.2 k hk)⟩
 | rep k mn mx md _ h1 h2 ih=>
   rw[wholeG,and_eq_true,Af]at h;exact⟨Cn,ih (h.2 k (by simp)),trivial⟩
 | cap k n _ ih=>
   rw[wholeG,and_eq_true,Af]at h;exact⟨Cn,ih (h.2 k (by simp)),trivial⟩
theorem GG {s:List (Int×Int)} (h:SetN s) (ht:tpS top s):spansG s top=true:=by
 refine DS h.len fun k hk=>?_;unfold badS;rw[List.getElem?_eq_getElem hk];have hg:=h.good s[k] (List.getElem_mem hk);have ht:=(ht s[k] (List.getElem_mem hk)).2;unfold goodS at hg;have a1:¬ s[k].1<0:=by omega
 have a2:¬ s[k].2<s[k].1:=by omega
 have a3:¬ top<s[k].2:=by omega
 simp only[a1,a2,a3,decide_false,Bool.false_or];cases k with
 | zero=>rfl
 | succ j=>
   have hj:j<s.length:=by omega
   simp only[List.getElem?_eq_getElem hj];have:=(List.pairwise_iff_getElem.1 h.sep) j (j+1) hj hk (by omega);have a4:¬ s[j+1].1<s[j].2+2:=by omega
   simp[a4]
theorem NF.wholeT {t:Re} (caps:Int) (h:NF t) (hp:tpR top t):wholeG caps top t=true:=by
 induction h with
 | empty=>simp[wholeG,wholeL,formedG,kidsG]
 | set s h=>simp[wholeG,wholeL,formedG,kidsG,GG h hp.1]
 | cat kids h2 h ho ih=>
   have:=(Af caps top kids).2 fun k hk=>ih k hk (Bw.1 hp.2 k hk);simp[wholeG,formedG,kidsG,this,h2]
 | alt kids h2 h ho hr hs ih=>
   have:=(Af caps top kids).2 fun k hk=>ih k hk (Bw.1 hp.2 k hk);simp[wholeG,formedG,kidsG,this,h2]
 | rep k mn mx h h0 hn hs hm h1 h2 ih=>
   have:repG mn mx 0=true:=by
    simp only[repG,and_eq_true,decide_eq_true_eq,or_eq_true,beq_iff_eq];refine⟨⟨⟨⟨h1.1,h1.2⟩,by omega⟩,by omega⟩,?_⟩;rcases h2 with h2|h2
    ·exact .inl h2
    ·exact .inr ⟨⟨h2.1,h2.2.1⟩,h2.2.2⟩
   simp[wholeG,wholeL,formedG,kidsG,ih hp.2.1,this]
theorem NF.reg {t:Re} (h:NF t):regG t=true:=by
 have hL:∀ l:List Re,(∀ k∈l,regG k=true)->regL l=true:=fun l h=>by
  rw[DV];simp only[Bool.not_eq_true',List.any_eq_false,Bool.not_eq_true,Bool.not_eq_false'];exact fun k hk=>by simp[h k hk]
 induction h with
 | empty=>simp[regG,regL]
 | set s h=>simp[regG,regL]
 | cat kids h2 h ho ih=>simp[regG,hL kids ih]
 | alt kids h2 h ho hr hs ih=>simp[regG,hL kids ih]
 | rep k mn mx h h0 hn hs hm h1 h2 ih=>simp[regG,regL,ih]
theorem Re.depth_pos (r:Re):1<=r.depth:=by cases r;simp[Re.depth]<;>omega
theorem depthL_le {d:Nat}:∀ {l:List Re},Re.depthL l<=d↔∀ k∈l,k.depth<=d
 | []=>by simp[Re.depthL]
 | k::l=>by simp[Re.depthL,depthL_le (l:=l),Nat.max_le]
theorem Rd {r:Re}:∀ k∈r.sub,k.depth<=r.depth:=fun k hk=>by
 obtain⟨op,set,kids,kmn,kmx,md,n,neg⟩:=r;have:=depthL_le.1 (Nat.le_refl (Re.depthL kids)) k hk;simp only[Re.depth];omega
theorem Mi {op:Int}{l:List Re}{z:Re}{d:Nat} (hz:z.depth<=1+d) (h:∀ k∈l,k.depth<=d):(joinR op l z).depth<=1+d:=by
 match l,h with
 | [],_=>exact hz
 | [x],h=>have:=h x (by simp);simp only[joinR];omega
 | x::y::l,h=>have:=depthL_le.2 h;simp only[joinR,Re.depth];omega
theorem Oe {t:Re} (ho:OkD t):(nf t).depth<=t.depth:=by
 have hflat:∀ {op:Int}{l:List Re}{d:Nat},(∀ k∈l,k.depth<=d)->∀ k∈flatR op l,k.depth<=d:=fun {op l d} h k hk=>by
  obtain⟨q,hq,⟨_,e⟩|⟨_,rfl⟩⟩:=B5.1 hk
  ·have:=Rd k e;have:=h q hq;omega
  ·exact h k hq
 induction ho with
 | empty=>simp[nf,formN,nfL]
 | set s _=>simp[nf,formN,nfL]
 | cat kids _ ih=>
   have e:nf (.mk 2 [] kids 0 0 0 0 false)=catR (flatR 2 (kids.map nf)):=by simp[nf,formN,BF]
   rw[e];have h1:∀ k∈flatR 2 (kids.map nf),k.depth<=Re.depthL kids:=hflat fun k hk=>by
    obtain⟨q,hq,rfl⟩:=mem_map.1 hk;exact Nat.le_trans (ih q hq) (depthL_le.1 (Nat.le_refl _) q hq)
   unfold catR;split
   ·simp[Re.depth,Re.depthL]
   ·simp only[Re.depth];exact Mi (by simp[Re.depth,Re.depthL]) fun k hk=>h1 k (mem_filter.1 hk).1
 | alt kids _ ih=>
   have e:nf (.mk 3 [] kids 0 0 0 0 false)=altR (flatR 3 (kids.map nf)):=by simp[nf,formN,BF]
   rw[e];have h1:∀ k∈flatR 3 (kids.map nf),k.depth<=Re.depthL kids:=hflat fun k hk=>by
    obtain⟨q,hq,rfl⟩:=mem_map.1 hk;exact Nat.le_trans (ih q hq) (depthL_le.1 (Nat.le_refl _) q hq)
   generalize flatR 3 (kids.map nf)=F at *;unfold altR;simp only[Re.depth];refine Mi (by simp[Re.depth,Re.depthL]) fun k hk=>?_;rcases BJ.1 hk with e|e
   ·cases e
   ·unfold altL at e;rcases mem_append.1 e with e|e
    ·exact h1 k (mem_filter.1 e).1
    ·split at e
     ·cases e
     ·rename_i hc;have hne:spansOf F≠[]:=fun e=>hc (.inr (by rw[e];exact(Bb .nil)));cases F with
      | nil=>exact absurd rfl hne
      | cons q F=>
        have:=h1 q (.head _);have:=q.depth_pos;rw[mem_singleton.1 e];simp only[Re.depth,Re.depthL];omega
 | rep k mn mx md _ h1 h2 ih=>
   have e:nf (.mk 4 [] [k] mn mx md 0 false)=repR mn mx (nf k):=by simp[nf,formN,nfL]
   rw[e];have:(repR mn mx (nf k)).depth<=1+(nf k).depth:=by
    have:=(nf k).depth_pos;generalize nf k=q at *;obtain⟨op,set,kids,kmn,kmx,md,n,neg⟩:=q;simp only[repR];split
    ·simp[Re.depth,Re.depthL]
    ·split
     ·omega
     ·simp only[Re.depth,Re.depthL];omega
   simp only[Re.depth,Re.depthL];omega
 | cap k n _ ih=>
   have e:nf (.mk 5 [] [k] 0 0 0 n false)=nf k:=by simp[nf,formN,nfL]
   rw[e];simp only[Re.depth,Re.depthL];omega
theorem Eu {x:Int}{t q:Re} (h:OkD t) (hs:stepR x t=some q) (w:List Int):lang q w↔lang t (x::w):=by
 unfold stepR at hs;split at hs
 ·cases hs
 ·rename_i hc;simp only[not_or]at hc;obtain rfl:=Option.some.inj hs;rw[MT (Jc h).1 (by simpa using hc.1),O8 h]
theorem J3:∀ {xs:List Int}{t q:Re},StT t->runR xs t=some q->∀ w,lang q w↔lang t (xs++w)
 | [],t,q,_,hr,w=>by
   simp only[runR,Option.some.injEq]at hr;rw[hr];rfl
 | x::xs,t,q,h,hr,w=>by
   simp only[runR]at hr;cases hs:stepR x t with
   | none=>rw[hs]at hr;cases hr
   | some r=>
     rw[hs]at hr;rw[J3 (ER h hs) hr w,Eu h.nf.ok hs];rfl
theorem OM:∀ {xs:List Int}{t q:Re},StT t->runR xs t=some q->StT q
 | [],t,q,h,hr=>by
   simp only[runR,Option.some.injEq]at hr;exact hr ▸ h
 | x::xs,t,q,h,hr=>by
   simp only[runR]at hr;cases hs:stepR x t with
   | none=>rw[hs]at hr;cases hr
   | some r=>rw[hs]at hr;exact OM (ER h hs) hr
theorem F9 {t r:Re}{xs:List Int} (h:OkD t) (hs:t.size<=256) (hr:resW t xs=some r):nullG r=true↔lang t xs:=by
 unfold resW at hr;split at hr
 ·cases hr
 ·rename_i hb;have hb':badR t=false:=by simpa using hb
  have hS:=FN h hs hb';rw[E1 (OM hS hr).nf.ok,J3 hS hr [],append_nil,MT h hb']
theorem K2 {caps top:Int} (ht:top<=1114111) {t:Re} (ho:OkD t) (h:wholeG caps top t=true):wholeG caps 1114111 t=true:=by
 induction ho with
 | empty=>simp[wholeG,wholeL,formedG,kidsG]
 | set s hs=>simp[wholeG,wholeL,formedG,kidsG,GG hs fun p hp=>⟨hs.good p hp,(hs.good p hp).2.2⟩]
 | cat kids _ ih=>
   rw[wholeG,and_eq_true,Af]at h;rw[wholeG,and_eq_true,Af];exact⟨by simpa [formedG] using h.1,fun k hk=>ih k hk (h.2 k hk)⟩
 | alt kids _ ih=>
   rw[wholeG,and_eq_true,Af]at h;rw[wholeG,and_eq_true,Af];exact⟨by simpa [formedG] using h.1,fun k hk=>ih k hk (h.2 k hk)⟩
 | rep k mn mx md _ h1 h2 ih=>
   rw[wholeG,and_eq_true,Af]at h;rw[wholeG,and_eq_true,Af];refine⟨by simpa [formedG] using h.1,fun q hq=>?_⟩;rw[mem_singleton.1 hq];exact ih (h.2 k (by simp))
 | cap k n _ ih=>
   rw[wholeG,and_eq_true,Af]at h;rw[wholeG,and_eq_true,Af];refine⟨by simpa [formedG] using h.1,fun q hq=>?_⟩;rw[mem_singleton.1 hq];exact ih (h.2 k (by simp))
structure RestT (t:Re):Prop where
 ok:OkD t
 size:t.size<=256
 depth:t.depth<=24
 whole:wholeG 9 255 t=true
 reg:regG t=true
theorem RestT.chk0 {t:Re} (h:RestT t):chkP ⟨t,9,false⟩=0:=by
 have h1:¬ (256<t.size∨24<t.depth):=by have:=h.size;have:=h.depth;omega
 have h2:¬ ((9:Int)<0∨(9:Int)<9∨wholeG 9 (topI false) t=false):=by
  have:=h.whole;simp[topI,this]
 unfold chkP validP;simp only[if_neg h1,if_neg h2,h.reg];rfl
theorem RestT.chk1 {t:Re} (h:RestT t):chkP ⟨t,9,true⟩=0:=by
 have h1:¬ (256<t.size∨24<t.depth):=by have:=h.size;have:=h.depth;omega
 have h2:¬ ((9:Int)<0∨(9:Int)<9∨wholeG 9 (topI true) t=false):=by
  have:=K2 (by decide) h.ok h.whole;simp[topI,this]
 unfold chkP validP;simp only[if_neg h1,if_neg h2,h.reg];rfl
theorem RestT.of {t:Re} (h:chkP ⟨t,9,false⟩=0):RestT t:=by
 obtain⟨h1,h2,h3⟩:=HH h;unfold chkP at h;split at h
 ·rename_i hv;exact absurd h hv
 ·rename_i hv;split at h
  ·rename_i hr;have hv:validP ⟨t,9,false⟩=0:=by simpa using hv
   unfold validP at hv;split at hv
   ·cases hv
   ·rename_i h4;simp only[not_or,Nat.not_lt]at h4;exact⟨h1,h2,h4.2,h3,hr⟩
  ·cases h
theorem RestT.simple {t:Re} (h:RestT t) (hb:badR t=false):RestT (nf t):=by
 have hN:=Fa h.ok hb;exact⟨hN.ok,Nat.le_trans (MR h.ok) h.size,Nat.le_trans (Oe h.ok) h.depth,hN.wholeT 9 (Qy h.ok (Jq (by decide) h.ok h.whole)),hN.reg⟩
theorem RestT.step {t q:Re}{x:Int} (h:RestT t) (hs:stepR x t=some q):RestT q/\NF q:=by
 unfold stepR at hs;split at hs
 ·cases hs
 ·rename_i hc;simp only[not_or,Nat.not_lt]at hc;obtain rfl:=Option.some.inj hs;have hd:=(Jc (x:=x) h.ok).1;have hN:=Fa hd (by simpa using hc.1);exact⟨⟨hN.ok,hc.2.1,hc.2.2,hN.wholeT 9 (Qy hd (RG h.ok (Jq (by decide) h.ok h.whole))),hN.reg⟩,hN⟩
end Go.Ev
namespace Go.Ev
attribute [local go_sem] evAppend evBin AV.cells A8 BI bndO bnd evEq eqCells not_false_eq_true not_true_eq_false toList_some Array.size_empty length_append List.map_append tySzE List.head?_drop Nat.mul_one As A1 Am At Au Ag
theorem Mt (p:Pat) (xs:List Int):∃(b:Bool) (e:Int),wholeA p xs=.tup [.bool b,I e]:=by
 unfold wholeA;split
 ·exact⟨_,_,rfl⟩
 ·split
  ·exact⟨_,_,rfl⟩
  ·split
   ·exact⟨_,_,rfl⟩
   ·cases resW p.re xs<;>exact⟨_,_,rfl⟩
theorem MM (r:Re):∃(q:Re) (e:Int),simA r=.tup [reAV q,I e]:=by
 unfold simA;split
 ·exact⟨_,_,rfl⟩
 ·split<;>exact⟨_,_,rfl⟩
theorem EA {t:Re} (h:RestT t) {xs:List Int} (hl:xs.length<=1000) (hx:∀ x∈xs,0<=x/\x<=200):wholeA ⟨t,9,false⟩ xs=wA (resW t xs):=by
 unfold wholeA;rw[if_neg (by rw[h.chk0];simp),if_neg (by omega),if_neg];rw[Bool.not_eq_true,List.any_eq_false];intro x hxx;have:=hx x hxx;simp only[badX,topI];simp;omega
theorem all1 (t:List Int):((t.map I).all fun y=>decide ((match y with | .agg cs=>cs|x=>[x]).length=1))=true:=by
 rw[List.all_eq_true];intro y hy;obtain⟨z,_,rfl⟩:=mem_map.1 hy;rfl
theorem law5 (h14:∀ H,call Pg pol1 14 [] H=some (.bool true,H)) (l m:List Int) (hl:∀ x∈l,In64 x) (hm:∀ x∈m,In64 x) (H:List MB) :
  call Pg pol1 5 [.sl false (l.map I),.sl false (m.map I)] H=some (.bool true,H):=by
 refine AS Tryz.func5 rfl rfl rfl rfl rfl rfl (fun _=>rfl) (by simp[AV.plain,AV.plainL,AJ]) rfl ?_ H;have h6:=f6 l hl 24 (by omega);have h15:=SN m hm 9 (by omega);have hin:=OD m 9;have htl:(textI m 9).length<=9:=by unfold textI textN;simp;omega
 have hck:=Mu l 24;have hrw:=OB l 24;generalize treeI l 24=re at *;generalize textI m 9=t at *;have h17:=d17 ⟨re,9,false⟩ t (by simp only;omega) (.inl (by omega)) (by omega);have h19:=d19 re (by omega);simp only[show ((9:Nat):Int)=9 from rfl]at h15;rcases hck with hck|hck
 ·have hR:=RestT.of hck;rw[EA hR (by omega) hin]at h17;have hS:simA re=if badR re=true then .tup [reAV emptyR,I 4] else .tup [reAV (nf re),I 0]:=by
   unfold simA;rw[if_neg (by rw[hR.chk1];simp)]
  cases hw:resW re t with
  | none=>
    rw[hw]at h17;obtain⟨q,e,hq⟩:=MM re;rw[hq]at h19;unfold wA at h17;simp +contextual -implicitDefEqProofs (disch:=omega) only[Tryz.f5,dd5,go_sem,simprocAttr,mu5,↓AD,↓AC,↓AB,↓AA,h6,h15,h17,h19,h14,AH,AI,AL,t8R,d9R,t9R,d10R,length_append,append_assoc,cons_append,nil_append];exact⟨_,rfl⟩
  | some r=>
    have hb:badR re=false:=by
     unfold resW at hw;split at hw
     ·cases hw
     ·rename_i h;simpa using h
    rw[hw]at h17;rw[hS,hb,if_neg (by simp)]at h19;have hR2:=hR.simple hb;have hN:=Fa hR.ok hb;have h17b:=d17 ⟨nf re,9,false⟩ t (by have:=hR2.ok.wt65;have:=hR2.size;simp only;omega) (.inl (by omega)) (by omega);rw[EA hR2 (by omega) hin]at h17b;have hw2:resW (nf re) t=some r:=by
     rw[<- hw];unfold resW;rw[hb,(Q0 hN).1,(Q0 hN).2]
    rw[hw2]at h17b;have hlang:nullG r=true↔lang re t:=F9 hR.ok hR.size hw;simp only[wA]at h17 h17b;generalize nf re=re2 at *;generalize nullG r=want at *;simp +contextual -implicitDefEqProofs (disch:=omega) only[Tryz.f5,dd5,go_sem,simprocAttr,mu5,↓AD,↓AC,↓AB,↓AA,h6,h15,h17,h19,h17b,h14,AH,AI,AL,t8R,d9R,t9R,d10R,length_append,append_assoc,cons_append,nil_append];refine⟨fun _=>?_,fun h=>absurd rfl h⟩;refine Ft (σ:=Nat×Re) (M:=(mskOf (pol1.mask 5) (pol1.gc 5) (pol1.acts 5) 0 11)) (by rfl) (fun s=>(⟨114,[(13,I s.1),(7,.bool want),(6,.sl false (t.map I)),(5,.rf 0 1 0 0)],[.row 8 [reAV s.2] 0]⟩:St)) (fun s=>s.1<=t.length/\RestT s.2/\(want=true↔lang s.2 (t.drop s.1))) (fun s=>t.length-s.1) (0,re) ?_ ⟨Nat.zero_le _,hR,hlang⟩ _ ?_
    ·rintro⟨i,cur⟩ ⟨k1,hc,k2⟩;simp only at k1 hc k2;clear h6 h15 h17 h17b h19;have hcw:cur.wt<=16640:=by have:=hc.ok.wt65;have:=hc.size;omega
     by_cases hi:i<t.length
     ·have hi':(i:Int)<(t.length:Int):=by omega
      obtain⟨x,hx⟩:∃ x,t[i]?=some x:=⟨_,List.getElem?_eq_getElem hi⟩;have hx':(t.map I)[i]?=some (I x):=by simp[hx]
      have hxr:=hin x (List.mem_of_getElem? hx);have hdx:t.drop i=x::t.drop (i+1):=by
       rw[List.drop_eq_getElem_cons hi];congr 1;exact(List.getElem?_eq_some_iff.1 hx).2
      have hmd:((t.map I).take t.length).drop (i+1)=(t.drop (i+1)).map I:=by rw[List.take_of_length_le (by simp),List.map_drop]
      have hwi:IntKind.i64.wrap ((i:Int)+1)=((i+1:Nat):Int):=by rw[i64_in]<;>omega
      have hle:((i+1:Nat):Int)<=(t.length:Int):=by omega
      have hal1:=all1 t;have hd8:(reC cur).drop 8=[]:=List.drop_of_length_le (by rw[AH];omega);have hdl:(t.drop (i+1)).length<=9:=by simp;omega
      have h20:=d20 cur x (by omega);rw[if_neg (by rw[hc.chk1];simp),if_neg (by omega)]at h20;cases hs:stepR x cur with
      | none=>
        rw[hs]at h20;simp only[resA]at h20;have e20:=DK h20 (by simp[AV.underL,AV.under,AE _ _ (AM cur)]) (by simp[AV.underL,AV.under,AE _ _ (AM emptyR)]);have h17:=d17 ⟨emptyR,9,false⟩ (t.drop (i+1)) (by decide) (.inl (by omega)) (by omega);obtain⟨b,e,hbe⟩:=Mt ⟨emptyR,9,false⟩ (t.drop (i+1));rw[hbe]at h17;simp +contextual -implicitDefEqProofs (disch:=omega) only[Tryz.f5,dd5,go_sem,simprocAttr,mu5,↓AD,↓AC,↓AB,↓AA,hi',hx',hmd,hwi,hle,e20,h17,h14,AH,AI,AL,t8R,d9R,t9R,d10R,length_append,append_assoc,cons_append,nil_append];exact⟨rfl,rfl,rfl,hal1,_,rfl⟩
      | some q=>
        rw[hs]at h20;simp only[resA]at h20;have e20:=DK h20 (by simp[AV.underL,AV.under,AE _ _ (AM cur)]) (by simp[AV.underL,AV.under,AE _ _ (AM q)]);obtain⟨hRq,hNq⟩:=hc.step hs;have h17:=d17 ⟨q,9,false⟩ (t.drop (i+1)) (by have:=hRq.ok.wt65;have:=hRq.size;simp only;omega) (.inl (by omega)) (by omega);rw[EA hRq (by omega) fun x hx=>hin x (List.mem_of_mem_drop hx)]at h17;cases hw:resW q (t.drop (i+1)) with
        | none=>
          rw[hw]at h17;simp only[wA]at h17;simp +contextual -implicitDefEqProofs (disch:=omega) only[Tryz.f5,dd5,go_sem,simprocAttr,mu5,↓AD,↓AC,↓AB,↓AA,hi',hx',hmd,hwi,hle,e20,h17,h14,AH,AI,AL,t8R,d9R,t9R,d10R,length_append,append_assoc,cons_append,nil_append];exact⟨rfl,rfl,rfl,hal1,_,rfl⟩
        | some r2=>
          rw[hw]at h17;simp only[wA]at h17;have hl2:=F9 hRq.ok hRq.size hw;rw[Eu hc.ok hs,<- hdx,<- k2]at hl2;have he:nullG r2=want:=by
           cases h1:nullG r2<;>cases h2:want<;>simp_all
          rw[he]at h17;simp +contextual -implicitDefEqProofs (disch:=omega) only[Tryz.f5,dd5,go_sem,simprocAttr,mu5,↓AD,↓AC,↓AB,↓AA,hd8,hi',hx',hmd,hwi,hle,e20,h17,h14,AH,AI,AL,t8R,d9R,t9R,d10R,length_append,append_assoc,cons_append,nil_append];refine⟨rfl,rfl,rfl,hal1,fun _=>⟨(i+1,q),⟨by simp only;omega,hRq,by rw[k2,hdx];exact(Eu hc.ok hs _).symm⟩,by simp only;omega,?_⟩,fun h=>absurd rfl h⟩;exact AR (n:=1) rfl rfl (by rfl) (by rfl) (by simp[AV.underL,AV.under,AE _ _ (AJ t)]) (by simp[MB.under,AV.underL,AV.under,AE _ _ (AM q)])
     ·have hi':¬ (i:Int)<(t.length:Int):=by omega
      have h21:=f105 cur (by omega) 9 255 hc.whole;have he:nullG cur=want:=by
       rw[List.drop_eq_nil_of_le (by omega),<- E1 hc.ok]at k2;cases h1:nullG cur<;>cases h2:want<;>simp_all
      rw[he]at h21;simp +contextual -implicitDefEqProofs (disch:=omega) only[Tryz.f5,dd5,go_sem,simprocAttr,mu5,↓AD,↓AC,↓AB,↓AA,hi',h21,h14,AH,AI,AL,t8R,d9R,t9R,d10R,length_append,append_assoc,cons_append,nil_append];exact⟨fun _=>⟨_,rfl⟩,fun h=>absurd rfl h⟩
    ·exact AR (n:=1) rfl rfl (by rfl) (by rfl) (by simp[AV.underL,AV.under,AE _ _ (AJ t)]) (by simp[MB.under,AV.underL,AV.under,AE _ _ (AM re)])
 ·have hW:wholeA ⟨re,9,false⟩ t=.tup [.bool false,I 4]:=by
   unfold wholeA;rw[hck,if_pos (by decide)]
  rw[hW]at h17;obtain⟨q,e,hq⟩:=MM re;rw[hq]at h19;simp +contextual -implicitDefEqProofs (disch:=omega) only[Tryz.f5,dd5,go_sem,simprocAttr,mu5,↓AD,↓AC,↓AB,↓AA,h6,h15,h17,h19,h14,AH,AI,AL,t8R,d9R,t9R,d10R,length_append,append_assoc,cons_append,nil_append];exact⟨_,rfl⟩
end Go.Ev
namespace Go.Ev
theorem P6 (l:List Int) (hl:∀ x∈l,In64 x) (m:List Int) (hm:∀ x∈m,In64 x) (H:List MB) :
 call Pg pol1 5 [.sl false (l.map I),.sl false (m.map I)] H=some (.bool true,H):=law5 d14 l m hl hm H
end Go.Ev
