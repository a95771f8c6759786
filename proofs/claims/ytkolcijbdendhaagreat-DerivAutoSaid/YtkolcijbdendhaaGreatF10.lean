/- What functions of the program compute; no further conditions. -/
import Derived.Test.YtkolcijbdendhaaGreatF09
set_option linter.unusedVariables false
set_option linter.unusedSimpArgs false
open List (mem_cons pairwise_cons take_add_one)
open Go.Proofs Go.RowKit Go.IntWalk
set_option maxHeartbeats 4000000
set_option maxRecDepth 100000
namespace Go.Ev
abbrev I (n:Int):AV:=.int .i64 n
theorem AG (l:List Int):AV.plainL (l.map I)=true:=by
 induction l with
 | nil=>rfl
 | cons a l ih=>simp[AV.plainL,ih];rfl
abbrev spanAV (p:Int×Int):AV:=.agg [I p.1,I p.2]
theorem AF (l:List (Int×Int)):AV.plainL (l.map spanAV)=true:=by
 induction l with
 | nil=>rfl
 | cons a l ih=>simp[AV.plainL,ih];rfl
structure Ins where
 op:Int
 x:Int
 y:Int
 n:Int
 set:List (Int×Int)
abbrev insAV (i:Ins):AV:=.agg [I i.op,I i.x,I i.y,I i.n,.sl false (i.set.map spanAV)]
structure Prg where
 ins:List Ins
 caps:Int
 runes:Bool
abbrev prgAV (g:Prg):AV:=.agg [.sl false (g.ins.map insAV),I g.caps,.bool g.runes]
theorem AL (l:List Ins):AV.plainL (l.map insAV)=true:=by
 induction l with
 | nil=>rfl
 | cons a l ih=>simp[AV.plainL,AV.plain,insAV,ih,AF]
theorem AM (g:Prg):AV.plain (prgAV g)=true:=by
 simp[prgAV,AV.plain,AV.plainL,AL]
theorem EA {a:Nat} (h:a<=4611686018427387904):IntKind.i64.wrap ((a:Int)+1)=((a+1:Nat):Int):=by rw[i64_in];rfl;omega
inductive Re where
 | mk (op:Int) (set:List (Int×Int)) (kids:List Re) (mn mx md n:Int) (neg:Bool)
mutual
def reC:Re->List AV
 | .mk op set kids mn mx md n neg=>[I op,.sl false (set.map spanAV),.sl false (reL kids),I mn,I mx,I md,I n,.bool neg]
def reL:List Re->List AV
 | []=>[]
 | k::ks=>.agg (reC k)::reL ks
end
abbrev reAV (r:Re):AV:=.agg (reC r)
theorem Gc:∀ l:List Re,reL l=l.map reAV
 | []=>rfl
 | k::ks=>by simp[reL,Gc ks]
theorem Ab {op:Int}{set:List (Int×Int)}{kids:List Re}{mn mx md n:Int}{neg:Bool} :
  reC (.mk op set kids mn mx md n neg)=[I op,.sl false (set.map spanAV),.sl false (kids.map reAV),I mn,I mx,I md,I n,.bool neg]:=by
 rw[reC,Gc]
theorem AK (r:Re):(reC r).length=8:=by cases r;simp[reC]
theorem AJ (r:Re):(reC r).take 8=reC r:=List.take_of_length_le (by rw[AK];omega)
theorem AP (r:Re):(reC r).all AV.ok=true:=by cases r;simp[reC,AV.ok]
mutual
theorem AO:∀ r:Re,AV.plainL (reC r)=true
 | .mk op set kids mn mx md n neg=>by
   have h:=FF kids;simp[reC,AV.plainL,AV.plain,AF,h]
theorem FF:∀ l:List Re,AV.plainL (reL l)=true
 | []=>rfl
 | k::ks=>by
   have h1:=AO k;have h2:=FF ks;simp[reL,AV.plainL,AV.plain,h1,h2]
end
theorem AH (l:List Re):AV.plainL (l.map reAV)=true:=by rw[<- Gc];exact FF l
mutual
def Re.wt:Re->Nat
 | .mk _ set kids _ _ _ _ _=>1+set.length+Re.wtL kids
def Re.wtL:List Re->Nat
 | []=>0
 | k::ks=>Re.wt k+Re.wtL ks
end
mutual
def Re.size:Re->Nat
 | .mk _ _ kids _ _ _ _ _=>1+Re.sizeL kids
def Re.sizeL:List Re->Nat
 | []=>0
 | k::ks=>Re.size k+Re.sizeL ks
end
mutual
def Re.depth:Re->Nat
 | .mk _ _ kids _ _ _ _ _=>1+Re.depthL kids
def Re.depthL:List Re->Nat
 | []=>0
 | k::ks=>max (Re.depth k) (Re.depthL ks)
end
theorem Re.wt_pos (r:Re):1<=r.wt:=by cases r;simp[Re.wt]<;>omega
theorem Re.wtL_len:∀ l:List Re,l.length<=Re.wtL l
 | []=>Nat.le_refl _
 | k::ks=>by
   have:=Re.wt_pos k;have:=Re.wtL_len ks;simp[Re.wtL]<;>omega
theorem Re.wtL_mem:∀ {l:List Re}{k:Re},k∈l->k.wt<=Re.wtL l
 | x::l,k,h=>by
   rcases mem_cons.1 h with e|e
   ·rw[e];simp[Re.wtL]
   ·have:=Re.wtL_mem e;simp[Re.wtL]<;>omega
theorem Re.size_pos (r:Re):1<=r.size:=by cases r;simp[Re.size]
mutual
theorem Re.size_wt:∀ r:Re,r.size<=r.wt
 | .mk op set kids mn mx md n neg=>by
   have:=Re.sizeL_wt kids;simp[Re.size,Re.wt]<;>omega
theorem Re.sizeL_wt:∀ l:List Re,Re.sizeL l<=Re.wtL l
 | []=>Nat.le_refl _
 | k::ks=>by
   have h1:=Re.size_wt k;have h2:=Re.sizeL_wt ks;simp[Re.sizeL,Re.wtL]<;>omega
end
mutual
theorem Re.depth_size:∀ r:Re,r.depth<=r.size
 | .mk op set kids mn mx md n neg=>by
   have:=Re.depthL_size kids;simp[Re.size,Re.depth]<;>omega
theorem Re.depthL_size:∀ l:List Re,Re.depthL l<=Re.sizeL l
 | []=>Nat.le_refl _
 | k::ks=>by
   have h1:=Re.depth_size k;have h2:=Re.depthL_size ks;simp[Re.sizeL,Re.depthL]<;>omega
end
theorem Re.sizeL_append:∀(a b:List Re),Re.sizeL (a++b)=Re.sizeL a+Re.sizeL b
 | [],b=>by simp[Re.sizeL]
 | k::ks,b=>by simp[Re.sizeL,Re.sizeL_append ks b]<;>omega
theorem Re.depthL_append:∀(a b:List Re),Re.depthL (a++b)=max (Re.depthL a) (Re.depthL b)
 | [],b=>by simp[Re.depthL]
 | k::ks,b=>by simp[Re.depthL,Re.depthL_append ks b]<;>omega
theorem Re.sizeL_take {l:List Re}{i:Nat}{k:Re} (h:l[i]?=some k):Re.sizeL (l.take (i+1))=Re.sizeL (l.take i)+k.size:=by
 rw[take_add_one,h,Re.sizeL_append];simp[Re.sizeL]
theorem Re.depthL_take {l:List Re}{i:Nat}{k:Re} (h:l[i]?=some k):Re.depthL (l.take (i+1))=max (Re.depthL (l.take i)) k.depth:=by
 rw[take_add_one,h,Re.depthL_append];simp[Re.depthL]
theorem Re.sizeL_le {l:List Re}{i:Nat}:Re.sizeL (l.take i)<=Re.sizeL l:=by
 conv=>rhs;rw[<- List.take_append_drop i l,Re.sizeL_append]
 omega
theorem Re.depthL_le {l:List Re}{i:Nat}:Re.depthL (l.take i)<=Re.depthL l:=by
 conv=>rhs;rw[<- List.take_append_drop i l,Re.depthL_append]
 omega
def badS (l:List (Int×Int)) (top:Int) (i:Nat):Bool:=
 match l[i]? with
 | some p=>decide (p.1<0)||decide (p.2<p.1)||decide (top<p.2)||(match i with
   | 0=>false
   | k+1=>match l[k]? with
     | some q=>decide (p.1<q.2+2)
     | none=>false)
 | none=>false
def spansG (l:List (Int×Int)) (top:Int):Bool:=decide (l.length<=64)&&!(List.range l.length).any (badS l top)
theorem Fl {l:List (Int×Int)}{top:Int} (h:64<l.length):spansG l top=false:=by
 have:¬ l.length<=64:=by omega
 simp[spansG,this]
theorem DK {l:List (Int×Int)}{top:Int}{i:Nat} (hi:i<l.length) (h:badS l top i=true):spansG l top=false:=by
 have:(List.range l.length).any (badS l top)=true:=List.any_eq_true.2 ⟨i,List.mem_range.2 hi,h⟩;simp[spansG,this]
theorem Db {l:List (Int×Int)}{top:Int} (hl:l.length<=64) (h:∀ k,k<l.length->badS l top k=false):spansG l top=true:=by
 have:(List.range l.length).any (badS l top)=false:=by
  rw[List.any_eq_false];intro k hk;rw[h k (List.mem_range.1 hk)];simp
 simp[spansG,hl,this]
def kidsG (op:Int) (n:Nat):Bool:=
 if op=2∨op=3 then decide (2<=n) else if op=4∨op=5∨op=7∨op=8∨op=9 then n==1 else if op=10 then n==2 else n==0
def repG (mn mx md:Int):Bool:=decide (0<=mn)&&decide (mn<=32)&&decide (0<=md)&&decide (md<=2)&&(mx == -1||(decide (1<=mx)&&decide (mx<=32)&&decide (mn<=mx)))
def formedG (caps top:Int):Re->Bool
 | .mk op set kids mn mx md n neg=>
   decide (0<=op)&&decide (op<=11)&&kidsG op kids.length&&(if op=1 then spansG set top else set.length==0) &&
   (if op=4 then repG mn mx md else mn==0&&mx==0&&md==0) &&
   (if op=5∨op=6∨op=10 then decide (1<=n)&&decide (n<=caps) else if op=11 then decide (0<=n)&&decide (n<=5) else n==0) &&
   (!neg||op==7||op==8)
mutual
def wholeG (caps top:Int):Re->Bool
 | .mk op set kids mn mx md n neg=>formedG caps top (.mk op set kids mn mx md n neg)&&wholeL caps top kids
def wholeL (caps top:Int):List Re->Bool
 | []=>true
 | k::ks=>wholeG caps top k&&wholeL caps top ks
end
theorem CC (caps top:Int):∀ l:List Re,wholeL caps top l=true↔∀ k∈l,wholeG caps top k=true
 | []=>by simp[wholeL]
 | k::ks=>by simp[wholeL,CC caps top ks]
theorem D9 (caps top:Int):∀ a b:List Re,wholeL caps top (a++b)=(wholeL caps top a&&wholeL caps top b)
 | [],b=>by simp[wholeL]
 | k::ks,b=>by simp[wholeL,D9 caps top ks b,Bool.and_assoc]
theorem DZ {caps top:Int}{l:List Re}{i:Nat}{k:Re} (h:l[i]?=some k):wholeL caps top (l.take (i+1))=(wholeL caps top (l.take i)&&wholeG caps top k):=by
 rw[take_add_one,h,D9];simp[wholeL]
mutual
def nullG:Re->Bool
 | .mk op set kids mn mx md n neg=>
   if op=1 then false else if op=2 then nullAll kids else if op=3∨op=10 then nullAny kids else if op=4 then decide (mn<=0)||nullHd kids else if op=5∨op=9 then nullHd kids else true
def nullAll:List Re->Bool
 | []=>true
 | k::ks=>nullG k&&nullAll ks
def nullAny:List Re->Bool
 | []=>false
 | k::ks=>nullG k||nullAny ks
def nullHd:List Re->Bool
 | []=>false
 | k::_=>nullG k
end
theorem GV:∀ {a b:List (Int×Int)},a.map spanAV=b.map spanAV->a=b
 | [],[],_=>rfl
 | [],_::_,h=>by simp at h
 | _::_,[],h=>by simp at h
 | x::a,y::b,h=>by
   simp only[List.map_cons,List.cons.injEq,AV.agg.injEq,AV.int.injEq,true_and,and_true]at h;rw[GV h.2];obtain⟨x1,x2⟩:=x;obtain⟨y1,y2⟩:=y;simp only at h;rw[h.1.1,h.1.2]
mutual
theorem QA:∀ {a b:Re},reC a=reC b->a=b
 | .mk op set kids mn mx md n neg,.mk op' set' kids' mn' mx' md' n' neg',h=>by
   simp only[reC,List.cons.injEq,AV.sl.injEq,AV.int.injEq,AV.bool.injEq,true_and,and_true]at h;obtain⟨h1,h2,h3,h4,h5,h6,h7,h8⟩:=h;rw[h1,GV h2,Jb h3,h4,h5,h6,h7,h8]
theorem Jb:∀ {a b:List Re},reL a=reL b->a=b
 | [],[],_=>rfl
 | [],_::_,h=>by simp[reL]at h
 | _::_,[],h=>by simp[reL]at h
 | x::a,y::b,h=>by
   simp only[reL,List.cons.injEq,AV.agg.injEq]at h;rw[QA h.1,Jb h.2]
end
end Go.Ev
namespace Go.Ev
def neg01 (b:Bool):Int:=if b then 1 else 0
def lexI:List Int->List Int->Int
 | x::l,y::m=>if x<y then -1 else if y<x then 1 else lexI l m
 | _,_=>0
theorem Ig:∀ l:List Int,lexI l l=0
 | []=>rfl
 | x::l=>by simp[lexI,Ig l]
theorem Ke:∀ l m:List Int,lexI l m = -1∨lexI l m=0∨lexI l m=1
 | [],_=>by simp[lexI]
 | _::_,[]=>by simp[lexI]
 | x::l,y::m=>by
   rw[lexI];split
   ·simp
   ·split
    ·simp
    ·exact Ke l m
theorem Ih:∀ l m:List Int,lexI m l = - lexI l m
 | [],[]=>rfl
 | [],_::_=>rfl
 | _::_,[]=>rfl
 | x::l,y::m=>by
   rw[lexI,lexI];by_cases h1:x<y
   ·rw[if_pos h1,if_neg (by omega),if_pos h1];rfl
   ·by_cases h2:y<x
    ·rw[if_pos h2,if_neg h1,if_pos h2]
    ·rw[if_neg h2,if_neg h1,if_neg h1,if_neg h2,Ih l m]
theorem If:∀ {l m:List Int},l.length=m.length->lexI l m=0->l=m
 | [],[],_,_=>rfl
 | x::l,y::m,hl,h=>by
   rw[lexI]at h;by_cases h1:x<y
   ·rw[if_pos h1]at h;omega
   ·by_cases h2:y<x
    ·rw[if_neg h1,if_pos h2]at h;omega
    ·rw[if_neg h1,if_neg h2]at h;rw[show x=y by omega,If (by simpa using hl) h]
theorem Gz:∀ {l m n:List Int},lexI l m = -1->lexI m n = -1->lexI l n = -1
 | [],m,n,h,_=>by simp[lexI]at h
 | _::_,[],n,h,_=>by simp[lexI]at h
 | _::_,_::_,[],_,h=>by simp[lexI]at h
 | x::l,y::m,z::n,h1,h2=>by
   rw[lexI]at h1 h2 |-;by_cases a1:x<y
   ·by_cases b1:y<z
    ·rw[if_pos (by omega)]
    ·rw[if_neg b1]at h2;by_cases b2:z<y
     ·rw[if_pos b2]at h2;omega
     ·rw[if_pos (by omega)]
   ·rw[if_neg a1]at h1;by_cases a2:y<x
    ·rw[if_pos a2]at h1;omega
    ·rw[if_neg a2]at h1;by_cases b1:y<z
     ·rw[if_pos (by omega)]
     ·rw[if_neg b1]at h2;by_cases b2:z<y
      ·rw[if_pos b2]at h2;omega
      ·rw[if_neg b2]at h2;rw[if_neg (by omega),if_neg (by omega)];exact Gz h1 h2
def Re.op:Re->Int | .mk op _ _ _ _ _ _ _=>op
def Re.set:Re->List (Int×Int) | .mk _ set _ _ _ _ _ _=>set
def Re.sub:Re->List Re | .mk _ _ kids _ _ _ _ _=>kids
def nodeK:Re->List Int
 | .mk op set kids mn mx md n neg=>op::(set.length:Int)::(set.flatMap (fun p=>[p.1,p.2])++[mn,mx,md,n,neg01 neg,(kids.length:Int)])
theorem BG:∀ l:List (Int×Int),(l.flatMap fun p=>[p.1,p.2]).length=2*l.length
 | []=>rfl
 | p::l=>by rw[List.flatMap_cons,List.length_append,BG l];simp;omega
theorem HE:∀ {l m:List (Int×Int)},l.length=m.length->(l.flatMap fun p=>[p.1,p.2])=(m.flatMap fun p=>[p.1,p.2])->l=m
 | [],[],_,_=>rfl
 | [],_::_,h,_=>by simp at h
 | _::_,[],h,_=>by simp at h
 | p::l,q::m,hl,h=>by
   simp only[List.flatMap_cons,List.cons_append,List.nil_append,List.cons.injEq]at h;obtain⟨h1,h2,h3⟩:=h;rw[HE (by simpa using hl) h3];obtain⟨p1,p2⟩:=p;obtain⟨q1,q2⟩:=q;simp only at h1 h2;rw[h1,h2]
theorem DA {a b:Re} (h:lexI (nodeK a) (nodeK b)=0):nodeK a=nodeK b:=by
 obtain⟨op,set,kids,mn,mx,md,n,neg⟩:=a;obtain⟨op',set',kids',mn',mx',md',n',neg'⟩:=b;refine If ?_ h;simp only[nodeK]at h |-;rw[lexI]at h;by_cases a1:op<op'
 ·rw[if_pos a1]at h;omega
 ·rw[if_neg a1]at h;by_cases a2:op'<op
  ·rw[if_pos a2]at h;omega
  ·rw[if_neg a2,lexI]at h;by_cases b1:(set.length:Int)<set'.length
   ·rw[if_pos b1]at h;omega
   ·rw[if_neg b1]at h;by_cases b2:(set'.length:Int)<set.length
    ·rw[if_pos b2]at h;omega
    ·have:set.length=set'.length:=by omega
     simp only[List.length_cons,List.length_append,BG,List.length_nil,this]
theorem Je {op op':Int}{set set':List (Int×Int)}{kids kids':List Re}{mn mn' mx mx' md md' n n':Int}{neg neg':Bool} (h:nodeK (.mk op set kids mn mx md n neg)=nodeK (.mk op' set' kids' mn' mx' md' n' neg')) :
  op=op'/\set=set'/\kids.length=kids'.length/\mn=mn'/\mx=mx'/\md=md'/\n=n'/\neg=neg':=by
 simp only[nodeK,List.cons.injEq]at h;obtain⟨h1,h2,h3⟩:=h;have hl:set.length=set'.length:=by omega
 have h4:=List.append_inj h3 (by rw[BG,BG,hl]);obtain⟨h5,h6⟩:=h4;simp only[List.cons.injEq,and_true]at h6;obtain⟨e1,e2,e3,e4,e5,e6⟩:=h6;refine⟨h1,HE hl h5,by omega,e1,e2,e3,e4,?_⟩;cases neg<;>cases neg'<;>simp[neg01]at e5<;>rfl
mutual
def cmpR:Re->Re->Int
 | .mk op set kids mn mx md n neg,b=>if lexI (nodeK (.mk op set kids mn mx md n neg)) (nodeK b)≠0 then lexI (nodeK (.mk op set kids mn mx md n neg)) (nodeK b) else cmpL kids b.sub
def cmpL:List Re->List Re->Int
 | k::l,k'::l'=>if cmpR k k'≠0 then cmpR k k' else cmpL l l'
 | [],_=>0
 | _::_,[]=>0
end
theorem J1 (a b:Re):cmpR a b=if lexI (nodeK a) (nodeK b)≠0 then lexI (nodeK a) (nodeK b) else cmpL a.sub b.sub:=by
 obtain⟨op,set,kids,mn,mx,md,n,neg⟩:=a;rw[cmpR];rfl
mutual
theorem Cg:∀ a:Re,cmpR a a=0
 | .mk op set kids mn mx md n neg=>by
   rw[cmpR,Ig,if_neg (by simp)];exact JD kids
theorem JD:∀ l:List Re,cmpL l l=0
 | []=>by simp[cmpL]
 | k::l=>by rw[cmpL,Cg k,if_neg (by simp),JD l]
end
mutual
theorem BN:∀ {a b:Re},cmpR a b=0->a=b
 | .mk op set kids mn mx md n neg,.mk op' set' kids' mn' mx' md' n' neg',h=>by
   rw[cmpR]at h;by_cases h1:lexI (nodeK (.mk op set kids mn mx md n neg)) (nodeK (.mk op' set' kids' mn' mx' md' n' neg'))=0
   ·rw[if_neg (by simpa using h1)]at h;obtain⟨e1,e2,e3,e4,e5,e6,e7,e8⟩:=Je (DA h1);have:=JC e3 h;rw[e1,e2,this,e4,e5,e6,e7,e8]
   ·rw[if_pos h1]at h;exact absurd h h1
theorem JC:∀ {l m:List Re},l.length=m.length->cmpL l m=0->l=m
 | [],[],_,_=>rfl
 | [],_::_,h,_=>by simp at h
 | _::_,[],h,_=>by simp at h
 | k::l,k'::l',hl,h=>by
   rw[cmpL]at h;by_cases h1:cmpR k k' = 0
   ·rw[if_neg (by simpa using h1)]at h;rw[BN h1,JC (by simpa using hl) h]
   ·rw[if_pos h1]at h;exact absurd h h1
end
mutual
theorem CB:∀ a b:Re,cmpR a b = -1∨cmpR a b=0∨cmpR a b=1
 | .mk op set kids mn mx md n neg,b=>by
   rw[cmpR];split
   ·exact Ke _ _
   ·exact K5 _ _
theorem K5:∀ l m:List Re,cmpL l m = -1∨cmpL l m=0∨cmpL l m=1
 | [],_=>by simp[cmpL]
 | _::_,[]=>by simp[cmpL]
 | k::l,k'::l'=>by
   rw[cmpL];split
   ·exact CB _ _
   ·exact K5 _ _
end
mutual
theorem Bv:∀ a b:Re,cmpR b a = - cmpR a b
 | .mk op set kids mn mx md n neg,.mk op' set' kids' mn' mx' md' n' neg'=>by
   rw[cmpR,cmpR,Ih (nodeK (.mk op set kids mn mx md n neg)) (nodeK (.mk op' set' kids' mn' mx' md' n' neg'))];by_cases h1:lexI (nodeK (.mk op set kids mn mx md n neg)) (nodeK (.mk op' set' kids' mn' mx' md' n' neg'))=0
   ·rw[if_neg (by omega),if_neg (by omega)];exact JE kids kids'
   ·rw[if_pos (by omega),if_pos (by omega)]
theorem JE:∀ l m:List Re,cmpL m l = - cmpL l m
 | [],[]=>by simp[cmpL]
 | [],_::_=>by simp[cmpL]
 | _::_,[]=>by simp[cmpL]
 | k::l,k'::l'=>by
   rw[cmpL,cmpL,Bv k k'];by_cases h1:cmpR k k' = 0
   ·rw[if_neg (by omega),if_neg (by omega)];exact JE l l'
   ·rw[if_pos (by omega),if_pos (by omega)]
end
mutual
theorem CJ:∀ {a b c:Re},cmpR a b = -1->cmpR b c = -1->cmpR a c = -1
 | .mk op set kids mn mx md n neg,b,c,h1,h2=>by
   rw[cmpR]at h1 |-;rw[J1]at h2;generalize hA:Re.mk op set kids mn mx md n neg=A at h1 |-;by_cases g1:lexI (nodeK A) (nodeK b)=0
   ·rw[if_neg (by simpa using g1)]at h1;have e1:=DA g1;rw[e1];by_cases g2:lexI (nodeK b) (nodeK c)=0
    ·rw[if_neg (by simpa using g2)]at h2;rw[if_neg (by simpa using g2)];exact HZ h1 h2
    ·rw[if_pos g2]at h2 |-;exact h2
   ·rw[if_pos g1]at h1;by_cases g2:lexI (nodeK b) (nodeK c)=0
    ·rw[<- DA g2,if_pos g1];exact h1
    ·rw[if_pos g2]at h2;have:=Gz h1 h2;rw[if_pos (by omega)];exact this
theorem HZ:∀ {l m n:List Re},cmpL l m = -1->cmpL m n = -1->cmpL l n = -1
 | [],_,_,h,_=>by simp[cmpL]at h
 | _::_,[],_,h,_=>by simp[cmpL]at h
 | _::_,_::_,[],_,h=>by simp[cmpL]at h
 | x::l,y::m,z::n,h1,h2=>by
   rw[cmpL]at h1 h2 |-;by_cases g1:cmpR x y=0
   ·rw[if_neg (by simpa using g1)]at h1;rw[BN g1];by_cases g2:cmpR y z=0
    ·rw[if_neg (by simpa using g2)]at h2;rw[if_neg (by simpa using g2)];exact HZ h1 h2
    ·rw[if_pos g2]at h2 |-;exact h2
   ·rw[if_pos g1]at h1;by_cases g2:cmpR y z=0
    ·rw[<- BN g2,if_pos g1];exact h1
    ·rw[if_pos g2]at h2;have:=CJ h1 h2;rw[if_pos (by omega)];exact this
end
def ltR (a b:Re):Prop:=cmpR a b = -1
theorem GJ {a:Re}:¬ ltR a a:=by unfold ltR;rw[Cg];omega
theorem QR (a b:Re):ltR a b∨a=b∨ltR b a:=by
 unfold ltR;rcases CB a b with h|h|h
 ·exact .inl h
 ·exact .inr (.inl (BN h))
 ·exact .inr (.inr (by rw[Bv a b,h]))
theorem NN {a b:Re} (h:ltR a b):¬ ltR b a:=fun g=>GJ (CJ h g)
theorem Du:∀ {l m:List Re},l.Pairwise ltR->m.Pairwise ltR->(∀ x,x∈l↔x∈m)->l=m
 | [],[],_,_,_=>rfl
 | [],y::m,_,_,h=>by have:=(h y).2 (by simp);simp at this
 | x::l,[],_,_,h=>by have:=(h x).1 (by simp);simp at this
 | x::l,y::m,hl,hm,h=>by
   obtain⟨h1,h2⟩:=pairwise_cons.1 hl;obtain⟨h3,h4⟩:=pairwise_cons.1 hm;have e:x=y:=by
    rcases mem_cons.1 ((h x).1 (by simp)) with e|g
    ·exact e
    ·rcases mem_cons.1 ((h y).2 (by simp)) with e|g'
     ·exact e.symm
     ·exact absurd (h3 x g) (NN (h1 y g'))
   subst e;rw[Du h2 h4 fun z=>?_];constructor
   ·intro hz;rcases mem_cons.1 ((h z).1 (by simp[hz])) with e|g
    ·subst e;exact absurd (h1 z hz) GJ
    ·exact g
   ·intro hz;rcases mem_cons.1 ((h z).2 (by simp[hz])) with e|g
    ·subst e;exact absurd (h3 z hz) GJ
    ·exact g
def putR:List Re->Re->List Re
 | [],r=>[r]
 | x::l,r=>if cmpR x r = -1 then x::putR l r else if cmpR x r=0 then x::l else r::x::l
theorem Gf:∀ {l:List Re}{r x:Re},x∈putR l r↔x∈l∨x=r
 | [],r,x=>by simp[putR]
 | y::l,r,x=>by
   rw[putR];split
   ·simp only[mem_cons,Gf (l:=l)];constructor
    ·rintro(h|h|h)
     ·exact .inl (.inl h)
     ·exact .inl (.inr h)
     ·exact .inr h
    ·rintro((h|h)|h)
     ·exact .inl h
     ·exact .inr (.inl h)
     ·exact .inr (.inr h)
   ·split
    ·rename_i h1 h2;have:=BN h2;subst this;simp only[mem_cons];constructor
     ·exact fun h=>.inl h
     ·rintro(h|h)
      ·exact h
      ·exact .inl h
    ·simp only[mem_cons];constructor
     ·rintro(h|h|h)
      ·exact .inr h
      ·exact .inl (.inl h)
      ·exact .inl (.inr h)
     ·rintro((h|h)|h)
      ·exact .inr (.inl h)
      ·exact .inr (.inr h)
      ·exact .inl h
theorem Fp:∀ {l:List Re}{r:Re},l.Pairwise ltR->(putR l r).Pairwise ltR
 | [],r,_=>by simp[putR]
 | y::l,r,h=>by
   obtain⟨h1,h2⟩:=pairwise_cons.1 h;rw[putR];split
   ·rename_i g;refine pairwise_cons.2 ⟨fun x hx=>?_,Fp h2⟩;rcases Gf.1 hx with e|e
    ·exact h1 x e
    ·subst e;exact g
   ·split
    ·exact h
    ·rename_i g1 g2;have g3:ltR r y:=by
      rcases QR y r with e|e|e
      ·exact absurd e g1
      ·subst e;exact absurd (Cg _) g2
      ·exact e
     refine pairwise_cons.2 ⟨fun x hx=>?_,h⟩;rcases mem_cons.1 hx with e|e
     ·subst e;exact g3
     ·exact CJ g3 (h1 x e)
def putAll (l:List Re) (xs:List Re):List Re:=xs.foldl putR l
theorem CE:∀ {xs l:List Re}{x:Re},x∈putAll l xs↔x∈l∨x∈xs
 | [],l,x=>by simp[putAll]
 | y::xs,l,x=>by
   show x∈putAll (putR l y) xs↔_;rw[CE,Gf,mem_cons];constructor
   ·rintro((h|h)|h)
    ·exact .inl h
    ·exact .inr (.inl h)
    ·exact .inr (.inr h)
   ·rintro(h|h|h)
    ·exact .inl (.inl h)
    ·exact .inl (.inr h)
    ·exact .inr h
theorem Bx:∀ {xs l:List Re},l.Pairwise ltR->(putAll l xs).Pairwise ltR
 | [],l,h=>h
 | y::xs,l,h=>Bx (xs:=xs) (Fp h)
def compactR:List Re->List Re
 | []=>[]
 | [x]=>[x]
 | x::y::l=>if cmpR x y=0 then compactR (x::l) else x::compactR (y::l)
termination_by l=>l.length
end Go.Ev
namespace Go.Ev
def leR (a b:Re):Bool:=decide (cmpR a b<=0)
theorem Ii (a b c:Re) (h1:leR a b=true) (h2:leR b c=true):leR a c=true:=by
 simp only[leR,decide_eq_true_eq]at *;rcases CB a b with e1|e1|e1
 ·rcases CB b c with e2|e2|e2
  ·rw[CJ e1 e2];omega
  ·rw[<- BN e2];omega
  ·omega
 ·rw[BN e1];exact h2
 ·omega
theorem NR (a b:Re):(leR a b||leR b a)=true:=by
 simp only[leR,Bool.or_eq_true,decide_eq_true_eq];have:=Bv a b;omega
def sortR (l:List Re):List Re:=l.mergeSort leR
theorem DL (l:List Re):(sortR l).Perm l:=List.mergeSort_perm l leR
theorem Ek (l:List Re):(sortR l).Pairwise fun a b=>cmpR a b<=0:=by
 have:=List.pairwise_mergeSort Ii NR l;exact this.imp fun h=>by simpa [leR] using h
theorem C8 (l:List Re):(sortR l).length=l.length:=(DL l).length_eq
theorem IN:∀ {l m:List Re},l.Pairwise (fun a b=>cmpR a b<=0)->m.Pairwise (fun a b=>cmpR a b<=0)->l.Perm m->l=m
 | [],m,_,_,h=>(List.nil_perm.1 h).symm
 | x::l,[],_,_,h=>by simpa using h.length_eq
 | x::l,y::m,hl,hm,h=>by
   obtain⟨h1,h2⟩:=pairwise_cons.1 hl;obtain⟨h3,h4⟩:=pairwise_cons.1 hm;have e:x=y:=by
    rcases mem_cons.1 (h.subset (List.mem_cons_self (a:=x) (l:=l))) with e|g
    ·exact e
    ·rcases mem_cons.1 (h.symm.subset (List.mem_cons_self (a:=y) (l:=m))) with e|g'
     ·exact e.symm
     ·have a1:=h3 x g;have a2:=h1 y g';have:=Bv x y;exact BN (by omega)
   subst e;rw[IN h2 h4 h.cons_inv]
open Classical in
noncomputable def extSort (args:List AV) (H:List MB):Option (AV×List MB):=
 match args with
 | [.ms id 8 tot 0 n,.clo 112 []]=>if h:∃ l:List Re,getRow H id=some (8,l.map reAV,0)/\tot=l.length/\n=l.length/\CallSound Pg 111 [.ms id 8 tot 0 n,.clo 112 []] H (.tup []) (H.set id (.row 8 ((sortR l).map reAV) 0)) then some (.tup [],H.set id (.row 8 ((sortR h.choose).map reAV) 0)) else none
 | _=>none
theorem Od {a b:List Re} (h:a.map reAV=b.map reAV):a=b:=by
 rw[<- Gc,<- Gc]at h;exact Jb h
theorem Lw {l:List Re}{H:List MB}{id n:Nat} (hr:getRow H id=some (8,l.map reAV,0)) (hn:n=l.length) (hc:CallSound Pg 111 [.ms id 8 n 0 n,.clo 112 []] H (.tup []) (H.set id (.row 8 ((sortR l).map reAV) 0))) :
  extSort [.ms id 8 n 0 n,.clo 112 []] H=some (.tup [],H.set id (.row 8 ((sortR l).map reAV) 0)):=by
 have h:∃ l:List Re,getRow H id=some (8,l.map reAV,0)/\n=l.length/\n=l.length/\CallSound Pg 111 [.ms id 8 n 0 n,.clo 112 []] H (.tup []) (H.set id (.row 8 ((sortR l).map reAV) 0)):=⟨l,hr,hn,hn,hc⟩;unfold extSort;simp only;rw[dif_pos h];have h2:=hr.symm.trans h.choose_spec.1;simp only[Option.some.injEq,Prod.mk.injEq,true_and,and_true]at h2;rw[<- Od h2]
theorem H5 {args:List AV}{H H':List MB}{r:AV} (h:extSort args H=some (r,H')):CallSound Pg 111 args H r H':=by
 unfold extSort at h;split at h
 ·split at h
  ·rename_i h1;simp only[Option.some.injEq,Prod.mk.injEq]at h;obtain⟨rfl,rfl⟩:=h;exact h1.choose_spec.2.2.2
  ·cases h
 ·cases h
end Go.Ev
