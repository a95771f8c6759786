/- What functions of the program compute; no further conditions. -/
import Derived.Test.YtjgmfjneajcbmaaGreatF08
import Derived.Test.YtjgmfjneajcbmaaGreatF09
set_option linter.unusedVariables false
set_option linter.unusedSimpArgs false
set_option maxHeartbeats 4000000
set_option maxRecDepth 100000
namespace Go.Ev
open Go.Proofs Go.RowKit Go.IntWalk
abbrev I (n:Int):AV:=.int .i64 n
theorem AG (l:List Int):AV.plainL (l.map I)=true:=by
 induction l with
 | nil=>rfl
 | cons a l ih=>simp[AV.plainL,ih];rfl
abbrev spanAV (p:Int×Int):AV:=.agg [I p.1,I p.2]
theorem AF (l:List (Int×Int)):AV.plainL (l.map spanAV)=true:=by
 induction l with
 | nil=>rfl
 | cons a l ih=>simp[AV.plainL,ih];rfl
structure Ins where
 op:Int
 x:Int
 y:Int
 n:Int
 set:List (Int×Int)
abbrev insAV (i:Ins):AV:=.agg [I i.op,I i.x,I i.y,I i.n,.sl false (i.set.map spanAV)]
structure Prg where
 ins:List Ins
 caps:Int
 runes:Bool
abbrev prgAV (g:Prg):AV:=.agg [.sl false (g.ins.map insAV),I g.caps,.bool g.runes]
theorem AI (l:List Ins):AV.plainL (l.map insAV)=true:=by
 induction l with
 | nil=>rfl
 | cons a l ih=>simp[AV.plainL,AV.plain,insAV,ih,AF]
theorem AK (g:Prg):AV.plain (prgAV g)=true:=by
 simp[prgAV,AV.plain,AV.plainL,AI]
theorem Dd (a:Nat):((0:Int)<=(a:Int))=True:=by simp
inductive Re where
 | mk (op:Int) (set:List (Int×Int)) (kids:List Re) (mn mx md n:Int) (neg:Bool)
mutual
def reC:Re->List AV
 | .mk op set kids mn mx md n neg=>[I op,.sl false (set.map spanAV),.sl false (reL kids),I mn,I mx,I md,I n,.bool neg]
def reL:List Re->List AV
 | []=>[]
 | k::ks=>.agg (reC k)::reL ks
end
abbrev reAV (r:Re):AV:=.agg (reC r)
theorem Lj:∀ l:List Re,reL l=l.map reAV
 | []=>rfl
 | k::ks=>by simp[reL,Lj ks]
theorem Bh {op:Int}{set:List (Int×Int)}{kids:List Re}{mn mx md n:Int}{neg:Bool} :
  reC (.mk op set kids mn mx md n neg)=[I op,.sl false (set.map spanAV),.sl false (kids.map reAV),I mn,I mx,I md,I n,.bool neg]:=by
 rw[reC,Lj]
theorem AM (r:Re):(reC r).length=8:=by cases r;simp[reC]
theorem AU (r:Re):(reC r).take 8=reC r:=List.take_of_length_le (by rw[AM];omega)
theorem Au (r:Re):(reC r).all AV.ok=true:=by cases r;simp[reC,AV.ok]
mutual
theorem AZ:∀ r:Re,AV.plainL (reC r)=true
 | .mk op set kids mn mx md n neg=>by
   have h:=FS kids;simp[reC,AV.plainL,AV.plain,AF,h]
theorem FS:∀ l:List Re,AV.plainL (reL l)=true
 | []=>rfl
 | k::ks=>by
   have h1:=AZ k;have h2:=FS ks;simp[reL,AV.plainL,AV.plain,h1,h2]
end
theorem AN (l:List Re):AV.plainL (l.map reAV)=true:=by rw[<- Lj];exact FS l
mutual
def Re.wt:Re->Nat
 | .mk _ set kids _ _ _ _ _=>1+set.length+Re.wtL kids
def Re.wtL:List Re->Nat
 | []=>0
 | k::ks=>Re.wt k+Re.wtL ks
end
mutual
def Re.size:Re->Nat
 | .mk _ _ kids _ _ _ _ _=>1+Re.sizeL kids
def Re.sizeL:List Re->Nat
 | []=>0
 | k::ks=>Re.size k+Re.sizeL ks
end
mutual
def Re.depth:Re->Nat
 | .mk _ _ kids _ _ _ _ _=>1+Re.depthL kids
def Re.depthL:List Re->Nat
 | []=>0
 | k::ks=>max (Re.depth k) (Re.depthL ks)
end
theorem Re.wt_pos (r:Re):1<=r.wt:=by cases r;simp[Re.wt]<;>omega
theorem Re.wtL_len:∀ l:List Re,l.length<=Re.wtL l
 | []=>Nat.le_refl _
 | k::ks=>by
   have:=Re.wt_pos k;have:=Re.wtL_len ks;simp[Re.wtL]<;>omega
theorem Re.wtL_mem:∀ {l:List Re}{k:Re},k∈l->k.wt<=Re.wtL l
 | x::l,k,h=>by
   rcases List.mem_cons.1 h with e|e
   ·rw[e];simp[Re.wtL]
   ·have:=Re.wtL_mem e;simp[Re.wtL]<;>omega
theorem Re.size_pos (r:Re):1<=r.size:=by cases r;simp[Re.size]
mutual
theorem Re.size_wt:∀ r:Re,r.size<=r.wt
 | .mk op set kids mn mx md n neg=>by
   have:=Re.sizeL_wt kids;simp[Re.size,Re.wt]<;>omega
theorem Re.sizeL_wt:∀ l:List Re,Re.sizeL l<=Re.wtL l
 | []=>Nat.le_refl _
 | k::ks=>by
   have h1:=Re.size_wt k;have h2:=Re.sizeL_wt ks;simp[Re.sizeL,Re.wtL]<;>omega
end
mutual
theorem Re.depth_size:∀ r:Re,r.depth<=r.size
 | .mk op set kids mn mx md n neg=>by
   have:=Re.depthL_size kids;simp[Re.size,Re.depth]<;>omega
theorem Re.depthL_size:∀ l:List Re,Re.depthL l<=Re.sizeL l
 | []=>Nat.le_refl _
 | k::ks=>by
   have h1:=Re.depth_size k;have h2:=Re.depthL_size ks;simp[Re.sizeL,Re.depthL]<;>omega
end
theorem Re.sizeL_append:∀(a b:List Re),Re.sizeL (a++b)=Re.sizeL a+Re.sizeL b
 | [],b=>by simp[Re.sizeL]
 | k::ks,b=>by simp[Re.sizeL,Re.sizeL_append ks b]<;>omega
theorem Re.depthL_append:∀(a b:List Re),Re.depthL (a++b)=max (Re.depthL a) (Re.depthL b)
 | [],b=>by simp[Re.depthL]
 | k::ks,b=>by simp[Re.depthL,Re.depthL_append ks b]<;>omega
theorem Re.sizeL_take {l:List Re}{i:Nat}{k:Re} (h:l[i]?=some k):Re.sizeL (l.take (i+1))=Re.sizeL (l.take i)+k.size:=by
 rw[List.take_add_one,h,Re.sizeL_append];simp[Re.sizeL]
theorem Re.depthL_take {l:List Re}{i:Nat}{k:Re} (h:l[i]?=some k):Re.depthL (l.take (i+1))=max (Re.depthL (l.take i)) k.depth:=by
 rw[List.take_add_one,h,Re.depthL_append];simp[Re.depthL]
theorem Re.sizeL_le {l:List Re}{i:Nat}:Re.sizeL (l.take i)<=Re.sizeL l:=by
 conv=>rhs;rw[<- List.take_append_drop i l,Re.sizeL_append]
 omega
theorem Re.depthL_le {l:List Re}{i:Nat}:Re.depthL (l.take i)<=Re.depthL l:=by
 conv=>rhs;rw[<- List.take_append_drop i l,Re.depthL_append]
 omega
def badS (l:List (Int×Int)) (top:Int) (i:Nat):Bool:=
 match l[i]? with
 | some p=>decide (p.1<0)||decide (p.2<p.1)||decide (top<p.2)||(match i with
   | 0=>false
   | k+1=>match l[k]? with
     | some q=>decide (p.1<q.2+2)
     | none=>false)
 | none=>false
def spansG (l:List (Int×Int)) (top:Int):Bool:=decide (l.length<=64)&&!(List.range l.length).any (badS l top)
theorem Fu {l:List (Int×Int)}{top:Int} (h:64<l.length):spansG l top=false:=by
 have:¬ l.length<=64:=by omega
 simp[spansG,this]
theorem DZ {l:List (Int×Int)}{top:Int}{i:Nat} (hi:i<l.length) (h:badS l top i=true):spansG l top=false:=by
 have:(List.range l.length).any (badS l top)=true:=List.any_eq_true.2 ⟨i,List.mem_range.2 hi,h⟩;simp[spansG,this]
theorem Fv {l:List (Int×Int)}{top:Int} (hl:l.length<=64) (h:∀ k,k<l.length->badS l top k=false):spansG l top=true:=by
 have:(List.range l.length).any (badS l top)=false:=by
  rw[List.any_eq_false];intro k hk;rw[h k (List.mem_range.1 hk)];simp
 simp[spansG,hl,this]
def kidsG (op:Int) (n:Nat):Bool:=
 if op=2∨op=3 then decide (2<=n) else if op=4∨op=5∨op=7∨op=8∨op=9 then n==1 else if op=10 then n==2 else n==0
def repG (mn mx md:Int):Bool:=decide (0<=mn)&&decide (mn<=32)&&decide (0<=md)&&decide (md<=2)&&(mx == -1||(decide (1<=mx)&&decide (mx<=32)&&decide (mn<=mx)))
def formedG (caps top:Int):Re->Bool
 | .mk op set kids mn mx md n neg=>
   decide (0<=op)&&decide (op<=11)&&kidsG op kids.length&&(if op=1 then spansG set top else set.length==0) &&
   (if op=4 then repG mn mx md else mn==0&&mx==0&&md==0) &&
   (if op=5∨op=6∨op=10 then decide (1<=n)&&decide (n<=caps) else if op=11 then decide (0<=n)&&decide (n<=5) else n==0) &&
   (!neg||op==7||op==8)
mutual
def wholeG (caps top:Int):Re->Bool
 | .mk op set kids mn mx md n neg=>formedG caps top (.mk op set kids mn mx md n neg)&&wholeL caps top kids
def wholeL (caps top:Int):List Re->Bool
 | []=>true
 | k::ks=>wholeG caps top k&&wholeL caps top ks
end
theorem ET (caps top:Int):∀ l:List Re,wholeL caps top l=true↔∀ k∈l,wholeG caps top k=true
 | []=>by simp[wholeL]
 | k::ks=>by simp[wholeL,ET caps top ks]
theorem EK (caps top:Int):∀ a b:List Re,wholeL caps top (a++b)=(wholeL caps top a&&wholeL caps top b)
 | [],b=>by simp[wholeL]
 | k::ks,b=>by simp[wholeL,EK caps top ks b,Bool.and_assoc]
theorem Dm {caps top:Int}{l:List Re}{i:Nat}{k:Re} (h:l[i]?=some k):wholeL caps top (l.take (i+1))=(wholeL caps top (l.take i)&&wholeG caps top k):=by
 rw[List.take_add_one,h,EK];simp[wholeL]
mutual
def nullG:Re->Bool
 | .mk op set kids mn mx md n neg=>
   if op=1 then false else if op=2 then nullAll kids else if op=3∨op=10 then nullAny kids else if op=4 then decide (mn<=0)||nullHd kids else if op=5∨op=9 then nullHd kids else true
def nullAll:List Re->Bool
 | []=>true
 | k::ks=>nullG k&&nullAll ks
def nullAny:List Re->Bool
 | []=>false
 | k::ks=>nullG k||nullAny ks
def nullHd:List Re->Bool
 | []=>false
 | k::_=>nullG k
end
mutual
def compG (inside:List Int):Re->Bool
 | .mk op set kids mn mx md n neg=>
   if op=4/\(md=2∨nullHd kids=true) then false
   else if op=5 then(if n∈inside then false else compL (inside++[n]) kids)
   else if 5<op/\op≠11 then false else compL inside kids
def compL (inside:List Int):List Re->Bool
 | []=>true
 | k::ks=>compG inside k&&compL inside ks
end
theorem Gm:∀ {a b:List (Int×Int)},a.map spanAV=b.map spanAV->a=b
 | [],[],_=>rfl
 | [],_::_,h=>by simp at h
 | _::_,[],h=>by simp at h
 | x::a,y::b,h=>by
   simp only[List.map_cons,List.cons.injEq,AV.agg.injEq,AV.int.injEq,true_and,and_true]at h;rw[Gm h.2];obtain⟨x1,x2⟩:=x;obtain⟨y1,y2⟩:=y;simp only at h;rw[h.1.1,h.1.2]
mutual
theorem MT:∀ {a b:Re},reC a=reC b->a=b
 | .mk op set kids mn mx md n neg,.mk op' set' kids' mn' mx' md' n' neg',h=>by
   simp only[reC,List.cons.injEq,AV.sl.injEq,AV.int.injEq,AV.bool.injEq,true_and,and_true]at h;obtain⟨h1,h2,h3,h4,h5,h6,h7,h8⟩:=h;rw[h1,Gm h2,MR h3,h4,h5,h6,h7,h8]
theorem MR:∀ {a b:List Re},reL a=reL b->a=b
 | [],[],_=>rfl
 | [],_::_,h=>by simp[reL]at h
 | _::_,[],h=>by simp[reL]at h
 | x::a,y::b,h=>by
   simp only[reL,List.cons.injEq,AV.agg.injEq]at h;rw[MT h.1,MR h.2]
end
noncomputable def ext49 (args:List AV) (H:List MB):Option (AV×List MB):=by
 classical
 exact if h:∃ re:Re,args=[.pt (reC re),.sl true []]/\H=[]/\CallSound Pg 50 args [] (.bool (compG [] re)) [] then some (.bool (compG [] h.choose),[]) else none
theorem Oq {re:Re} (hc:CallSound Pg 50 [.pt (reC re),.sl true []] [] (.bool (compG [] re)) []):ext49 [.pt (reC re),.sl true []] []=some (.bool (compG [] re),[]):=by
 have h:∃ re':Re,[AV.pt (reC re),.sl true []]=[.pt (reC re'),.sl true []]/\([]:List MB)=[]/\CallSound Pg 50 [.pt (reC re),.sl true []] [] (.bool (compG [] re')) []:=⟨re,rfl,rfl,hc⟩;unfold ext49;rw[dif_pos h];have:re=h.choose:=MT (by simpa using h.choose_spec.1);rw[<- this]
theorem Kp {args:List AV}{H H':List MB}{r:AV} (h:ext49 args H=some (r,H')):CallSound Pg 50 args H r H':=by
 unfold ext49 at h;split at h
 ·rename_i h1;simp only[Option.some.injEq,Prod.mk.injEq]at h;obtain⟨rfl,rfl⟩:=h;have hs:=h1.choose_spec;generalize h1.choose=re at hs |-;obtain⟨e1,e2,e3⟩:=hs;subst e2;exact e3
 ·cases h
end Go.Ev
