/- What functions of the program compute; no further conditions. -/
import Derived.Test.YtoocnmcbfkpdbaaGreatDoorP09
set_option linter.unusedVariables false
set_option linter.unusedSimpArgs false
open List (length_append length_cons length_nil mem_cons take_add_one)
set_option maxHeartbeats 8000000
set_option maxRecDepth 100000
namespace Go.Ev
def bru64:List Int:=[0,1,56,2,57,49,28,3,61,58,42,50,38,29,17,4,62,47,59,36,45,43,51,22,53,39,33,30,24,18,12,5,63,55,48,27,60,41,37,16,46,35,44,21,52,32,23,11,54,26,40,15,34,20,31,10,25,14,19,9,13,8,7,6]
instance:VarTab:=⟨fun b=>if b=5 then bru64.map fun x=>(IntKind.u8,x) else []⟩
open Go.Proofs Go.RowKit Go.IntWalk
abbrev I (n:Int):AV:=.int .i64 n
theorem AF (l:List Int):AV.plainL (l.map I)=true:=by
 induction l with
 | nil=>rfl
 | cons a l ih=>simp[AV.plainL,ih];rfl
abbrev spanAV (p:Int×Int):AV:=.agg [I p.1,I p.2]
theorem AE (l:List (Int×Int)):AV.plainL (l.map spanAV)=true:=by
 induction l with
 | nil=>rfl
 | cons a l ih=>simp[AV.plainL,ih];rfl
structure Ins where
 op:Int
 x:Int
 y:Int
 n:Int
 set:List (Int×Int)
abbrev insAV (i:Ins):AV:=.agg [I i.op,I i.x,I i.y,I i.n,.sl false (i.set.map spanAV)]
structure Prg where
 ins:List Ins
 caps:Int
 runes:Bool
abbrev prgAV (g:Prg):AV:=.agg [.sl false (g.ins.map insAV),I g.caps,.bool g.runes]
theorem AL (l:List Ins):AV.plainL (l.map insAV)=true:=by
 induction l with
 | nil=>rfl
 | cons a l ih=>simp[AV.plainL,AV.plain,insAV,ih,AE]
theorem AM (g:Prg):AV.plain (prgAV g)=true:=by
 simp[prgAV,AV.plain,AV.plainL,AL]
inductive Re where
 | mk (op:Int) (set:List (Int×Int)) (kids:List Re) (mn mx md n:Int) (neg:Bool)
mutual
def reC:Re->List AV
 | .mk op set kids mn mx md n neg=>[I op,.sl false (set.map spanAV),.sl false (reL kids),I mn,I mx,I md,I n,.bool neg]
def reL:List Re->List AV
 | []=>[]
 | k::ks=>.agg (reC k)::reL ks
end
abbrev reAV (r:Re):AV:=.agg (reC r)
theorem HO:∀ l:List Re,reL l=l.map reAV
 | []=>rfl
 | k::ks=>by simp[reL,HO ks]
theorem Ag {op:Int}{set:List (Int×Int)}{kids:List Re}{mn mx md n:Int}{neg:Bool} :
  reC (.mk op set kids mn mx md n neg)=[I op,.sl false (set.map spanAV),.sl false (kids.map reAV),I mn,I mx,I md,I n,.bool neg]:=by
 rw[reC,HO]
theorem AO (r:Re):(reC r).length=8:=by cases r;simp[reC]
theorem AP (r:Re):(reC r).take 8=reC r:=List.take_of_length_le (by rw[AO];omega)
theorem AU (r:Re):(reC r).all AV.ok=true:=by cases r;simp[reC,AV.ok]
mutual
theorem Aw:∀ r:Re,AV.plainL (reC r)=true
 | .mk op set kids mn mx md n neg=>by
   have h:=DY kids;simp[reC,AV.plainL,AV.plain,AE,h]
theorem DY:∀ l:List Re,AV.plainL (reL l)=true
 | []=>rfl
 | k::ks=>by
   have h1:=Aw k;have h2:=DY ks;simp[reL,AV.plainL,AV.plain,h1,h2]
end
theorem AK (l:List Re):AV.plainL (l.map reAV)=true:=by rw[<- HO];exact DY l
mutual
def Re.wt:Re->Nat
 | .mk _ set kids _ _ _ _ _=>1+set.length+Re.wtL kids
def Re.wtL:List Re->Nat
 | []=>0
 | k::ks=>Re.wt k+Re.wtL ks
end
mutual
def Re.size:Re->Nat
 | .mk _ _ kids _ _ _ _ _=>1+Re.sizeL kids
def Re.sizeL:List Re->Nat
 | []=>0
 | k::ks=>Re.size k+Re.sizeL ks
end
mutual
def Re.depth:Re->Nat
 | .mk _ _ kids _ _ _ _ _=>1+Re.depthL kids
def Re.depthL:List Re->Nat
 | []=>0
 | k::ks=>max (Re.depth k) (Re.depthL ks)
end
theorem Re.wt_pos (r:Re):1<=r.wt:=by cases r;simp[Re.wt]<;>omega
theorem Re.wtL_len:∀ l:List Re,l.length<=Re.wtL l
 | []=>Nat.le_refl _
 | k::ks=>by
   have:=Re.wt_pos k;have:=Re.wtL_len ks;simp[Re.wtL]<;>omega
theorem Re.wtL_mem:∀ {l:List Re}{k:Re},k∈l->k.wt<=Re.wtL l
 | x::l,k,h=>by
   rcases mem_cons.1 h with e|e
   ·rw[e];simp[Re.wtL]
   ·have:=Re.wtL_mem e;simp[Re.wtL]<;>omega
theorem Re.size_pos (r:Re):1<=r.size:=by cases r;simp[Re.size]
mutual
theorem Re.size_wt:∀ r:Re,r.size<=r.wt
 | .mk op set kids mn mx md n neg=>by
   have:=Re.sizeL_wt kids;simp[Re.size,Re.wt]<;>omega
theorem Re.sizeL_wt:∀ l:List Re,Re.sizeL l<=Re.wtL l
 | []=>Nat.le_refl _
 | k::ks=>by
   have h1:=Re.size_wt k;have h2:=Re.sizeL_wt ks;simp[Re.sizeL,Re.wtL]<;>omega
end
mutual
theorem Re.depth_size:∀ r:Re,r.depth<=r.size
 | .mk op set kids mn mx md n neg=>by
   have:=Re.depthL_size kids;simp[Re.size,Re.depth]<;>omega
theorem Re.depthL_size:∀ l:List Re,Re.depthL l<=Re.sizeL l
 | []=>Nat.le_refl _
 | k::ks=>by
   have h1:=Re.depth_size k;have h2:=Re.depthL_size ks;simp[Re.sizeL,Re.depthL]<;>omega
end
theorem Re.sizeL_append:∀(a b:List Re),Re.sizeL (a++b)=Re.sizeL a+Re.sizeL b
 | [],b=>by simp[Re.sizeL]
 | k::ks,b=>by simp[Re.sizeL,Re.sizeL_append ks b]<;>omega
theorem Re.depthL_append:∀(a b:List Re),Re.depthL (a++b)=max (Re.depthL a) (Re.depthL b)
 | [],b=>by simp[Re.depthL]
 | k::ks,b=>by simp[Re.depthL,Re.depthL_append ks b]<;>omega
theorem Re.sizeL_take {l:List Re}{i:Nat}{k:Re} (h:l[i]?=some k):Re.sizeL (l.take (i+1))=Re.sizeL (l.take i)+k.size:=by
 rw[take_add_one,h,Re.sizeL_append];simp[Re.sizeL]
theorem Re.depthL_take {l:List Re}{i:Nat}{k:Re} (h:l[i]?=some k):Re.depthL (l.take (i+1))=max (Re.depthL (l.take i)) k.depth:=by
 rw[take_add_one,h,Re.depthL_append];simp[Re.depthL]
theorem Re.sizeL_le {l:List Re}{i:Nat}:Re.sizeL (l.take i)<=Re.sizeL l:=by
 conv=>rhs;rw[<- List.take_append_drop i l,Re.sizeL_append]
 omega
theorem Re.depthL_le {l:List Re}{i:Nat}:Re.depthL (l.take i)<=Re.depthL l:=by
 conv=>rhs;rw[<- List.take_append_drop i l,Re.depthL_append]
 omega
def badS (l:List (Int×Int)) (top:Int) (i:Nat):Bool:=
 match l[i]? with
 | some p=>decide (p.1<0)||decide (p.2<p.1)||decide (top<p.2)||(match i with
   | 0=>false
   | k+1=>match l[k]? with
     | some q=>decide (p.1<q.2+2)
     | none=>false)
 | none=>false
def spansG (l:List (Int×Int)) (top:Int):Bool:=decide (l.length<=64)&&!(List.range l.length).any (badS l top)
theorem Dm {l:List (Int×Int)}{top:Int} (h:64<l.length):spansG l top=false:=by
 have:¬ l.length<=64:=by omega
 simp[spansG,this]
theorem CO {l:List (Int×Int)}{top:Int}{i:Nat} (hi:i<l.length) (h:badS l top i=true):spansG l top=false:=by
 have:(List.range l.length).any (badS l top)=true:=List.any_eq_true.2 ⟨i,List.mem_range.2 hi,h⟩;simp[spansG,this]
theorem Dn {l:List (Int×Int)}{top:Int} (hl:l.length<=64) (h:∀ k,k<l.length->badS l top k=false):spansG l top=true:=by
 have:(List.range l.length).any (badS l top)=false:=by
  rw[List.any_eq_false];intro k hk;rw[h k (List.mem_range.1 hk)];simp
 simp[spansG,hl,this]
def kidsG (op:Int) (n:Nat):Bool:=
 if op=2∨op=3 then decide (2<=n) else if op=4∨op=5∨op=7∨op=8∨op=9 then n==1 else if op=10 then n==2 else n==0
def repG (mn mx md:Int):Bool:=decide (0<=mn)&&decide (mn<=32)&&decide (0<=md)&&decide (md<=2)&&(mx == -1||(decide (1<=mx)&&decide (mx<=32)&&decide (mn<=mx)))
def formedG (caps top:Int):Re->Bool
 | .mk op set kids mn mx md n neg=>
   decide (0<=op)&&decide (op<=11)&&kidsG op kids.length&&(if op=1 then spansG set top else set.length==0) &&
   (if op=4 then repG mn mx md else mn==0&&mx==0&&md==0) &&
   (if op=5∨op=6∨op=10 then decide (1<=n)&&decide (n<=caps) else if op=11 then decide (0<=n)&&decide (n<=5) else n==0) &&
   (!neg||op==7||op==8)
mutual
def wholeG (caps top:Int):Re->Bool
 | .mk op set kids mn mx md n neg=>formedG caps top (.mk op set kids mn mx md n neg)&&wholeL caps top kids
def wholeL (caps top:Int):List Re->Bool
 | []=>true
 | k::ks=>wholeG caps top k&&wholeL caps top ks
end
theorem CN (caps top:Int):∀ l:List Re,wholeL caps top l=true↔∀ k∈l,wholeG caps top k=true
 | []=>by simp[wholeL]
 | k::ks=>by simp[wholeL,CN caps top ks]
theorem Cv (caps top:Int):∀ a b:List Re,wholeL caps top (a++b)=(wholeL caps top a&&wholeL caps top b)
 | [],b=>by simp[wholeL]
 | k::ks,b=>by simp[wholeL,Cv caps top ks b,Bool.and_assoc]
theorem CV {caps top:Int}{l:List Re}{i:Nat}{k:Re} (h:l[i]?=some k):wholeL caps top (l.take (i+1))=(wholeL caps top (l.take i)&&wholeG caps top k):=by
 rw[take_add_one,h,Cv];simp[wholeL]
mutual
def nullG:Re->Bool
 | .mk op set kids mn mx md n neg=>
   if op=1 then false else if op=2 then nullAll kids else if op=3∨op=10 then nullAny kids else if op=4 then decide (mn<=0)||nullHd kids else if op=5∨op=9 then nullHd kids else true
def nullAll:List Re->Bool
 | []=>true
 | k::ks=>nullG k&&nullAll ks
def nullAny:List Re->Bool
 | []=>false
 | k::ks=>nullG k||nullAny ks
def nullHd:List Re->Bool
 | []=>false
 | k::_=>nullG k
end
def digC (k:Nat):Int:=if k<10 then 48+k else 87+k
def digF (b:Nat):Nat->Nat->List Int
 | 0,_=>[]
 | f+1,n=>(if n<b then [] else digF b f (n / b))++[digC (n % b)]
def digI (b:Nat) (n:Int):List Int:=digF b 64 n.toNat
def alnumI (c:Int):Bool:=(decide (97<=c)&&decide (c<=122))||(decide (65<=c)&&decide (c<=90))||(decide (48<=c)&&decide (c<=57))
def symT (c:Int):List Int:=
 if alnumI c=true∨c=32 then [c] else if 32<c/\c<127 then [92,c] else if c=10 then [92,110] else if c=13 then [92,114] else if c=9 then [92,116]
 else if 255<c then [92,117,123]++digI 16 c++[125] else [92,120]++(if c<16 then [48] else [])++digI 16 c
def spanT (p:Int×Int):List Int:=symT p.1++(if p.1=p.2 then [] else 45::symT p.2)
def setT (s:List (Int×Int)):List Int:=match s with
 | [(a,b)]=>if a=b then symT a else 91::spanT (a,b)++[93]
 | s=>91::s.flatMap spanT++[93]
def grpT (b:Bool) (l:List Int):List Int:=if b=true then [40,63,58]++l++[41] else l
def opIn (ops:List Int) (r:Re):Bool:=match r with
 | .mk op _ _ _ _ _ _ _=>ops.contains op
def quantT (mn mx md:Int):List Int:=
 (if mn=0/\mx = -1 then [42] else if mn=1/\mx = -1 then [43] else if mn=0/\mx=1 then [63] else if mx=mn then [123]++digI 10 mn++[125]
   else if mx = -1 then [123]++digI 10 mn++[44,125] else [123]++digI 10 mn++[44]++digI 10 mx++[125]) ++
 (if md=1 then [63] else if md=2 then [43] else [])
def assertT (n:Int):List Int:=
 if n=0 then [92,65] else if n=1 then [92,122] else if n=2 then [40,63,109,58,94,41] else if n=3 then [40,63,109,58,36,41] else if n=4 then [92,98] else [92,66]
mutual
def treeT:Re->List Int
 | .mk op set kids mn mx md n neg=>
   if op=1 then setT set
   else if op=2 then catT kids
   else if op=3 then alsT kids
   else if op=4 then hdT [0,2,3,4] kids++quantT mn mx md
   else if op=5 then [40,63,60]++digI 10 n++[62]++hdT [] kids++[41]
   else if op=6 then 92::digI 10 n
   else if op=7 then [40,63]++(if neg=true then [33] else [61])++hdT [] kids++[41]
   else if op=8 then [40,63,60]++(if neg=true then [33] else [61])++hdT [] kids++[41]
   else if op=9 then [40,63,62]++hdT [] kids++[41]
   else if op=10 then [40,63,40]++digI 10 n++[41]++alsT kids++[41]
   else if op=11 then assertT n
   else []
def catT:List Re->List Int
 | []=>[]
 | k::l=>grpT (opIn [0,2,3] k) (treeT k)++catT l
def alsT:List Re->List Int
 | []=>[]
 | k::l=>grpT (opIn [3] k) (treeT k)++barT l
def barT:List Re->List Int
 | []=>[]
 | k::l=>124::grpT (opIn [3] k) (treeT k)++barT l
def hdT (ops:List Int):List Re->List Int
 | []=>[]
 | k::_=>grpT (opIn ops k) (treeT k)
end
def addN (l:List Int) (n:Int):List Int:=if n∈l then l else l++[n]
mutual
def numT:Re->List Int
 | .mk op set kids mn mx md n neg=>numL (if op=5 then [n] else []) kids
def numL (acc:List Int):List Re->List Int
 | []=>acc
 | k::l=>numL ((numT k).foldl addN acc) l
end
end Go.Ev
namespace Go.Ev
theorem Gt (b:Nat):∀ f n,(digF b f n).length<=f
 | 0,n=>by simp[digF]
 | f+1,n=>by
   have:=Gt b f (n / b);simp only[digF,length_append,List.length_singleton];split
   ·simp
   ·omega
theorem A4 (b:Nat) (n:Int):(digI b n).length<=64:=Gt b 64 _
theorem BW (c:Int):(symT c).length<=68:=by
 have h:=A4 16 c;unfold symT;repeat' split
 all_goals simp only[length_append,length_cons,length_nil]
 all_goals omega
theorem FQ (p:Int×Int):(spanT p).length<=137:=by
 have h1:=BW p.1;have h2:=BW p.2;unfold spanT;split
 ·simp only[length_append,length_nil];omega
 ·simp only[length_append,length_cons];omega
theorem C7 (s:List (Int×Int)):(s.flatMap spanT).length<=137*s.length:=by
 induction s with
 | nil=>simp
 | cons p s ih=>
   have:=FQ p;simp only[List.flatMap_cons,length_append,length_cons];omega
theorem Iy (s:List (Int×Int)):(setT s).length<=200+200*s.length:=by
 have h:=C7 s;unfold setT;split
 ·rename_i a b;have h1:=BW a;have h2:=FQ (a,b);split
  ·simp only[length_cons,length_nil];omega
  ·simp only[length_append,length_cons,length_nil];omega
 ·simp only[length_append,length_cons,length_nil];omega
theorem BI (b:Bool) (l:List Int):(grpT b l).length<=l.length+4:=by
 unfold grpT;split
 ·simp only[length_append,length_cons,length_nil];omega
 ·omega
theorem EP (a b c:Int):(quantT a b c).length<=133:=by
 have h1:=A4 10 a;have h2:=A4 10 b;unfold quantT;rw[length_append]
 have e1:(if a=0/\b = -1 then [42] else if a=1/\b = -1 then [43] else if a=0/\b=1 then [63] else if b=a then [123]++digI 10 a++[125]
  else if b = -1 then [123]++digI 10 a++[44,125] else [123]++digI 10 a++[44]++digI 10 b++[125]:List Int).length<=132:=by
  repeat' split
  all_goals simp only[length_append,length_cons,length_nil]
  all_goals omega
 have e2:(if c=1 then [63] else if c=2 then [43] else []:List Int).length<=1:=by
  repeat' split
  all_goals simp
 omega
theorem Dy (n:Int):(assertT n).length<=6:=by
 unfold assertT;repeat' split
 all_goals simp
mutual
theorem BQ:∀ r:Re,(treeT r).length+100<=300*r.wt
 | .mk op set kids mn mx md n neg=>by
   have h1:=Iy set;have h2:=Cj kids;have h3:=E0 kids;have h4:=fun ops=>Kf ops kids;have h4a:=h4 [0,2,3,4];have h4b:=h4 [];have h5:=EP mn mx md;have h6:=A4 10 n;have h7:=Dy n;rw[treeT,Re.wt];repeat' split
   all_goals (try simp only[length_append,length_cons,length_nil])
   all_goals omega
theorem Cj:∀ l:List Re,(catT l).length<=300*Re.wtL l
 | []=>by simp[catT]
 | k::l=>by
   have h1:=BQ k;have h2:=Cj l;have h3:=BI (opIn [0,2,3] k) (treeT k);rw[catT,Re.wtL,length_append];omega
theorem E0:∀ l:List Re,(alsT l).length<=300*Re.wtL l
 | []=>by simp[alsT]
 | k::l=>by
   have h1:=BQ k;have h2:=G4 l;have h3:=BI (opIn [3] k) (treeT k);rw[alsT,Re.wtL,length_append];omega
theorem G4:∀ l:List Re,(barT l).length<=300*Re.wtL l
 | []=>by simp[barT]
 | k::l=>by
   have h1:=BQ k;have h2:=G4 l;have h3:=BI (opIn [3] k) (treeT k);rw[barT,Re.wtL,length_append,length_cons];omega
theorem Kf (ops:List Int):∀ l:List Re,(hdT ops l).length<=300*Re.wtL l
 | []=>by simp[hdT]
 | k::l=>by
   have h1:=BQ k;have h3:=BI (opIn ops k) (treeT k);rw[hdT,Re.wtL];omega
end
def Byt (l:List Int):Prop:=∀ x∈l,0<=x/\x<256
theorem Byt.app {a b:List Int} (h:Byt a) (k:Byt b):Byt (a++b):=fun x hx=>(List.mem_append.1 hx).elim (h x) (k x)
theorem Byt.cons {a:Int}{b:List Int} (h:0<=a/\a<256) (k:Byt b):Byt (a::b):=fun x hx=>by
 rcases mem_cons.1 hx with e|e
 ·rw[e];exact h
 ·exact k x e
theorem Byt.nil:Byt []:=fun x hx=>by cases hx
theorem Byt.ite {p:Prop} [Decidable p] {a b:List Int} (h:p->Byt a) (k:¬ p->Byt b):Byt (if p then a else b):=by
 split
 ·exact h ‹_›
 ·exact k ‹_›
theorem Jk {k:Nat} (h:k<16):0<=digC k/\digC k<256:=by
 unfold digC;split<;>omega
theorem Gu {b:Nat} (hb:0<b/\b<=16):∀ f n,Byt (digF b f n)
 | 0,n=>by rw[digF];exact Byt.nil
 | f+1,n=>by
   rw[digF];have:=Nat.mod_lt n hb.1;exact(Byt.ite (fun _=>Byt.nil) fun _=>Gu hb f _).app (Byt.nil.cons (Jk (by omega)))
theorem Bs {b:Nat} (hb:0<b/\b<=16) (n:Int):Byt (digI b n):=Gu hb 64 _
theorem CY (c:Int):Byt (symT c):=by
 unfold symT;refine Byt.ite (fun h=>?_) fun h1=>Byt.ite (fun h=>?_) fun h2=>Byt.ite (fun h=>?_) fun h3=>Byt.ite (fun h=>?_) fun h4=>Byt.ite (fun h=>?_) fun h5=>Byt.ite (fun h=>?_) fun h6=>?_
 ·refine Byt.nil.cons ?_;rcases h with h|h
  ·unfold alnumI at h;simp at h;omega
  ·omega
 ·exact(Byt.nil.cons (by omega)).cons (by decide)
 ·exact(Byt.nil.cons (by decide)).cons (by decide)
 ·exact(Byt.nil.cons (by decide)).cons (by decide)
 ·exact(Byt.nil.cons (by decide)).cons (by decide)
 ·exact((((Byt.nil.cons (by decide)).cons (by decide)).cons (by decide)).app (Bs (by decide) c)).app (Byt.nil.cons (by decide))
 ·exact(((Byt.nil.cons (by decide)).cons (by decide)).app (Byt.ite (fun _=>Byt.nil.cons (by decide)) fun _=>Byt.nil)).app (Bs (by decide) c)
theorem GP (a b:List Int):strB (a++b)=strB a++strB b:=by
 unfold strB;apply ByteArray.ext;simp[ByteArray.data_append]
theorem AN (a:List Int):(strB a).size=a.length:=by
 unfold strB;show (List.toArray _).size=_;simp
theorem byt1 {a:Int} (h:0<=a/\a<256):Byt [a]:=Byt.nil.cons h
theorem HP (a b c:Int):Byt (quantT a b c):=by
 have h1:=Bs (b:=10) (by decide) a;have h2:=Bs (b:=10) (by decide) b;have o:Byt [123]:=byt1 (by decide);have d:Byt [125]:=byt1 (by decide);unfold quantT;refine Byt.app (Byt.ite (fun _=>byt1 (by decide)) fun _=>Byt.ite (fun _=>byt1 (by decide)) fun _=>Byt.ite (fun _=>byt1 (by decide)) fun _=>Byt.ite (fun _=>(o.app h1).app d) fun _=>Byt.ite (fun _=>(o.app h1).app (d.cons (by decide))) fun _=>(((o.app h1).app (byt1 (by decide))).app h2).app d) (Byt.ite (fun _=>byt1 (by decide)) fun _=>Byt.ite (fun _=>byt1 (by decide)) fun _=>Byt.nil)
theorem G5 (n:Int):Byt (assertT n):=by
 unfold assertT;repeat' split
 all_goals (intro x hx;simp at hx;omega)
end Go.Ev
