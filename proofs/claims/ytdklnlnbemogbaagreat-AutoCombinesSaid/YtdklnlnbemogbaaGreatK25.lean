/- What functions of the program compute; no further conditions. -/
import Derived.Test.YtdklnlnbemogbaaGreatK24
set_option linter.unusedVariables false
set_option linter.unusedSimpArgs false
open List (getElem?_map getElem?_of_mem head?_drop length_append length_map map_append map_cons map_map map_replicate map_set map_take mem_append mem_map mem_range take_of_length_le)
open Nat (le_refl lt_or_ge mul_one zero_le)
open Option (getD_some map_eq_some_iff map_some)
open Go.Proofs Go.RowKit Go.IntWalk
set_option maxHeartbeats 8000000
set_option maxRecDepth 100000
namespace Go.Ev
attribute [local go_sem] AV.cells An As bndO bnd evEq eqCells not_false_eq_true not_true_eq_false toList_some Array.size_empty length_append tySzE head?_drop mul_one Ac Aj Aa Ad Ae AW
section
attribute [local go_sem] evAppend map_append
def orW (x:Int) (r:Nat):Int:=IntKind.u8.wrap ((BitVec.ofInt 8 x ||| BitVec.ofInt 8 (2 ^ r:Int)).toNat:Int)
theorem S7 {x r:Nat} (hx:x<2 ^ 8) (hr:r<8):orW (x:Int) r=((x ||| 2 ^ r:Nat):Int):=by
 have h1:(2:Nat) ^ r<2 ^ 8:=Nat.pow_lt_pow_right (by omega) hr;have h2:x ||| 2 ^ r<2 ^ 8:=Nat.or_lt_two_pow hx h1;have e1:(BitVec.ofInt 8 (x:Int)).toNat=x:=by
  rw[BitVec.ofInt_natCast,BitVec.toNat_ofNat,Nat.mod_eq_of_lt hx]
 have e2:(BitVec.ofInt 8 (2 ^ r:Int)).toNat=2 ^ r:=by
  have:(2 ^ r:Int)=((2 ^ r:Nat):Int):=by simp
  rw[this,BitVec.ofInt_natCast,BitVec.toNat_ofNat,Nat.mod_eq_of_lt h1]
 unfold orW;rw[BitVec.toNat_or,e1,e2];simp only[IntKind.wrap,IntKind.bits,IntKind.signed];simp;omega
def WB (m:Nat) (w:List Int) (b:Nat->Bool):Prop:=w.length=m/\∀ i,i<m->∃ x:Nat,w[i]?=some (x:Int)/\x<2 ^ 8/\∀ r,r<8->x.testBit r=b (8*i+r)
theorem WB.inj {m:Nat}{w:List Int}{b b':Nat->Bool} (h:WB m w b) (h':WB m w b') {j:Nat} (hj:j<8*m):b j=b' j:=by
 obtain⟨x,h1,_,h3⟩:=h.2 (j / 8) (by omega);obtain⟨y,g1,_,g3⟩:=h'.2 (j / 8) (by omega);rw[h1]at g1;obtain rfl:x=y:=by have:=Option.some.inj g1;omega
 have a:=h3 (j % 8) (by omega);have c:=g3 (j % 8) (by omega);rw[show 8*(j / 8)+j % 8=j by omega]at a c;rw[<- a,<- c]
theorem WB.zero (m:Nat):WB m (List.replicate m 0) fun _=>false:=by
 refine⟨by simp,fun i hi=>⟨0,?_,by decide,fun r _=>by simp⟩⟩;rw[List.getElem?_replicate,if_pos hi];rfl
theorem WB.congr {m:Nat}{w:List Int}{b b':Nat->Bool} (h:WB m w b) (hb:∀ j,b j=b' j):WB m w b':=by
 have:b=b':=funext hb;rw[<- this];exact h
theorem WB.put {m:Nat}{w:List Int}{b:Nat->Bool} (h:WB m w b) {s:Nat}{x:Int} (hx:w[s / 8]?=some x):WB m (w.set (s / 8) (orW x (s % 8))) fun j=>decide (j=s)||b j:=by
 refine⟨by rw[List.length_set];exact h.1,fun i hi=>?_⟩;obtain⟨y,h1,h2,h3⟩:=h.2 i hi;by_cases e:s / 8=i
 ·subst e;rw[h1]at hx;obtain rfl:(y:Int)=x:=Option.some.inj hx;rw[List.getElem?_set_self (by rw[h.1];exact hi),S7 h2 (by omega)];refine⟨_,rfl,Nat.or_lt_two_pow h2 (Nat.pow_lt_pow_right (by omega) (by omega)),fun r hr=>?_⟩;rw[Nat.testBit_or,h3 r hr,Nat.testBit_two_pow];by_cases e2:s % 8=r
  ·have e3:8*(s / 8)+r=s:=by omega
   simp[e2,e3]
  ·have e3:¬ 8*(s / 8)+r=s:=by omega
   simp[e2,e3]
 ·rw[List.getElem?_set_ne e];refine⟨y,h1,h2,fun r hr=>?_⟩;have e3:¬ 8*i+r=s:=by omega
  simp only[e3,decide_false,Bool.false_or];exact h3 r hr
def bitsN (bs:List Bool):Nat->List Int
 | 0=>List.replicate ((bs.length+7) / 8) 0
 | i+1=>if bs[i]?.getD false=true then(bitsN bs i).set (i / 8) (orW ((bitsN bs i)[i / 8]?.getD 0) (i % 8)) else bitsN bs i
theorem Em (bs:List Bool):∀ i,i<=bs.length->WB ((bs.length+7) / 8) (bitsN bs i) fun j=>decide (j<i)&&bs[j]?.getD false
 | 0,_=>(WB.zero _).congr fun j=>by simp
 | i+1,hi=>by
   have ih:=Em bs i (by omega);rw[bitsN];split
   ·rename_i hb;obtain⟨x,h1,_,_⟩:=ih.2 (i / 8) (by omega);rw[h1,getD_some];refine(ih.put h1).congr fun j=>?_;rcases Nat.lt_trichotomy j i with g|g|g
    ·simp[g,show j<i+1 by omega,show ¬ j=i by omega]
    ·subst g;simp[hb]
    ·simp[show ¬ j<i by omega,show ¬ j<i+1 by omega,show ¬ j=i by omega]
   ·rename_i hb;refine ih.congr fun j=>?_;rcases Nat.lt_trichotomy j i with g|g|g
    ·simp[g,show j<i+1 by omega]
    ·subst g;simp at hb;simp[hb]
    ·simp[show ¬ j<i by omega,show ¬ j<i+1 by omega]
def bitsS (bs:List Bool):ByteArray:=strB (bitsN bs bs.length)
theorem I9 (bs:List Bool):∀ x∈bitsN bs bs.length,0<=x/\x<256:=fun x hx=>by
 obtain⟨i,hi,e⟩:=List.getElem_of_mem hx;have h:=Em bs bs.length (le_refl _);obtain⟨y,h1,h2,_⟩:=h.2 i (by rw[<- h.1];exact hi);rw[zga hi,e]at h1;have:=Option.some.inj h1;omega
theorem P4 {a b:List Bool} (hl:a.length=b.length) (h:bitsS a=bitsS b):a=b:=by
 have e:bitsN a a.length=bitsN b b.length:=Lc (I9 a) (I9 b) h;have ha:=Em a a.length (le_refl _);have hb:=Em b b.length (le_refl _);rw[e,hl]at ha;refine List.ext_getElem hl fun i h1 h2=>?_;have:=ha.inj hb (j:=i) (by omega)
 simpa [h1,h2,hl] using this
theorem Po (x r:Int) (n:Nat) (h:r=2 ^ n):evBin .or .u8 x r=some (.int .u8 (orW x n)):=by subst h;rfl
theorem S2 (n:Nat) (h:n<8):evShift .shl .u8 1 (n:Int)=some (.int .u8 ((2:Int) ^ n)):=by
 have:∀ n,n<8->evShift .shl .u8 1 ((n:Nat):Int)=some (.int .u8 ((2:Int) ^ n)):=by
  intro n hn;rcases(by omega:n=0∨n=1∨n=2∨n=3∨n=4∨n=5∨n=6∨n=7) with rfl|rfl|rfl|rfl|rfl|rfl|rfl|rfl<;>rfl
 exact this n h
theorem quo8 (n:Nat) (h:n<=2000000):evBin .quo .i64 (n:Int) 8=some (I ((n / 8:Nat):Int)):=by
 have:IntKind.i64.wrap ((n:Int).tdiv 8)=((n / 8:Nat):Int):=by
  have e:(n:Int).tdiv 8=((n / 8:Nat):Int):=rfl;rw[e,i64_in];omega
 show (if(8:Int)=0 then none else some (I (IntKind.i64.wrap ((n:Int).tdiv 8))))=_;rw[if_neg (by decide),this]
theorem rem8 (n:Nat):evBin .rem .i64 (n:Int) 8=some (I ((n % 8:Nat):Int)):=by
 have:(n:Int).tmod 8=((n % 8:Nat):Int):=rfl;show (if(8:Int)=0 then none else some (I ((n:Int).tmod 8)))=_;rw[if_neg (by decide),this]
theorem f74 (bs:List Bool) (hl:bs.length<=1000000) (H:List MB):call Pg pol1 74 [.sl false (bs.map AV.bool)] H=some (.str (bitsS bs),H):=by
 have hpl:=AN bs;refine AQ Tryz.func74 rfl rfl rfl rfl rfl rfl (fun _=>rfl) (by simp[AV.plainL,AV.plain,hpl]) rfl ?_ H;have hw:IntKind.i64.wrap ((bs.length:Int)+7)=((bs.length+7:Nat):Int):=by rw[i64_in]<;>omega
 have hq:=quo8 (bs.length+7) (by omega);have hroom:roomFor (((bs.length+7) / 8:Nat):Int).toNat 1=true:=AW (by omega) (by omega);simp +contextual (disch:=omega) only[Tryz.f74,dd74,go_sem,simprocAttr,evBin,strOf,mu74,hw,hq,hroom];have hN:(((bs.length+7:Nat):Int) / 8).toNat=(bs.length+7) / 8:=by omega
 rw[hN];have hok:=Em bs;have h0:bitsN bs 0=List.replicate ((bs.length+7) / 8) 0:=rfl;have hst:∀ i,bitsN bs (i+1)=if bs[i]?.getD false=true then(bitsN bs i).set (i / 8) (orW ((bitsN bs i)[i / 8]?.getD 0) (i % 8)) else bitsN bs i:=fun i=>rfl
 have hNi:∀ i,i<bs.length->i / 8<(bs.length+7) / 8:=fun i hi=>by omega
 generalize (bs.length+7) / 8=N at *;refine AS (M:=(Ms 74 3)) rfl bs.length (fun i=>(⟨32,[(13,I i),(12,I bs.length),(11,.sl false (bs.map AV.bool)),(3,.ms 0 1 N 0 N)],[.row 1 ((bitsN bs i).map kB8) 0]⟩:St)) (fun i=>True) ?_ ?_ trivial _ ?_
 ·intro i hi _;obtain⟨v,hv⟩:∃ v,bs[i]?=some v:=⟨_,zga hi⟩;have hv':(bs.map AV.bool)[i]?=some (.bool v):=by simp[hv]
  have hok:=hok i (by omega);have hbl:=hok.1;rw[hst i,hv,getD_some];obtain⟨x,hx,_,_⟩:=hok.2 (i / 8) (hNi i hi);rw[hx,getD_some];have hx':((bitsN bs i).map kB8)[i / 8]?=some (.int .u8 x):=by simp[hx]
  have hml:((bitsN bs i).map kB8).length=N:=by rw[length_map];exact hbl
  have q1:=quo8 i (by omega);have q2:=rem8 i;have q3:=S2 (i % 8) (by omega);have q4:=Po x (2 ^ (i % 8)) (i % 8) rfl;have hset:∀ y,((bitsN bs i).map kB8).set (i / 8) (.int .u8 y)=((bitsN bs i).set (i / 8) y).map kB8:=fun y=>by rw[map_set]
  clear hst h0;cases v with
  | false=>
    rw[if_neg (by simp)];generalize bitsN bs i=B at *;simp +contextual (disch:=omega) only[Tryz.f74,dd74,go_sem,simprocAttr,evBin,strOf,mu74,hv'];exact(by first|rfl|(refine AO rfl (by rfl) (by rfl) (by rfl) ?_ ?_<;>simp[AV.underL,AV.under,MB.under,AG,AJ,AF,AH,AK,AM,-map_take,AN,EP]))
  | true=>
    rw[if_pos rfl];generalize bitsN bs i=B at *;have hw1:IntKind.i64.wrap ((i:Int)+1)=((i+1:Nat):Int):=by rw[i64_in]<;>omega
    have hls:evBin .lss .i64 (i:Int) (bs.length:Int)=some (.bool true):=by
     show some (AV.bool (decide ((i:Int)<bs.length)))=_;rw[decide_eq_true (by omega)]
    have hnx:NV i=I i:=rfl;simp +contextual (disch:=omega) only[Tryz.f74,dd74,go_sem,simprocAttr,strOf,mu74,hv',hls,q1,q2,q3,q4,hx',hml,hset,BW,hw1];repeat' (first|intro _|apply And.intro|(unfold dOk;kernel_rfl)|exact St.beq_refl _|exact Ah|(show altO _ _ _ _=true;kernel_rfl)|(show (_||_)=true;kernel_rfl)|(show (_&&_)=true;kernel_rfl))
    generalize B.set (i / 8) (orW (x:Int) (i % 8))=B2;exact(by first|rfl|(refine AO rfl (by rfl) (by rfl) (by rfl) ?_ ?_<;>simp[AV.underL,AV.under,MB.under,AG,AJ,AF,AH,AK,AM,-map_take,AN,EP]))
 ·intro _;have hks:bitsS bs=strB (bitsN bs bs.length):=rfl;rw[hks];have hkl:=(hok bs.length (le_refl _)).1;generalize bitsN bs bs.length=K at *;have hst:strOf [.row 1 (K.map kB8) 0] (.ms 0 1 N 0 N)=some (strB K):=by
   have h1:(K.map kB8).length=N:=by rw[length_map];exact hkl
   simp only[strOf,elemsOf,getRow,List.getElem?_cons_zero,h1,and_self,if_true,List.drop_zero];rw[take_of_length_le (by omega),I7];rfl
  simp +contextual (disch:=omega) only[Tryz.f74,dd74,go_sem,simprocAttr,evBin,mu74,hst];exact fzEq rfl rfl
 ·rw[h0];have hr8:List.replicate N (AV.int .u8 0)=(List.replicate N 0).map kB8:=by rw[map_replicate]
  rw[hr8];exact(by first|rfl|(refine AO rfl (by rfl) (by rfl) (by rfl) ?_ ?_<;>simp[AV.underL,AV.under,MB.under,AG,AJ,AF,AH,AK,AM,-map_take,AN,EP]))
end
section
attribute [local go_sem] evBin strOf
abbrev pAV (p:Nat×Nat):AV:=.agg [NV p.1,NV p.2]
theorem Ft (l:List (Nat×Nat)):AV.plainL (l.map pAV)=true:=by
 induction l with
 | nil=>rfl
 | cons a l ih=>simp[AV.plainL,AV.plain,ih]
theorem UI:KeyOk pAV (fun _=>True):=by
 have inj:∀ x y:Nat×Nat,pAV x=pAV y->x=y:=fun x y h=>by
  obtain⟨a,b⟩:=x;obtain⟨c,d⟩:=y;simp only[pAV,AV.agg.injEq,List.cons.injEq,AV.int.injEq,true_and,and_true]at h;have h1:a=c:=by omega
  have h2:b=d:=by omega
  rw[h1,h2]
 refine⟨fun x y _ _ h=>inj x y h,fun x y _ _=>?_⟩;constructor
 ·intro h;obtain⟨a,b⟩:=x;obtain⟨c,d⟩:=y;simp[pAV,AV.beq,AV.beqL]at h;simp[pAV,h]
 ·intro h;rw[h];exact AV.beq_refl _
theorem EH (n:Nat):∀(i:Nat) (l:List (Nat×Nat)),MB.underE n (entK i (l.map pAV))=true
 | _,[]=>rfl
 | i,p::l=>by
   simp only[map_cons,entK,MB.underE,EH n (i+1) l,AV.under,AV.underL,Bool.and_self]
def stepP (Na Nb:List (List Nat)) (inA inB:List Nat) (p:Nat×Nat) (c:Nat):Nat×Nat:=(nxf Na p.1 (inA[c]?.getD 0),nxf Nb p.2 (inB[c]?.getD 0))
def pairsU (na nb:Nat):List (Nat×Nat):=(List.range na).flatMap fun x=>(List.range nb).map fun y=>(x,y)
theorem Bb {na nb:Nat}{p:Nat×Nat}:p∈pairsU na nb↔p.1<na/\p.2<nb:=by
 obtain⟨a,b⟩:=p;simp[pairsU]
def inC (cl C:Cls):List Nat:=C.map fun s=>clIx cl (headLo s)
def prodR (a b:AutoL) (C:Cls):List (Nat×Nat):=bfs (fun p=>(List.range C.length).map (stepP (nxN a.nx) (nxN b.nx) (inC a.cl C) (inC b.cl C) p)) ((pairsU a.nx.length b.nx.length).length+1) 0 [(0,0)]
def prodA (op:Bool->Bool->Bool) (a b:AutoL) (C:Cls):AutoL:=
 natA C ((prodR a b C).map (exRow C.length (stepP (nxN a.nx) (nxN b.nx) (inC a.cl C) (inC b.cl C)) (prodR a b C))) ((prodR a b C).map fun p=>op (a.ac[p.1]?.getD false) (b.ac[p.2]?.getD false))
theorem TQ {H:List MB}{i n z:Nat}{rs:List (Nat×Nat)}{p:Nat×Nat}{t:Bool} (hi:getRow H i=some (2,rs.map pAV,z)) (hz:z<=n) (hn:rs.length=n) (hr:n+1<=4000000000) :
  evAppend Pg H 91 91 (.ms i 2 n 0 n) (.sl t [.agg [NV p.1,NV p.2]])=some (.ms i 2 (n+1) 0 (n+1),H.set i (.row 2 ((rs++[p]).map pAV) z)):=by
 have hs:srcElems Pg H 211 (.sl t [.agg [NV p.1,NV p.2]])=some [.agg [NV p.1,NV p.2]]:=rfl;rw[Ag (e:=211) (by kernel_rfl) (by kernel_rfl) (k:=2) (by kernel_rfl) (by_:=16) (by kernel_rfl) (ze:=.agg [I 0,I 0]) (by kernel_rfl) rfl (by omega) hs (by simp[AV.cells,AV.ok]) hi (by rw[length_map];exact hn) hz (AW (by simp;omega) (by omega))];rw[map_append];rfl
theorem Hj {a b:AutoL} (hga:GoodA a) (hgb:GoodA b) {iA iB:List Nat} (hA:∀ c t:Nat,iA[c]?=some t->t<a.cl.length) (hB:∀ c t:Nat,iB[c]?=some t->t<b.cl.length) {m:Nat} (hAl:iA.length=m) (hBl:iB.length=m) {p:Nat×Nat} (hp:p∈pairsU a.nx.length b.nx.length) {c:Nat} (hc:c<m) :
  ∃ ca cb ra rb ta tb,iA[c]?=some ca/\iB[c]?=some cb/\(nxN a.nx)[p.1]?=some ra/\ra[ca]?=some ta/\(nxN b.nx)[p.2]?=some rb/\rb[cb]?=some tb/\stepP (nxN a.nx) (nxN b.nx) iA iB p c=(ta,tb)/\(ta,tb)∈pairsU a.nx.length b.nx.length:=by
 obtain⟨p1,p2⟩:=Bb.1 hp;obtain⟨ca,e1⟩:∃ x,iA[c]?=some x:=⟨_,zga (by omega)⟩;obtain⟨cb,e2⟩:∃ x,iB[c]?=some x:=⟨_,zga (by omega)⟩;have hla:(nxN a.nx).length=a.nx.length:=by simp[nxN]
 have hlb:(nxN b.nx).length=b.nx.length:=by simp[nxN]
 obtain⟨ra,ta,a1,a2,a3,a4⟩:=(A7 hga).nxf_lt (s:=p.1) (by omega) (hA c ca e1);obtain⟨rb,tb,b1,b2,b3,b4⟩:=(A7 hgb).nxf_lt (s:=p.2) (by omega) (hB c cb e2);refine⟨ca,cb,ra,rb,ta,tb,e1,e2,a1,a2,b1,b2,?_,Bb.2 ⟨by simp only;omega,by simp only;omega⟩⟩;unfold stepP;rw[e1,e2,getD_some,getD_some,a3,b3]
theorem f92 (g:Nat) (op:Bool->Bool->Bool) (hop:∀ x y H,call Pg pol1 g [.bool x,.bool y] H=some (.bool (op x y),H)) (hy:g≠yldF) (a b:AutoL) (hga:GoodA a) (hgb:GoodA b) (hba:AutoB a) (hbb:AutoB b) {top:Int} (hda:DivOk a.cl top) (hdb:DivOk b.cl top) (hbw:bothW a b=0)
  (C:Cls) (hC:∀ H,call Pg pol1 41 [.sl false ((a.cl++b.cl).map setAV9),I top] H=some (.tup [.sl false (C.map setAV9),I 0],H)) (hCd:DivOk C top) (hCl:C.length<=1024) (H:List MB) :
  call Pg pol1 92 [autoAV a,autoAV b,.clo g []] H=some (if(prodR a b C).length<=1024 then pairAV (prodA op a b C,0) else pairAV (zA,4),H):=by
 have h139:=f139 a b hba hbb;rw[hbw]at h139;have h140:=f140 a.cl b.cl (by
  have h1:=hda.top_;have:=(hda.clIx_lt (x:=0) (by omega) (by omega)).1;omega) (by have:=hga.cl;have:=hgb.cl;omega)
 have h72:=f72 a hba (fun s hs=>(hda.set s hs).2);rw[hda.topL_eq.1,hda.topL_eq.2]at h72;have h73a:=f73 a.cl hba.cl hba.sum;have h73b:=f73 b.cl hbb.cl hbb.sum;have h130a:=fun x (h0:0<=x) (h1:x<=top)=>f130 hda hba.sum (x:=x) h0 h1;have h130b:=fun x (h0:0<=x) (h1:x<=top)=>f130 hdb hbb.sum (x:=x) h0 h1;have hpp:=Am (if(prodR a b C).length<=1024 then(prodA op a b C,0) else(zA,4));have hif:(if(prodR a b C).length<=1024 then pairAV (prodA op a b C,0) else pairAV (zA,4))=pairAV (if(prodR a b C).length<=1024 then(prodA op a b C,0) else(zA,4)):=by split<;>rfl
 rw[hif];have hplA:=AX a;have hplB:=AX b;rw[Ck hga,Ck hgb]at *;refine AQ Tryz.func92 rfl rfl rfl rfl rfl rfl (fun _=>rfl) (by simp[AV.plainL,AV.plain,AP,AU,AN]) hpp ?_ H;have c140:=fun H:List MB=>A5 (P:=Pg) (pol:=pol1) (f:=140) (args:=[.sl true [.sl false (a.cl.map setAV9),.sl false (b.cl.map setAV9)]]) (l:=[.sl false [.sl false (a.cl.map setAV9),.sl false (b.cl.map setAV9)]]) (H:=H) (H1:=H) rfl (by
  have hz:fz (.sl true [.sl false (a.cl.map setAV9),.sl false (b.cl.map setAV9)]) H=some (.sl false [.sl false (a.cl.map setAV9),.sl false (b.cl.map setAV9)],H):=by
   unfold fz;simp only[fzA,fzL,BH _ _ _ (AP _)]
  simp only[frzArgs,show pol1.byref 140 0=false from rfl,Bool.false_eq_true,if_false,hz]) (by simp[AV.plainL,AV.plain,AP])
 simp only[h140]at c140;have hroom:roomFor (C.length:Int).toNat 8=true:=AW (by omega) (by omega);generalize hAB:a.cl++b.cl=AB at *;simp +contextual (disch:=omega) only[Tryz.f92,dd92,go_sem,simprocAttr,evAppend,map_append,mu92,h139,c140,h72,hC];refine⟨by unfold dOk;kernel_rfl,by unfold dOk;kernel_rfl,by(show altO _ _ _ _=true;kernel_rfl),SR ?_,?_⟩
 ·have hrep:=AR (List.replicate C.length 0);rw[map_replicate]at hrep;simp[St.swp,tmSwp,AV.swp,AV.beq_refl,AV.under,AV.underL,heapEq,MB.beq_refl,MB.under,swpT,AG,AP,AU,AN,show AV.underL 3 (List.replicate C.length (I 0))=true from AG _ _ hrep]
 unfold findAV at h73a h73b;simp +contextual (disch:=omega) only[Tryz.f92,dd92,go_sem,simprocAttr,evAppend,map_append,mu92,h73a,h73b];repeat' (first|intro _|apply And.intro|(unfold dOk;kernel_rfl)|exact St.beq_refl _|exact Ah|(show altO _ _ _ _=true;kernel_rfl)|(show (_||_)=true;kernel_rfl)|(show (_&&_)=true;kernel_rfl))
 obtain⟨iA,hiA⟩:∃ iA,inC a.cl C=iA:=⟨_,rfl⟩;obtain⟨iB,hiB⟩:∃ iB,inC b.cl C=iB:=⟨_,rfl⟩;have hiAl:iA.length=C.length:=by rw[<- hiA];simp[inC]
 have hiBl:iB.length=C.length:=by rw[<- hiB];simp[inC]
 refine AS (M:=(Ms 92 10)) rfl C.length (fun i=>(⟨193,[(65,I i),(64,I C.length),(63,.sl false (C.map setAV9)),(14,.clo 130 [.pt [.sl false ((sortP (placesL 0 b.cl)).map el3)]]),(13,.clo 130 [.pt [.sl false ((sortP (placesL 0 a.cl)).map el3)]]),(12,.ms 4 1 C.length 0 C.length),(11,.ms 3 1 C.length 0 C.length),(9,.sl false (C.map setAV9)),(6,.rf 2 1 0 0),(4,.rf 1 1 0 0),(3,.rf 0 1 0 0),(2,.clo g [])],[.row 3 [autoN a.cl (nxN a.nx) a.ac] 0,.row 3 [autoN b.cl (nxN b.nx) b.ac] 0,.row 3 [E3] 0,.row 1 ((iA.take i++List.replicate (C.length-i) 0).map NV) 0,.row 1 ((iB.take i++List.replicate (C.length-i) 0).map NV) 0]⟩:St)) (fun i=>True) ?_ ?_ trivial _ ?_
 ·intro i hi _;obtain⟨S,hS⟩:∃ S,C[i]?=some S:=⟨_,zga hi⟩;have hS':(C.map setAV9)[i]?=some (setAV9 S):=by simp[hS]
  obtain⟨q0,q1,_⟩:=hCd.head hS;obtain⟨⟨lo,hi2⟩,S',rfl⟩:∃ p S',S=p::S':=by
   have:=(hCd.set S (zgc hS)).2;cases S with
   | nil=>exact absurd rfl this
   | cons p S'=>exact⟨p,S',rfl⟩
  have ea:=h130a _ q0 q1;have eb:=h130b _ q0 q1;have hA:iA[i]?=some (clIx a.cl (headLo ((lo,hi2)::S'))):=by rw[<- hiA];simp[inC,hS]
  have hB:iB[i]?=some (clIx b.cl (headLo ((lo,hi2)::S'))):=by rw[<- hiB];simp[inC,hS]
  have hfa:=Bd (z:=0) hiAl hA;have hfla:=Be (A:=iA) (z:=0) hiAl (i:=i) (by omega);have hfb:=Bd (z:=0) hiBl hB;have hflb:=Be (A:=iB) (z:=0) hiBl (i:=i) (by omega);rw[<- hfa,<- hfb];simp only[show headLo ((lo,hi2)::S')=lo from rfl]at *;generalize iA.take i++List.replicate (C.length-i) 0=XA at *;generalize iB.take i++List.replicate (C.length-i) 0=XB at *;obtain⟨y,hy⟩:∃ y,XA[i]?=some y:=⟨_,zga (by omega)⟩;have hy':(XA.map NV)[i]?=some (NV y):=by simp[hy]
  obtain⟨z,hz⟩:∃ z,XB[i]?=some z:=⟨_,zga (by omega)⟩;have hz':(XB.map NV)[i]?=some (NV z):=by simp[hz]
  have hseta:(XA.map NV).set i (NV (clIx a.cl lo))=(XA.set i (clIx a.cl lo)).map NV:=by rw[map_set]
  have hsetb:(XB.map NV).set i (NV (clIx b.cl lo))=(XB.set i (clIx b.cl lo)).map NV:=by rw[map_set]
  simp +contextual (disch:=omega) only[Tryz.f92,dd92,go_sem,simprocAttr,evAppend,map_append,mu92,hS',ea,eb,hfla,hflb,hy',hz',hseta,hsetb];repeat' (first|intro _|apply And.intro|(unfold dOk;kernel_rfl)|exact St.beq_refl _|exact Ah|(show altO _ _ _ _=true;kernel_rfl)|(show (_||_)=true;kernel_rfl)|(show (_&&_)=true;kernel_rfl))
  rfl
 ·intro _;rw[B5 hiAl,B5 hiBl];have hzA:∀ b0 b1 b2 b4 b5:MB,fz (.ms 3 1 C.length 0 C.length) [b0,b1,b2,.row 1 (iA.map NV) 0,b4,b5]=some (nsAV iA,[b0,b1,b2,.row 1 (iA.map NV) C.length,b4,b5]):=fun b0 b1 b2 b4 b5=>by
   rw[D7 (id:=3) (z:=0) rfl hiAl];simp[mark,getRow]
  have hzB:∀ b0 b1 b2 b4 b5:MB,fz (.ms 4 1 C.length 0 C.length) [b0,b1,b2,b4,.row 1 (iB.map NV) 0,b5]=some (nsAV iB,[b0,b1,b2,b4,.row 1 (iB.map NV) C.length,b5]):=fun b0 b1 b2 b4 b5=>by
   rw[D7 (id:=4) (z:=0) rfl hiBl];simp[mark,getRow]
  simp +contextual (disch:=omega) only[Tryz.f92,dd92,go_sem,simprocAttr,evAppend,map_append,mu92,hzA,hzB];have hcok:∀ x y:Int,cellsOk [some .i64,some .i64] [.int .i64 x,.int .i64 y]=true:=fun _ _=>rfl;refine⟨hcok 0 0,?_⟩;obtain⟨m,hm⟩:∃ m,C.length=m:=⟨_,rfl⟩;have hiAlt:∀ c t:Nat,iA[c]?=some t->t<a.cl.length:=fun c t h=>by
   rw[<- hiA]at h;simp only[inC,getElem?_map,map_eq_some_iff]at h;obtain⟨S,h1,rfl⟩:=h;obtain⟨q0,q1,_⟩:=hCd.head h1;exact(hda.clIx_lt q0 q1).1
  have hiBlt:∀ c t:Nat,iB[c]?=some t->t<b.cl.length:=fun c t h=>by
   rw[<- hiB]at h;simp only[inC,getElem?_map,map_eq_some_iff]at h;obtain⟨S,h1,rfl⟩:=h;obtain⟨q0,q1,_⟩:=hCd.head h1;exact(hdb.clIx_lt q0 q1).1
  rw[hm]at hiAl hiBl hroom;have hstep:=fun {p:Nat×Nat} (hp:p∈pairsU a.nx.length b.nx.length) {c:Nat} (hc:c<m)=>Hj hga hgb hiAlt hiBlt hiAl hiBl hp hc;obtain⟨R,hR⟩:∃ R,prodR a b C=R:=⟨_,rfl⟩;obtain⟨RES,hRES⟩:∃ RES,pairAV (if(prodR a b C).length<=1024 then(prodA op a b C,0) else(zA,4))=RES:=⟨_,rfl⟩;have hbad:1024<R.length->RES=.tup [.agg [.sl false [],.sl false [],.sl false []],I 4]:=fun h=>by
   rw[<- hRES,hR,if_neg (by omega)];rfl
  have hok:R.length<=1024->RES=.tup [autoN C (R.map (exRow m (stepP (nxN a.nx) (nxN b.nx) iA iB) R)) (R.map fun p=>op (a.ac[p.1]?.getD false) (b.ac[p.2]?.getD false)),I 0]:=fun h=>by
   rw[<- hRES,hR,if_pos h];unfold pairAV prodA;simp only[hR,hiA,hiB,hm,Es]
  rw[hRES];clear hRES hif hpp;unfold prodR at hR;rw[hm,hiA,hiB]at hR;generalize hST:stepP (nxN a.nx) (nxN b.nx) iA iB=st at *;generalize hUU:pairsU a.nx.length b.nx.length=U at *;have hU0:((0,0):Nat×Nat)∈U:=by rw[<- hUU];exact Bb.2 ⟨hga.pos,hgb.pos⟩
  have hUf:∀ x∈U,∀ y∈(List.range m).map (st x),y∈U:=fun x hx y hy=>by
   obtain⟨c,hc,rfl⟩:=mem_map.1 hy;obtain⟨_,_,_,_,_,_,_,_,_,_,_,_,e,h⟩:=hstep hx (mem_range.1 hc);rw[e];exact h
  have hUl:∀ p∈U,p.1<a.nx.length/\p.2<b.nx.length:=fun p hp=>by rw[<- hUU]at hp;exact Bb.1 hp
  obtain⟨rowF,hrowF⟩:∃ f,exRow m st R=f:=⟨_,rfl⟩;obtain⟨acF,hacF⟩:∃ f:Nat×Nat->Bool,(fun p=>op (a.ac[p.1]?.getD false) (b.ac[p.2]?.getD false))=f:=⟨_,rfl⟩;rw[hrowF,hacF]at hok;have hS0:ExI (fun x=>(List.range m).map (st x)) U R 0 [(0,0)]:=by rw[<- hR];exact ExI.start hU0
  have hiAp:=AR iA;have hiBp:=AR iB;have hiAg:∀ c t:Nat,iA[c]?=some t->(iA.map NV)[c]?=some (NV t):=fun c t h=>by simp[h]
  have hiBg:∀ c t:Nat,iB[c]?=some t->(iB.map NV)[c]?=some (NV t):=fun c t h=>by simp[h]
  refine BR (σ:=Nat×List (Nat×Nat)) (M:=(Ms 92 18)) rfl (fun x=>(⟨193,[(20,I x.1),(19,.mpr 9),(18,.ms 8 2 x.2.length 0 x.2.length),(17,.rf 5 1 0 0),(12,nsAV iB),(11,nsAV iA),(9,.sl false (C.map setAV9)),(6,.rf 2 1 0 0),(4,.rf 1 1 0 0),(3,.rf 0 1 0 0),(2,.clo g [])],[.row 3 [autoN a.cl (nxN a.nx) a.ac] 0,.row 3 [autoN b.cl (nxN b.nx) b.ac] 0,.row 3 [E3] 0,.row 1 (iA.map NV) m,.row 1 (iB.map NV) m,.row 3 [.agg [.sl false (C.map setAV9),.ms 6 1 x.1 0 x.1,.ms 7 1 x.1 0 x.1]] 0,.row 1 (((x.2.take x.1).map rowF).map nsAV) 0,.row 1 (((x.2.take x.1).map acF).map AV.bool) 0,.row 2 (x.2.map pAV) 0,.mp (.flat 211 [some .i64,some .i64]) (entK 0 (x.2.map pAV))]⟩:St)) (fun x=>ExI (fun x=>(List.range m).map (st x)) U R x.1 x.2/\x.2.length<=1024) (fun x=>U.length-x.1) (0,[(0,0)]) ?_ ⟨hS0,by simp⟩ _ ?_
  ·rintro⟨i,l⟩ ⟨hI,hl1⟩;by_cases hi:i<l.length
   ·obtain⟨p,hp⟩:∃ p,l[i]?=some p:=⟨_,zga hi⟩;have hpU:=hI.inU p (zgc hp);have hst:=hI.step hUf hp;obtain⟨mR,hmR⟩:=hst.pre;have hp':(l.map pAV)[i]?=some (.agg [NV p.1,NV p.2]):=by simp[hp]
    rw[<- hm]at hroom;simp +contextual (disch:=omega) only[Tryz.f92,dd92,go_sem,simprocAttr,evAppend,map_append,mu92,hp',hroom];repeat' (first|intro _|apply And.intro|(unfold dOk;kernel_rfl)|exact St.beq_refl _|exact Ah|(show altO _ _ _ _=true;kernel_rfl)|(show (_||_)=true;kernel_rfl)|(show (_&&_)=true;kernel_rfl))
    rw[hm];have hrl1:(rowF p).length=m:=by rw[<- hrowF];simp[exRow]
    have hrg:∀ c,c<m->(rowF p)[c]?=some (ixOf R (st p c)):=fun c hc=>by rw[<- hrowF];exact Gd hc
    have hfg:∀ c,c<m->((List.range m).map (st p))[c]?=some (st p c):=fun c hc=>by simp[hc]
    have hfl:((List.range m).map (st p)).length=m:=by simp
    have hpre:=Ce l ((List.range m).map (st p));have hnd:=hI.nodup;have hlU:=hI.inU;have hdx:=AZ hp;have htl:(l.take i).length=i:=by rw[List.length_take];omega
    have hIl:=hI.le;obtain⟨F,hF⟩:∃ F,(List.range m).map (st p)=F:=⟨_,rfl⟩;rw[hF]at hfg hfl hpre;simp only[hF]at hst hmR;generalize hrow1:rowF p=rw1 at *;generalize l.take i=LT at *;have hApre:=BC F l;obtain⟨LR,hLR⟩:∃ LR,LT.map rowF=LR:=⟨_,rfl⟩;obtain⟨LA,hLA⟩:∃ LA,LT.map acF=LA:=⟨_,rfl⟩;rw[hLR,hLA];have hEp:=fun(n:Nat) (X:List (Nat×Nat))=>EH n 0 X;refine AS (M:=(Ms 92 23)) rfl m (fun j=>(⟨193,[(117,I j),(116,I m),(23,.ms 10 1 m 0 m),(22,NV p.2),(21,NV p.1),(20,I i),(19,.mpr 9),(18,.ms 8 2 (addAll l (F.take j)).length 0 (addAll l (F.take j)).length),(17,.rf 5 1 0 0),(12,nsAV iB),(11,nsAV iA),(9,.sl false (C.map setAV9)),(6,.rf 2 1 0 0),(4,.rf 1 1 0 0),(3,.rf 0 1 0 0),(2,.clo g [])],[.row 3 [autoN a.cl (nxN a.nx) a.ac] 0,.row 3 [autoN b.cl (nxN b.nx) b.ac] 0,.row 3 [E3] 0,.row 1 (iA.map NV) m,.row 1 (iB.map NV) m,.row 3 [.agg [.sl false (C.map setAV9),.ms 6 1 i 0 i,.ms 7 1 i 0 i]] 0,.row 1 (LR.map nsAV) 0,.row 1 (LA.map AV.bool) 0,.row 2 ((addAll l (F.take j)).map pAV) 0,.mp (.flat 211 [some .i64,some .i64]) (entK 0 ((addAll l (F.take j)).map pAV)),.row 1 ((rw1.take j++List.replicate (m-j) 0).map NV) 0]⟩:St)) (fun j=>(addAll l (F.take j)).length<=1024) ?_ ?_ (by rw[List.take_zero];exact hl1) _ ?_
    ·intro j hj hle;obtain⟨ca,cb,ra,rb,ta,tb,e1,e2,e3,e4,e5,e6,e7,e8⟩:=hstep hpU hj;have hFj:=hfg j hj;rw[e7]at hFj;have hrj:=hrg j hj;rw[e7]at hrj;have e1':=hiAg _ _ e1;have e2':=hiBg _ _ e2;have e3':((nxN a.nx).map nsAV)[p.1]?=some (nsAV ra):=by simp[e3]
     have e4':(ra.map NV)[ca]?=some (NV ta):=by simp[e4]
     have e5':((nxN b.nx).map nsAV)[p.2]?=some (nsAV rb):=by simp[e5]
     have e6':(rb.map NV)[cb]?=some (NV tb):=by simp[e6]
     have hsn:=DP l (F.take j) (ta,tb);rw[<- AZ hFj]at hsn;have hp1:=hpre j;have hp2:=hpre (j+1);have hnA:(addAll l (F.take j)).Nodup:=A8 _ _ hnd;have hfs:=Bd (z:=0) hrl1 hrj;have hfl2:=Be (A:=rw1) (z:=0) hrl1 (i:=j) (by omega);rw[<- hfs];rw[hsn]at hp2 |-;generalize addAll l (F.take j)=A at *;generalize rw1.take j++List.replicate (m-j) 0=X at *;have hkey:=UI.find (os:=A) (fun _ _=>trivial) hnA (x:=(ta,tb)) trivial;obtain⟨y,hy⟩:∃ y,X[j]?=some y:=⟨_,zga (by omega)⟩;have hy':(X.map NV)[j]?=some (NV y):=by simp[hy]
     obtain⟨m1,hp1⟩:=hp1;have hmR0:=hmR;rw[hp1,List.append_assoc]at hmR;by_cases hm2:(ta,tb)∈A
     ·rw[if_pos hm2];have hk1:findMp (.agg [NV ta,NV tb]) (entK 0 (A.map pAV))=some (NV (ixOf A (ta,tb))):=hkey.1 hm2;have hix:ixOf R (ta,tb)=ixOf A (ta,tb):=Kn hmR hm2;rw[hix]at hrj |-;generalize ixOf A (ta,tb)=u at *;have hset:(X.map NV).set j (NV u)=(X.set j u).map NV:=by rw[map_set]
      simp +contextual (disch:=omega) only[Tryz.f92,dd92,go_sem,simprocAttr,evAppend,map_append,mu92,e1',e2',e3',e4',e5',e6',hcok,hk1,hfl2,hy',hset];repeat' (first|intro _|apply And.intro|(unfold dOk;kernel_rfl)|exact St.beq_refl _|exact Ah|(show altO _ _ _ _=true;kernel_rfl)|(show (_||_)=true;kernel_rfl)|(show (_&&_)=true;kernel_rfl))
      generalize X.set j u=X2;exact(by first|rfl|(refine AO rfl (by rfl) (by rfl) (by rfl) ?_ ?_<;>simp[AV.underL,AV.under,MB.under,AG,AJ,AF,AH,AK,AM,-map_take,AP,AU,AN,AR,hEp,Ft]))
     ·rw[if_neg hm2]at hp2 |-;obtain⟨m2,hp2⟩:=hp2;rw[hp2]at hmR0;rw[List.append_assoc]at hmR0;have hRl:A.length+1<=R.length:=by rw[hmR0];simp
      have hkk:findMp (.agg [NV ta,NV tb]) (entK 0 (A.map pAV))=none/\updMp (.agg [NV ta,NV tb]) (NV A.length) (entK 0 (A.map pAV))=entK 0 ((A++[(ta,tb)]).map pAV):=hkey.2 hm2;obtain⟨hk1,hk2⟩:=hkk;have hix:ixOf R (ta,tb)=A.length:=Ko hmR0 hm2;rw[hix]at hrj |-;by_cases hfull:A.length=1024
      ·have hfi:(A.length:Int)=1024:=by omega
       rw[hbad (by omega)];simp +contextual (disch:=omega) only[Tryz.f92,dd92,go_sem,simprocAttr,evAppend,map_append,mu92,e1',e2',e3',e4',e5',e6',hcok,hk1,hfi];repeat' (first|intro _|apply And.intro|(unfold dOk;kernel_rfl)|exact St.beq_refl _|exact Ah|(show altO _ _ _ _=true;kernel_rfl)|(show (_||_)=true;kernel_rfl)|(show (_&&_)=true;kernel_rfl))
       exact⟨_,rfl⟩
      ·have hfi:¬ (A.length:Int)=1024:=by omega
       have hset:(X.map NV).set j (NV A.length)=(X.set j A.length).map NV:=by rw[map_set]
       have hlen:(A++[(ta,tb)]).length=A.length+1:=by simp
       have a1:=fun(b0 b1 b2 b3 b4 b5 b6 b7 b9 b10 b11:MB) (t:Bool)=>TQ (H:=[b0,b1,b2,b3,b4,b5,b6,b7,.row 2 (A.map pAV) 0,b9,b10,b11]) (i:=8) (n:=A.length) (p:=(ta,tb)) (t:=t) rfl (zero_le _) rfl (by omega);simp only[List.set_cons_succ,List.set_cons_zero]at a1;rw[hlen];simp +contextual (disch:=omega) only[Tryz.f92,dd92,go_sem,simprocAttr,mu92,e1',e2',e3',e4',e5',e6',hcok,hk1,hk2,hfi,a1,hfl2,hy',hset];repeat' (first|intro _|apply And.intro|(unfold dOk;kernel_rfl)|exact St.beq_refl _|exact Ah|(show altO _ _ _ _=true;kernel_rfl)|(show (_||_)=true;kernel_rfl)|(show (_&&_)=true;kernel_rfl))
       generalize X.set j A.length=X2;generalize hA2:A++[(ta,tb)]=A2;rw[hA2]at hlen;rw[<- hlen];exact(by first|rfl|(refine AO rfl (by rfl) (by rfl) (by rfl) ?_ ?_<;>simp[AV.underL,AV.under,MB.under,AG,AJ,AF,AH,AK,AM,-map_take,AP,AU,AN,AR,hEp,Ft]))
    ·intro hle;rw[show F.take m=F from take_of_length_le (by omega)]at hle |-;rw[show rw1.take m=rw1 from take_of_length_le (by omega),Nat.sub_self,List.replicate_zero,List.append_nil];have hAt:(addAll l F).take (i+1)=LT++[p]:=by
      obtain⟨mm,e⟩:=hApre;rw[e,List.take_append_of_le_length (by omega)];exact hdx
     generalize addAll l F=A at *;have hAm:(LR.map nsAV).length=i:=by rw[length_map,<- hLR,length_map];exact htl
     have hBm:LA.length=i:=by rw[<- hLA,length_map];exact htl
     obtain⟨pa,pb⟩:=hUl p hpU;obtain⟨va,hva⟩:∃ v,a.ac[p.1]?=some v:=⟨_,zga (by rw[hga.ac];exact pa)⟩;obtain⟨vb,hvb⟩:∃ v,b.ac[p.2]?=some v:=⟨_,zga (by rw[hgb.ac];exact pb)⟩;have hva':(a.ac.map AV.bool)[p.1]?=some (.bool va):=by simp[hva]
     have hvb':(b.ac.map AV.bool)[p.2]?=some (.bool vb):=by simp[hvb]
     have hacp:acF p=op va vb:=by rw[<- hacF];simp only[hva,hvb,getD_some]
     have hfR:(A.take (i+1)).map rowF=LR++[rw1]:=by rw[hAt,map_append,hLR,map_cons,hrow1];rfl
     have hfA:(A.take (i+1)).map acF=LA++[op va vb]:=by rw[hAt,map_append,hLA,map_cons,hacp];rfl
     have a1:=fun(b0 b1 b2 b3 b4 b5 b7 b8 b9 b10:MB) (t:Bool)=>HD (H:=[b0,b1,b2,b3,b4,b5,.row 1 (LR.map nsAV) 0,b7,b8,b9,b10]) (i:=6) (n:=i) (x:=.ms 10 1 m 0 m) (t:=t) rfl (zero_le _) hAm (by omega) rfl rfl;have a2:=fun(b0 b1 b2 b3 b4 b5 b6 b8 b9 b10:MB) (t:Bool)=>FL (H:=[b0,b1,b2,b3,b4,b5,b6,.row 1 (LA.map AV.bool) 0,b8,b9,b10]) (i:=7) (n:=i) (x:=op va vb) (t:=t) rfl (zero_le _) hBm (by omega);simp only[List.set_cons_succ,List.set_cons_zero]at a1 a2;have hz:∀ b0 b1 b2 b3 b4 b5 b6 b7 b8 b9:MB,fzs (LR.map nsAV++[.ms 10 1 m 0 m]) [b0,b1,b2,b3,b4,b5,b6,b7,b8,b9,.row 1 (rw1.map NV) 0]=some (LR.map nsAV++[nsAV rw1],[b0,b1,b2,b3,b4,b5,b6,b7,b8,b9,.row 1 (rw1.map NV) m]):=fun b0 b1 b2 b3 b4 b5 b6 b7 b8 b9=>by
      refine Dd ?_ _ (AU LR);have:=D7 (id:=10) (z:=0) (H:=[b0,b1,b2,b3,b4,b5,b6,b7,b8,b9,.row 1 (rw1.map NV) 0]) rfl hrl1;unfold fz at this;rw[this];simp[mark,getRow]
     have hbq:=AV.beqL_refl (LR.map nsAV++[.ms 10 1 m 0 m]);simp +contextual (disch:=omega) only[Tryz.f92,dd92,go_sem,simprocAttr,mu92,a1,hz,hbq,hva',hvb',hop,hy,a2];repeat' (first|intro _|apply And.intro|(unfold dOk;kernel_rfl)|exact St.beq_refl _|exact Ah|(show altO _ _ _ _=true;kernel_rfl)|(show (_||_)=true;kernel_rfl)|(show (_&&_)=true;kernel_rfl))
     refine⟨(i+1,A),⟨hst,hle⟩,?_,?_⟩
     ·have:=Ay l U hnd hlU;simp only;omega
     ·simp only;rw[hfR,hfA];have e9:LR.map nsAV++[nsAV rw1]=(LR++[rw1]).map nsAV:=by rw[map_append];rfl
      rw[e9];generalize LR++[rw1]=LR2;generalize LA++[op va vb]=LA2;exact(by first|rfl|(refine AO rfl (by rfl) (by rfl) (by rfl) ?_ ?_<;>simp[AV.underL,AV.under,MB.under,AG,AJ,AF,AH,AK,AM,-map_take,AP,AU,AN,AR,hEp,Ft]))
    ·rw[List.take_zero,List.take_zero,Nat.sub_zero,List.nil_append];have hrp:=AR (List.replicate m 0);rw[map_replicate]at hrp |-;exact(by first|rfl|(refine AO rfl (by rfl) (by rfl) (by rfl) ?_ ?_<;>simp[AV.underL,AV.under,MB.under,AG,AJ,AF,AH,AK,AM,-map_take,AP,AU,AN,AR,hEp,Ft,hrp]))
   ·have hRe:=hI.fin hi;rw[hok (by rw[<- hRe];exact hl1),<- hRe];have hi2:¬ (i:Int)<(l.length:Int):=by omega
    have hil:i=l.length:=by
     have hle2:i<=l.length:=hI.le;omega
    rw[show l.take i=l from take_of_length_le (by omega)];simp +contextual (disch:=omega) only[Tryz.f92,dd92,go_sem,simprocAttr,evAppend,map_append,mu92,hi2];exact⟨_,Ew (CR (AY _ (by simp[AV.plain,AP])) (Av (z:=0) rfl (by simp[hil]) (AU _)) (Av (z:=0) rfl (by simp[hil]) (AN _))) (AY _ rfl)⟩
  ·rw[hm];exact(by first|rfl|(refine AO rfl (by rfl) (by rfl) (by rfl) ?_ ?_<;>simp[AV.underL,AV.under,MB.under,AG,AJ,AF,AH,AK,AM,-map_take,AP,AU,AN,hiAp,hiBp,show MB.underE 10 (entK 0 [pAV (0,0)])=true from EH 10 0 [(0,0)]]))
 ·rw[show iA.take 0++List.replicate (C.length-0) 0=List.replicate C.length 0 from rfl,show iB.take 0++List.replicate (C.length-0) 0=List.replicate C.length 0 from rfl,map_replicate];rfl
end
end Go.Ev
namespace Go.Ev
section
variable {L:List Spans}{E:List Int}{top:Int}
theorem Lp (h:EndsOk top E) {x:Int} (h0:0<=x):∀ n,n<=E.length->x<lastP E top n->∃ k,k<n/\lastP E top k<=x/\x<lastP E top (k+1)
 | 0,_,hx=>by
   rw[BD h.first]at hx;omega
 | n+1,hn,hx=>by
   rcases Int.lt_or_le x (lastP E top n) with h1|h1
   ·obtain⟨k,a,b⟩:=Lp h h0 n (by omega) h1;exact⟨k,by omega,b⟩
   ·exact⟨n,by omega,h1,hx⟩
theorem Fv (h:EndsOk top E) {x:Int} (hx:Sy top x):∃ k,k<E.length/\lastP E top k<=x/\x<lastP E top (k+1):=
 Lp h hx.1 E.length (le_refl _) (by rw[By (le_refl _)];have:=hx.2;omega)
theorem F9 (h:EndsOk top E) {k:Nat}{e:Int} (he:e∈E) (hk:lastP E top k<e):lastP E top (k+1)<=e:=by
 obtain⟨j,hj⟩:=getElem?_of_mem he;have hjl:=(zgb.1 hj).1;have e1:=BD (top:=top) hj;rcases Nat.lt_trichotomy j k with g|g|g
 ·rcases lt_or_ge k E.length with g2|g2
  ·have:=h.mono g (by omega);omega
  ·have:=(h.le e he).2;rw[By g2]at hk;omega
 ·subst g;omega
 ·rcases Nat.lt_or_eq_of_le (show k+1<=j from g) with g2|g2
  ·have:=h.mono g2 (by omega);omega
  ·rw[g2];omega
theorem Nv (ht:0<=top) (hs:∀ s∈L,SetV s) {k:Nat}{x:Int} (hxt:x<=top) (h1:lastP (endsR L top) top k<=x) (h2:x<lastP (endsR L top) top (k+1)):colA L x=colK L (endsR L top) top k:=by
 have hE:=C0 ht hs;refine List.map_congr_left fun s hsm=>?_;rw[Bool.eq_iff_iff,Ab,Ab];constructor
 ·rintro⟨p,hp,a1,a2⟩;refine⟨p,hp,?_,by omega⟩;rcases Int.lt_or_le (lastP (endsR L top) top k) p.1 with g|g
  ·have:=F9 hE ((Ey ht hs).2 (.inr ⟨s,hsm,p,hp,.inl rfl,by omega⟩)) g;omega
  ·exact g
 ·rintro⟨p,hp,a1,a2⟩;refine⟨p,hp,by omega,?_⟩;rcases Int.lt_or_le p.2 x with g|g
  ·have:=F9 hE ((Ey ht hs).2 (.inr ⟨s,hsm,p,hp,.inr rfl,by omega⟩)) (show lastP (endsR L top) top k<p.2+1 by omega);omega
  ·exact g
def rawOf (col:Nat->List Bool) (pc:Nat->Int×Int) (c:List Bool):Nat->Spans
 | 0=>[]
 | n+1=>if col n=c then rawOf col pc c n++[pc n] else rawOf col pc c n
theorem Cm {col:Nat->List Bool}{pc:Nat->Int×Int}{c:List Bool}{p:Int×Int}:∀ {n:Nat},p∈rawOf col pc c n↔∃ k,k<n/\col k=c/\pc k=p
 | 0=>by simp[rawOf]
 | n+1=>by
   have ih:=Cm (col:=col) (pc:=pc) (c:=c) (p:=p) (n:=n);rw[rawOf];split
   ·rename_i hc;rw[mem_append,ih,List.mem_singleton];constructor
    ·rintro(⟨k,a,b⟩|rfl)
     ·exact⟨k,by omega,b⟩
     ·exact⟨n,by omega,hc,rfl⟩
    ·rintro⟨k,a,b,d⟩;rcases lt_or_ge k n with g|g
     ·exact .inl ⟨k,g,b,d⟩
     ·obtain rfl:k=n:=by omega
      exact .inr d.symm
   ·rename_i hc;rw[ih];constructor
    ·rintro⟨k,a,b⟩;exact⟨k,by omega,b⟩
    ·rintro⟨k,a,b,d⟩;rcases lt_or_ge k n with g|g
     ·exact⟨k,g,b,d⟩
     ·obtain rfl:k=n:=by omega
      exact absurd b hc
theorem HP (h:EndsOk top E) (htp:top<=1114111) (col:Nat->List Bool) (c:List Bool):∀ n,n<=E.length->SetOk (rawOf col (pieceA E top) c n) (clsOf col (pieceA E top) c n)
 | 0,_=>.nil
 | n+1,hn=>by
   have ih:=HP h htp col c n (by omega);rw[rawOf,clsOf];split
   ·have hst:=h.step (k:=n) (by omega);refine ih.add ⟨hst.2.1,by simp only[pieceA];omega,by simp only[pieceA];omega⟩ fun q hq=>?_;obtain⟨k,hk,_,rfl⟩:=Cm.1 hq;have:=h.mono hk (by omega);simp only[pieceA];omega
   ·exact ih
theorem Cl {col:Nat->List Bool}:∀ {n i k':Nat}{c':List Bool},(firsts col n)[i+1]?=some c'->k'<n->col k' = c'->∃ k,k<k'/\(firsts col n)[i]?=some (col k)
 | 0,i,k',c',_,h,_=>by omega
 | n+1,i,k',c',h,hk,hc=>by
   by_cases hm:col n∈firsts col n
   ·have e:firsts col (n+1)=firsts col n:=by rw[firsts,if_pos hm]
    rw[e]at h |-;rcases lt_or_ge k' n with g|g
    ·exact Cl h g hc
    ·obtain rfl:k' = n:=by omega
     obtain⟨k2,g1,g2⟩:=BB.1 hm;obtain⟨k,a,b⟩:=Cl h g1 (g2.trans hc);exact⟨k,by omega,b⟩
   ·have e:firsts col (n+1)=firsts col n++[col n]:=by rw[firsts,if_neg hm]
    rw[e]at h |-;have hlt:=(zgb.1 h).1;simp at hlt;rw[List.getElem?_append_left hlt];rcases lt_or_ge (i+1) (firsts col n).length with g2|g2
    ·rw[List.getElem?_append_left g2]at h;rcases lt_or_ge k' n with g|g
     ·exact Cl h g hc
     ·obtain rfl:k' = n:=by omega
      exact absurd (zgc h) (by rw[<- hc];exact hm)
    ·rw[List.getElem?_append_right g2,show i+1-(firsts col n).length=0 by omega]at h;simp at h;rcases lt_or_ge k' n with g|g
     ·exact absurd (BB.2 ⟨k',g,hc.trans h.symm⟩) hm
     ·obtain rfl:k' = n:=by omega
      have hg:=zga hlt;obtain⟨k,a,b⟩:=BB.1 (zgc hg);exact⟨k,a,by rw[hg,b]⟩
theorem GL (htp:top=255∨top=1114111) (hs:∀ s∈L,SetV s) {C:Cls} (h:splitA L (endsR L top) top=some C) :
  DivOk C top/\C.length<=1024/\(∀ s∈C,s.length<=64)/\∀ x y,Sy top x->Sy top y->(clIx C x=clIx C y↔colA L x=colA L y):=by
 have ht:0<=top:=by omega
 have htp':top<=1114111:=by omega
 have hE:=C0 ht hs;have hC:¬ tooBig (colK L (endsR L top) top) (pieceA (endsR L top) top) (endsR L top).length/\C=classesA (colK L (endsR L top) top) (pieceA (endsR L top) top) (endsR L top).length:=by
  unfold splitA at h;split at h
  ·cases h
  ·rename_i hb;exact⟨hb,(Option.some.inj h).symm⟩
 obtain⟨hb,hC⟩:=hC;have hcolp:=fun {k:Nat}{x:Int} (hxt:x<=top) (h1:lastP (endsR L top) top k<=x) (h2:x<lastP (endsR L top) top (k+1))=>Nv ht hs hxt h1 h2;generalize endsR L top=E at *;obtain⟨col,hcol⟩:∃ col,colK L E top=col:=⟨_,rfl⟩;rw[hcol]at hb hC;have hcolp':∀ {k:Nat}{x:Int},x<=top->lastP E top k<=x->x<lastP E top (k+1)->colA L x=col k:=fun a b c=>by rw[<- hcol];exact hcolp a b c
 obtain⟨N,hN⟩:∃ N,E.length=N:=⟨_,rfl⟩;rw[hN]at hb hC;have hget:∀ {i:Nat}{s:Spans},C[i]?=some s->∃ c,(firsts col N)[i]?=some c/\s=clsOf col (pieceA E top) c N:=fun {i s} hi=>by
  rw[hC]at hi;simp only[classesA,getElem?_map,map_eq_some_iff]at hi;obtain⟨c,a,b⟩:=hi;exact⟨c,a,b.symm⟩
 have hget2:∀ {i:Nat}{c:List Bool},(firsts col N)[i]?=some c->C[i]?=some (clsOf col (pieceA E top) c N):=fun {i c} hi=>by
  rw[hC];simp[classesA,hi]
 have hhas:∀(i:Nat) (s:Spans) (x:Int),C[i]?=some s->(hasSpan s x=true↔Sy top x/\(firsts col N)[i]?=some (colA L x)):=fun i s x hi=>by
  obtain⟨c,hc,rfl⟩:=hget hi;have hso:=HP hE htp' col c N (by omega);rw[hso.has x,Ab];constructor
  ·rintro⟨p,hp,a1,a2⟩;obtain⟨k,hk,hck,rfl⟩:=Cm.1 hp;have hst:=hE.step (k:=k) (by omega);simp only[pieceA]at a1 a2;refine⟨⟨by omega,by omega⟩,?_⟩;rw[hcolp' (k:=k) (by omega) a1 (by omega),hck];exact hc
  ·rintro⟨hx,hf⟩;obtain⟨k,hk,a1,a2⟩:=Fv hE hx;have hc2:c=colA L x:=by rw[hc]at hf;exact Option.some.inj hf
   exact⟨pieceA E top k,Cm.2 ⟨k,by omega,by rw[hc2];exact(hcolp' hx.2 a1 a2).symm,rfl⟩,a1,by simp only[pieceA];omega⟩
 have hset:∀ s∈C,refSpans s=0/\s≠[]/\s.length<=64:=fun s hsm=>by
  obtain⟨i,hi⟩:=getElem?_of_mem hsm;obtain⟨c,hc,e⟩:=hget hi;have hcm:=zgc hc;have hso:=HP hE htp' col c N (by omega);have hl:(clsOf col (pieceA E top) c N).length<=64:=by
   rcases lt_or_ge 64 (clsOf col (pieceA E top) c N).length with g|g
   ·exact absurd (.inr ⟨c,hcm,g⟩) hb
   ·exact g
  have hp:=Gk (pc:=pieceA E top) hcm;rw[e];exact⟨Gx hso.sep hso.good hl,fun e0=>by rw[e0]at hp;simp at hp,hl⟩
 have hlen:C.length<=1024:=by
  rw[hC,BJ];rcases lt_or_ge 1024 (firsts col N).length with g|g
  ·exact absurd (.inl g) hb
  ·exact g
 have hcov:∀ x,Sy top x->∃ i s,C[i]?=some s/\hasSpan s x=true:=fun x hx=>by
  obtain⟨k,hk,a1,a2⟩:=Fv hE hx;have hm:colA L x∈firsts col N:=BB.2 ⟨k,by omega,(hcolp' hx.2 a1 a2).symm⟩;obtain⟨i,hi⟩:=getElem?_of_mem hm;have:=hget2 hi;exact⟨i,_,this,(hhas _ _ _ this).2 ⟨hx,hi⟩⟩
 have huniq:∀(i j:Nat) (s t:Spans) (x:Int),C[i]?=some s->C[j]?=some t->hasSpan s x=true->hasSpan t x=true->i=j:=fun i j s t x hi hj h1 h2=>by
  have a:=((hhas _ _ _ hi).1 h1).2;have b:=((hhas _ _ _ hj).1 h2).2;have hi':=(zgb.1 a).1;exact(List.getElem?_inj hi' (Bm N)).1 (a.trans b.symm)
 have hdiv:DivOk C top:=by
  refine Q9 htp (fun s hsm=>⟨(hset s hsm).1,(hset s hsm).2.1⟩) (fun i s t hi hj=>?_) (fun s hsm x hx=>?_) (fun x hx=>?_) huniq
  ·have hs1:=hset s (zgc hi);have ht1:=hset t (zgc hj);obtain⟨k1,k2⟩:=(hhas _ _ _ hj).1 (D5 ht1.1 ht1.2.1);obtain⟨k',hk',a1,a2⟩:=Fv hE k1;have e':=hcolp' k1.2 a1 a2;obtain⟨k,hk,b⟩:=Cl k2 (by omega:k'<N) e'.symm;have hst:=hE.step (k:=k) (by omega);have h5:hasSpan s (lastP E top k)=true:=(hhas _ _ _ hi).2 ⟨⟨hst.2.1,hst.2.2.1⟩,by rw[hcolp' hst.2.2.1 (Int.le_refl _) hst.1];exact b⟩;have h6:=Eu hs1.1 h5;have h7:=hE.mono hk (by omega);omega
  ·obtain⟨i,hi⟩:=getElem?_of_mem hsm;exact((hhas _ _ _ hi).1 hx).1
  ·obtain⟨i,s,hi,h⟩:=hcov x hx;exact⟨s,zgc hi,h⟩
 refine⟨hdiv,hlen,fun s hsm=>(hset s hsm).2.2,fun x y hx hy=>?_⟩;obtain⟨i,s,hi,h1⟩:=hcov x hx;obtain⟨j,t,hj,h2⟩:=hcov y hy;rw[hdiv.clIx_eq hi h1,hdiv.clIx_eq hj h2];have e1:=((hhas _ _ _ hi).1 h1).2;have e2:=((hhas _ _ _ hj).1 h2).2;constructor
 ·rintro rfl;rw[e1]at e2;exact Option.some.inj e2
 ·intro e;rw[<- e]at e2;exact(List.getElem?_inj (zgb.1 e1).1 (Bm N)).1 (e1.trans e2.symm)
end
end Go.Ev
namespace Go.Ev
attribute [local go_sem] AV.cells An As bndO bnd evEq eqCells not_false_eq_true not_true_eq_false toList_some Array.size_empty length_append tySzE head?_drop mul_one Ac Aj Aa Ad Ae AW
section
attribute [local go_sem] evAppend evBin strOf map_append
theorem f78 (x y:Bool) (H:List MB):call Pg pol1 78 [.bool x,.bool y] H=some (.bool (x&&y),H):=by
 cases x<;>cases y<;>exact BG (n:=5) 6 78 _ _ _ (by kernel_rfl)
theorem f80 (x y:Bool) (H:List MB):call Pg pol1 80 [.bool x,.bool y] H=some (.bool (x||y),H):=by
 cases x<;>cases y<;>exact BG (n:=5) 6 80 _ _ _ (by kernel_rfl)
noncomputable def splitW (a b:AutoL):Option Cls:=if 1024<(a.cl++b.cl).length then none else splitA (a.cl++b.cl) (endsR (a.cl++b.cl) (topZ a.cl.flatten)) (topZ a.cl.flatten)
noncomputable def prodW (op:Bool->Bool->Bool) (a b:AutoL):AutoL×Int:=
 if bothW a b≠0 then(zA,bothW a b) else match splitW a b with
  | none=>(zA,4)
  | some C=>if(prodR a b C).length<=1024 then(prodA op a b C,0) else(zA,4)
noncomputable def combW (op:Bool->Bool->Bool) (a b:AutoL):AutoL×Int:=if(prodW op a b).2≠0 then(zA,(prodW op a b).2) else lstW (prodW op a b).1
theorem HU {a b:AutoL} (h:bothW a b=0):GoodA a/\GoodA b/\DivOk a.cl (topZ a.cl.flatten)/\DivOk b.cl (topZ a.cl.flatten):=by
 unfold bothW at h;split at h
 ·rename_i h1;exact absurd h h1
 ·rename_i h1;split at h
  ·rename_i h2;exact absurd h h2
  ·rename_i h2;split at h
   ·cases h
   ·rename_i h3;have h1:validW (dividesA a.cl) a=0:=by omega
    have h2:validW (dividesA b.cl) b=0:=by omega
    obtain⟨g1,d1⟩:=A0 h1;obtain⟨g2,d2⟩:=A0 h2;refine⟨g1,g2,B7 d1,?_⟩;have h3:topZ a.cl.flatten=topZ b.cl.flatten:=by omega
    rw[h3];exact B7 d2
theorem f92e (g:Nat) (a b:AutoL) (hba:AutoB a) (hbb:AutoB b) (hbw:bothW a b≠0) (H:List MB) :
  call Pg pol1 92 [autoAV a,autoAV b,.clo g []] H=some (pairAV (zA,bothW a b),H):=by
 have h139:=f139 a b hba hbb;have hpl:=AX a;have hpl2:=AX b;generalize bothW a b=e at *;refine AQ Tryz.func92 rfl rfl rfl rfl rfl rfl (fun _=>rfl) (by simp[AV.plainL,AV.plain,AP,AT,AN]) (Am _) ?_ H;unfold pairAV;simp +contextual (disch:=omega) only[Tryz.f92,dd92,go_sem,simprocAttr,mu92,h139,hbw];exact⟨_,rfl⟩
theorem f92s (g:Nat) (a b:AutoL) (hga:GoodA a) (hgb:GoodA b) (hba:AutoB a) (hbb:AutoB b) {top:Int} (hda:DivOk a.cl top) (hbw:bothW a b=0)
  (hC:∀ H,call Pg pol1 41 [.sl false ((a.cl++b.cl).map setAV9),I top] H=some (.tup [.sl false [],I 4],H)) (H:List MB) :
  call Pg pol1 92 [autoAV a,autoAV b,.clo g []] H=some (pairAV (zA,4),H):=by
 have h139:=f139 a b hba hbb;rw[hbw]at h139;have h140:=f140 a.cl b.cl (by
  have h1:=hda.top_;have:=(hda.clIx_lt (x:=0) (by omega) (by omega)).1;omega) (by have:=hga.cl;have:=hgb.cl;omega)
 have h72:=f72 a hba (fun s hs=>(hda.set s hs).2);rw[hda.topL_eq.1,hda.topL_eq.2]at h72;refine AQ Tryz.func92 rfl rfl rfl rfl rfl rfl (fun _=>rfl) (by simp[AV.plainL,AV.plain,AP,AT,AN]) (Am _) ?_ H;have c140:=fun H:List MB=>A5 (P:=Pg) (pol:=pol1) (f:=140) (args:=[.sl true [.sl false (a.cl.map setAV9),.sl false (b.cl.map setAV9)]]) (l:=[.sl false [.sl false (a.cl.map setAV9),.sl false (b.cl.map setAV9)]]) (H:=H) (H1:=H) rfl (by
  have hz:fz (.sl true [.sl false (a.cl.map setAV9),.sl false (b.cl.map setAV9)]) H=some (.sl false [.sl false (a.cl.map setAV9),.sl false (b.cl.map setAV9)],H):=by
   unfold fz;simp only[fzA,fzL,BH _ _ _ (AP _)]
  simp only[frzArgs,show pol1.byref 140 0=false from rfl,Bool.false_eq_true,if_false,hz]) (by simp[AV.plainL,AV.plain,AP])
 simp only[h140]at c140;generalize hAB:a.cl++b.cl=AB at *;unfold pairAV;simp +contextual (disch:=omega) only[Tryz.f92,dd92,go_sem,simprocAttr,mu92,h139,c140,h72,hC];repeat' (first|intro _|apply And.intro|(unfold dOk;kernel_rfl)|exact St.beq_refl _|exact Ah|(show altO _ _ _ _=true;kernel_rfl)|(show (_||_)=true;kernel_rfl)|(show (_&&_)=true;kernel_rfl))
 exact⟨_,rfl⟩
theorem Dv {s:Spans} (h:refSpans s=0):SetV s/\s.length<=64:=⟨⟨(BN h).imp (fun h=>by omega),At h⟩,(Az h).2⟩
theorem f92W (g:Nat) (op:Bool->Bool->Bool) (hop:∀ x y H,call Pg pol1 g [.bool x,.bool y] H=some (.bool (op x y),H)) (hy:g≠yldF) (a b:AutoL) (hba:AutoB a) (hbb:AutoB b) (H:List MB) :
  call Pg pol1 92 [autoAV a,autoAV b,.clo g []] H=some (pairAV (prodW op a b),H):=by
 unfold prodW;by_cases hbw:bothW a b=0
 ·rw[if_neg (by simp[hbw])];obtain⟨hga,hgb,hda,hdb⟩:=HU hbw;have ht:=hda.top_;have hLs:∀ s∈a.cl++b.cl,refSpans s=0:=fun s hs=>by
   rcases mem_append.1 hs with h|h
   ·exact(hda.set s h).1
   ·exact(hdb.set s h).1
  have h41:=sf34 (a.cl++b.cl) (topZ a.cl.flatten) (by omega) (by omega) (fun s hs=>(Dv (hLs s hs)).1) hLs (by have:=hga.cl;have:=hgb.cl;simp;omega) (fun s hs=>(Dv (hLs s hs)).2);have h41':∀ H,call Pg pol1 41 [.sl false ((a.cl++b.cl).map setAV9),I (topZ a.cl.flatten)] H=some (splitR (splitW a b),H):=fun H=>by
   rw[h41 H];unfold splitW;split<;>rfl
  cases hsp:splitW a b with
  | none=>
    rw[hsp]at h41';exact f92s g a b hga hgb hba hbb hda hbw h41' H
  | some C=>
    rw[hsp]at h41';have hCd:=GL ht (fun s hs=>(Dv (hLs s hs)).1) (show splitA (a.cl++b.cl) (endsR (a.cl++b.cl) (topZ a.cl.flatten)) (topZ a.cl.flatten)=some C by
     unfold splitW at hsp;split at hsp
     ·cases hsp
     ·exact hsp)
    rw[f92 g op hop hy a b hga hgb hba hbb hda hdb hbw C h41' hCd.1 hCd.2.1 H];simp only[];split<;>rfl
 ·rw[if_pos hbw];exact f92e g a b hba hbb hbw H
end
end Go.Ev
namespace Go.Ev
section
variable {σ:Type} [DecidableEq σ] {m:Nat}{step:σ->Nat->σ}{first:σ}{R:List σ}{acc:σ->Bool}{C:Cls}{top:Int}
def exA (C:Cls) (m:Nat) (step:σ->Nat->σ) (acc:σ->Bool) (R:List σ):AutoL:=natA C (R.map (exRow m step R)) (R.map acc)
theorem Cy (h:Expl m step first R) (hm:C.length=m) (hC:C.length<=1024) (hR:R.length<=1024):GoodA (exA C m step acc R):=by
 have hpos:=getElem?_ne_none h.l0;refine⟨hC,by simp[exA,natA];exact hpos,by simp[exA,natA];exact hR,by simp[exA,natA],fun row hrow=>?_⟩;simp only[exA,natA,map_map,mem_map]at hrow;obtain⟨x,hx,rfl⟩:=hrow;refine⟨by simp[exRow,exA,natA,hm],fun t ht=>?_⟩;simp only[Function.comp,exRow,map_map,mem_map,mem_range]at ht;obtain⟨c,hc,rfl⟩:=ht;have:=List.idxOf_lt_length_of_mem (h.closed hx hc);simp only[Function.comp,exA,natA,length_map];omega
theorem Ex (hm:C.length=m):Agree (exDA m step acc (clIx C) R) (autoDA (exA C m step acc R)) top where
 n:=by simp[autoDA,exA,natA,exDA]
 m:=by simp[autoDA,exA,natA,exDA,hm]
 nx:=fun s c hs hc=>by
  have hs':s<R.length:=hs;have hc':c<m:=hc;have e:=zga hs';simp only[autoDA,exA,natA,exDA,stepC,getElem?_map,e,map_some,getD_some,exRow,List.getElem?_range hc',Int.toNat_natCast]
 ac:=fun s hs=>by
  have hs':s<R.length:=hs;have e:=zga hs';simp only[autoDA,exA,natA,exDA,getElem?_map,e,map_some,getD_some]
 cl:=fun x _=>rfl
theorem Dk (hd:DivOk C top):∀ c,c<C.length->∃ x,Sy top x/\clIx C x=c:=fun c hc=>by
 obtain⟨a,b,e⟩:=hd.head (zga hc);exact⟨_,⟨a,b⟩,e⟩
theorem Pk (h:Expl m step first R) (hm:C.length=m) (hd:DivOk C top) {w:List Int} (hw:Tx top w):(autoDA (exA C m step acc R)).ac ((autoDA (exA C m step acc R)).run 0 w)=acc (runT step (clIx C) first w):=by
 have hcl:∀ x,Sy top x->clIx C x<m:=fun x hx=>by rw[<- hm];exact(hd.clIx_lt hx.1 hx.2).1
 have hsj:∀ c,c<m->∃ x,Sy top x/\clIx C x=c:=fun c hc=>Dk hd c (by omega);have ho:=h.ok (acc:=acc) hcl hsj;have hag:=Ex (step:=step) (acc:=acc) (R:=R) (top:=top) hm;have hlt:=ho.run_lt w 0 hw ho.pos;rw[hag.run ho w 0 hw ho.pos,hag.ac _ hlt];exact h.texts hcl hw
end
section
variable {a b:AutoL}{C:Cls}{top:Int}
theorem Qy {a:AutoL} (hda:DivOk a.cl top) (hC:DivOk C top):∀ c t:Nat,(inC a.cl C)[c]?=some t->t<a.cl.length:=fun c t h=>by
 simp only[inC,getElem?_map,map_eq_some_iff]at h;obtain⟨S,h1,rfl⟩:=h;obtain⟨q0,q1,_⟩:=hC.head h1;exact(hda.clIx_lt q0 q1).1
theorem PT (hga:GoodA a) (hgb:GoodA b) (hda:DivOk a.cl top) (hdb:DivOk b.cl top) (hC:DivOk C top) :
  Expl C.length (stepP (nxN a.nx) (nxN b.nx) (inC a.cl C) (inC b.cl C)) (0,0) (prodR a b C)/\(prodR a b C).length<=a.nx.length*b.nx.length:=by
 have hst:=fun {p:Nat×Nat} (hp:p∈pairsU a.nx.length b.nx.length) {c:Nat} (hc:c<C.length)=>Hj hga hgb (Qy hda hC) (Qy hdb hC) (m:=C.length) (by simp[inC]) (by simp[inC]) hp hc;have hU:∀ x∈pairsU a.nx.length b.nx.length,∀ c,c<C.length->stepP (nxN a.nx) (nxN b.nx) (inC a.cl C) (inC b.cl C) x c∈pairsU a.nx.length b.nx.length:=fun x hx c hc=>by
  obtain⟨_,_,_,_,_,_,_,_,_,_,_,_,e,h⟩:=hst hx hc;rw[e];exact h
 have h0:((0,0):Nat×Nat)∈pairsU a.nx.length b.nx.length:=Bb.2 ⟨hga.pos,hgb.pos⟩;refine⟨HO hU h0 rfl,?_⟩;have hU':∀ x∈pairsU a.nx.length b.nx.length,∀ y∈(List.range C.length).map (stepP (nxN a.nx) (nxN b.nx) (inC a.cl C) (inC b.cl C) x),y∈pairsU a.nx.length b.nx.length:=fun x hx y hy=>by
  obtain⟨c,hc,rfl⟩:=mem_map.1 hy;exact hU x hx c (mem_range.1 hc)
 have hl:=Ay (prodR a b C) (pairsU a.nx.length b.nx.length) F8 (IZ hU' h0);have:(pairsU a.nx.length b.nx.length).length=a.nx.length*b.nx.length:=by
  have hsum:∀ n k:Nat,((List.range n).map fun _=>k).sum=n*k:=fun n k=>by
   induction n with
   | zero=>simp
   | succ n ih=>rw[List.range_succ,map_append,List.sum_append,ih];simp[Nat.succ_mul]
  simp[pairsU,List.length_flatMap,hsum]
 omega
theorem Qa (op:Bool->Bool->Bool):prodA op a b C=exA C C.length (stepP (nxN a.nx) (nxN b.nx) (inC a.cl C) (inC b.cl C)) (fun p=>op (a.ac[p.1]?.getD false) (b.ac[p.2]?.getD false)) (prodR a b C):=rfl
theorem G7 {cl L:Cls} (hs:∀ s∈cl,s∈L) {x y:Int} (h:colA L x=colA L y):clIx cl x=clIx cl y:=by
 have hx:∀ s∈cl,hasSpan s x=hasSpan s y:=fun s hsm=>by
  obtain⟨i,hi⟩:=getElem?_of_mem (hs s hsm);have:=congrArg (fun l:List Bool=>l[i]?) h;simp only[colA,getElem?_map,hi,map_some,Option.some.injEq]at this;exact this
 clear hs h;unfold clIx
 induction cl with
 | nil=>rfl
 | cons s cl ih=>
   rw[List.findIdx_cons,List.findIdx_cons,hx s (by simp),ih (fun t ht=>hx t (by simp[ht]))]
structure Refines (cl C:Cls) (top:Int):Prop where
 of:∀ x y,Sy top x->Sy top y->clIx C x=clIx C y->clIx cl x=clIx cl y
theorem Refines.at {cl:Cls} (h:Refines cl C top) (hC:DivOk C top) {x:Int} (hx:Sy top x):(inC cl C)[clIx C x]?=some (clIx cl x):=by
 obtain⟨g1,_⟩:=hC.clIx_lt hx.1 hx.2;have e:=zga g1;obtain⟨q0,q1,q2⟩:=hC.head e;simp only[inC,getElem?_map,e,map_some];rw[h.of _ x ⟨q0,q1⟩ hx q2]
def Lg (A:DA) (w:List Int):Bool:=A.ac (A.run 0 w)
theorem PS (op:Bool->Bool->Bool) (hga:GoodA a) (hgb:GoodA b) (hda:DivOk a.cl top) (hdb:DivOk b.cl top) (hC:DivOk C top) (hCl:C.length<=1024) (hR:(prodR a b C).length<=1024):GoodA (prodA op a b C):=by
 rw[Qa];exact Cy (PT hga hgb hda hdb hC).1 rfl hCl hR
end
end Go.Ev
namespace Go.Ev
attribute [local go_sem] AV.cells An As bndO bnd evEq eqCells not_false_eq_true not_true_eq_false toList_some Array.size_empty length_append tySzE head?_drop mul_one Ac Aj Aa Ad Ae AW
section
attribute [local go_sem] evAppend evBin strOf map_append
theorem Gm {a b:AutoL} (hbw:bothW a b=0):∀ s∈a.cl++b.cl,refSpans s=0:=fun s hs=>by
 obtain⟨hga,hgb,hda,hdb⟩:=HU hbw;rcases mem_append.1 hs with h|h
 ·exact(hda.set s h).1
 ·exact(hdb.set s h).1
theorem Hl {a b:AutoL} (hbw:bothW a b=0) {C:Cls} (h:splitW a b=some C):DivOk C (topZ a.cl.flatten)/\C.length<=1024/\Refines a.cl C (topZ a.cl.flatten)/\Refines b.cl C (topZ a.cl.flatten):=by
 obtain⟨hga,hgb,hda,hdb⟩:=HU hbw;have hsp:=GL hda.top_ (fun s hs=>(Dv (Gm hbw s hs)).1) (show splitA (a.cl++b.cl) (endsR (a.cl++b.cl) (topZ a.cl.flatten)) (topZ a.cl.flatten)=some C by
  unfold splitW at h;split at h
  ·cases h
  ·exact h)
 refine⟨hsp.1,hsp.2.1,⟨fun x y hx hy e=>?_⟩,⟨fun x y hx hy e=>?_⟩⟩
 ·exact G7 (fun s hs=>List.mem_append_left _ hs) ((hsp.2.2.2 x y hx hy).1 e)
 ·exact G7 (fun s hs=>List.mem_append_right _ hs) ((hsp.2.2.2 x y hx hy).1 e)
theorem FU {op:Bool->Bool->Bool}{a b:AutoL} (h:(prodW op a b).2=0):GoodA (prodW op a b).1/\DivOk (prodW op a b).1.cl (topZ a.cl.flatten):=by
 unfold prodW at h |-;by_cases hbw:bothW a b=0
 ·rw[if_neg (by simp[hbw])]at h |-;obtain⟨hga,hgb,hda,hdb⟩:=HU hbw;cases hsp:splitW a b with
  | none=>rw[hsp]at h;cases h
  | some C=>
    rw[hsp]at h;obtain⟨hC,hCl,hra,hrb⟩:=Hl hbw hsp;simp only[]at h |-;split at h
    ·rename_i hR;rw[if_pos hR];exact⟨PS op hga hgb hda hdb hC hCl hR,hC⟩
    ·cases h
 ·rw[if_pos hbw]at h;exact absurd h hbw
theorem f77 (g:Nat) (op:Bool->Bool->Bool) (hop:∀ x y H,call Pg pol1 g [.bool x,.bool y] H=some (.bool (op x y),H)) (hy:g≠yldF) (a b:AutoL) (hba:AutoB a) (hbb:AutoB b) (H:List MB) :
  call Pg pol1 77 [autoAV a,autoAV b,.clo g []] H=some (pairAV (combW op a b),H):=by
 have h92:=f92W g op hop hy a b hba hbb;have hg:=@FU op a b;have hpp:=Am (combW op a b);have hpl:=AX a;have hpl2:=AX b;refine AQ Tryz.func77 rfl rfl rfl rfl rfl rfl (fun _=>rfl) (by simp[AV.plainL,AV.plain,AP,AT,AN]) hpp ?_ H;unfold combW at hpp |-;generalize prodW op a b=r at *;obtain⟨r,e⟩:=r;simp only at hg hpp |-;by_cases he:e=0
 ·subst he;rw[if_neg (by simp)]at hpp |-;obtain⟨g1,g2⟩:=hg rfl;have h60:=f60L g1 g2;have hplr:=AX r;unfold pairAV at h60 hpp |- h92;generalize lstW r=q at *;obtain⟨q,e⟩:=q;simp only at h60 hpp |- h92;obtain⟨cl,nx,ac⟩:=r;simp +contextual (disch:=omega) only[Tryz.f77,dd77,go_sem,simprocAttr,mu77,h92,h60];exact fzEq hpp rfl
 ·rw[if_pos he]at hpp |-;unfold pairAV at hpp |- h92;simp only at hpp |- h92;obtain⟨cl,nx,ac⟩:=r;simp +contextual (disch:=omega) only[Tryz.f77,dd77,go_sem,simprocAttr,mu77,h92,he];exact⟨_,rfl⟩
noncomputable def meetW (a b:AutoL):AutoL×Int:=combW (fun x y=>x&&y) a b
noncomputable def unionW (a b:AutoL):AutoL×Int:=combW (fun x y=>x||y) a b
theorem f33 (a b:AutoL) (hba:AutoB a) (hbb:AutoB b) (H:List MB):call Pg pol1 33 [autoAV a,autoAV b] H=some (pairAV (meetW a b),H):=by
 have h77:=f77 78 (fun x y=>x&&y) f78 (by decide) a b hba hbb;have hpp:=Am (meetW a b);refine AQ Tryz.func33 rfl rfl rfl rfl rfl rfl (fun _=>rfl) (by simp[AV.plainL,AV.plain,AP,AT,AN]) hpp ?_ H
 change ∀ H,call _ _ _ _ H=some (pairAV (meetW a b),H) at h77
 unfold pairAV at h77 hpp |-;generalize meetW a b=q at *;obtain⟨q,e⟩:=q;simp only at hpp |- h77;obtain⟨cl,nx,ac⟩:=q;simp +contextual (disch:=omega) only[Tryz.f33,dd33,go_sem,simprocAttr,mu33,h77];exact fzEq hpp rfl
theorem f35 (a b:AutoL) (hba:AutoB a) (hbb:AutoB b) (H:List MB):call Pg pol1 35 [autoAV a,autoAV b] H=some (pairAV (unionW a b),H):=by
 have h77:=f77 80 (fun x y=>x||y) f80 (by decide) a b hba hbb;have hpp:=Am (unionW a b);refine AQ Tryz.func35 rfl rfl rfl rfl rfl rfl (fun _=>rfl) (by simp[AV.plainL,AV.plain,AP,AT,AN]) hpp ?_ H
 change ∀ H,call _ _ _ _ H=some (pairAV (unionW a b),H) at h77
 unfold pairAV at h77 hpp |-;generalize unionW a b=q at *;obtain⟨q,e⟩:=q;simp only at hpp |- h77;obtain⟨cl,nx,ac⟩:=q;simp +contextual (disch:=omega) only[Tryz.f35,dd35,go_sem,simprocAttr,mu35,h77];exact fzEq hpp rfl
end
end Go.Ev
namespace Go.Ev
theorem RC {cl:Cls}{top:Int} (h:DivOk cl top):dividesA cl=true:=by
 simp only[dividesA,Bool.and_eq_true];refine⟨OM fun k hk=>?_,?_⟩
 ·have h1:=h.set _ (List.getElem_mem hk);have e0:(decide (refSpans cl[k]≠0))=false:=by simp[h1.1]
  have e1:cl[k].isEmpty=false:=by
   cases hc:cl[k] with
   | nil=>exact absurd hc h1.2
   | cons p s=>rfl
  simp only[badC,zga hk,e0,e1];cases k with
  | zero=>rfl
  | succ k=>
    have hk':k<cl.length:=by omega
    have:=h.ord k _ _ (zga hk') (zga hk);simp only[zga hk',Bool.false_or,decide_eq_false_iff_not];omega
 ·unfold endC;rw[h.chain];rcases h.top_ with rfl|rfl<;>rfl
section
variable {a b:AutoL}{top:Int}
theorem C6 (hg:GoodA a) (hd:DivOk a.cl top):validW (dividesA a.cl) a=0:=by
 have h1:=hg.cl;have h2:=hg.nx;have h3:=hg.ac;have h4:=hg.pos;rw[RC hd];unfold validW;rw[if_neg (by omega),if_neg (by rintro(h|h|h)<;>first|omega|cases h),if_pos];rw[List.all_eq_true];intro r hr;obtain⟨r1,r2⟩:=hg.rows r hr;simp only[okRow,r1,decide_true,Bool.true_and,List.all_eq_true];intro t ht;have:=r2 t ht;simp only[okSt,Bool.and_eq_true,decide_eq_true_eq];exact this
theorem S1 (L:List (List (Int×Int))) (h:∀ s∈L,s.length<=64):(L.map List.length).sum<=64*L.length:=by
 induction L with
 | nil=>simp
 | cons s L ih=>
   have:=h s (by simp);have:=ih fun t ht=>h t (by simp[ht]);simp only[map_cons,List.sum_cons,List.length_cons];omega
theorem JB (hg:GoodA a) (hd:DivOk a.cl top):AutoB a:=by
 have h1:=hg.cl;have h2:=hg.nx;have h3:=hg.ac;have:=S1 a.cl fun s hs=>(Az (hd.set s hs).1).2;refine⟨by omega,by omega,by omega,by omega,fun r hr=>?_⟩;rw[(hg.rows r hr).1];omega
theorem SQ (hg:GoodA a) (hd:DivOk a.cl top) (hg':GoodA b) (hd':DivOk b.cl top):bothW a b=0:=by
 unfold bothW;rw[if_neg (by simp[C6 hg hd]),if_neg (by simp[C6 hg' hd']),if_neg (by rw[hd.topL_eq.2,hd'.topL_eq.2];simp)]
end
def Alike (x y:Int):Prop:=(0<=x/\x<=96/\0<=y/\y<=96)∨(101<=x/\x<=255/\101<=y/\y<=255)
def Fine (cl:Cls):Prop:=∀ x y,Alike x y->clIx cl x=clIx cl y
def brks:List Int:=[0,97,98,99,100,101]
theorem IG {x:Int}:x∈brks↔x=0∨x=97∨x=98∨x=99∨x=100∨x=101:=by simp[brks]
theorem NormS.edge {s:Spans} (h:NormS s) {p:Int×Int} (hp:p∈s):hasSpan s (p.1-1)=false/\hasSpan s (p.2+1)=false:=by
 obtain⟨l,r,rfl⟩:=List.append_of_mem hp;obtain⟨_,g2,g3⟩:=List.pairwise_append.1 h.gap;obtain⟨g4,_⟩:=List.pairwise_cons.1 g2;have hv:=h.val p hp;have key:∀ x,p.1-1<=x->x<=p.2+1->¬ (p.1<=x/\x<=p.2)->hasSpan (l++p::r) x=false:=fun x h1 h2 h3=>by
  rw[Bool.eq_false_iff];intro hx;obtain⟨q,hq,a1,a2⟩:=Ab.1 hx;rcases mem_append.1 hq with e|e
  ·have:=g3 q e p (by simp);omega
  ·rcases List.mem_cons.1 e with e|e
   ·subst e;exact h3 ⟨a1,a2⟩
   ·have:=g4 q e;omega
 exact⟨key _ (by omega) (by omega) (by omega),key _ (by omega) (by omega) (by omega)⟩
structure FineS (s:Spans):Prop where
 norm:NormS s
 inS:∀ x,hasSpan s x=true->Sy 255 x
 al:∀ x y,Alike x y->hasSpan s x=hasSpan s y
theorem FineS.edge {s:Spans} (h:FineS s) {p:Int×Int} (hp:p∈s):p.1∈brks/\(p.2+1<=255->p.2+1∈brks):=by
 have hv:=h.norm.val p hp;obtain⟨e1,e2⟩:=h.norm.edge hp;have t1:hasSpan s p.1=true:=Ab.2 ⟨p,hp,by omega,hv⟩;have t2:hasSpan s p.2=true:=Ab.2 ⟨p,hp,hv,by omega⟩;have r1:=h.inS _ t1;have r2:=h.inS _ t2;simp only[Sy]at r1 r2;rw[IG,IG];constructor
 ·by_cases hb:Alike p.1 (p.1-1)
  ·have:=h.al _ _ hb;rw[t1,e1]at this;cases this
  ·unfold Alike at hb;omega
 ·intro hle;by_cases hb:Alike p.2 (p.2+1)
  ·have:=h.al _ _ hb;rw[t2,e2]at this;cases this
  ·unfold Alike at hb;omega
theorem FineS.len {s:Spans} (h:FineS s):s.length<=6:=by
 have hn:(s.map (·.1)).Nodup:=by
  rw[List.Nodup,List.pairwise_map];have hv:=h.norm.val;have hg:=h.norm.gap;refine List.Pairwise.imp_of_mem (fun {p q} hp hq hpq=>?_) hg;have:=hv p hp;omega
 have:=Ay _ brks hn fun x hx=>by
  obtain⟨p,hp,rfl⟩:=mem_map.1 hx;exact(h.edge hp).1
 simpa [brks] using this
theorem GR {s:Spans} (h:s.Pairwise fun p q=>p.2+2<=q.1) (hg:∀ p∈s,p.1<=p.2):NormS s:=⟨h.imp fun h=>by omega,hg⟩
structure Okf (a:AutoL):Prop where
 good:GoodA a
 div:DivOk a.cl 255
 fine:Fine a.cl
section
variable {a b:AutoL}
theorem Okf.cls (h:Okf a):∀ s∈a.cl,FineS s:=fun s hs=>by
 obtain⟨i,hi⟩:=getElem?_of_mem hs;refine⟨H8 (h.div.set s hs).1,fun x hx=>((h.div.symb hi).1 hx).1,fun x y hxy=>?_⟩;have e:=h.fine x y hxy;have hx:Sy 255 x/\Sy 255 y:=by unfold Alike at hxy;simp only[Sy];omega
 rw[Bool.eq_iff_iff,h.div.symb hi,h.div.symb hi,e];exact⟨fun g=>⟨hx.2,g.2⟩,fun g=>⟨hx.1,g.2⟩⟩
theorem Okf.few (h:Okf a):a.cl.length<=6:=by
 have:=Ay (List.range a.cl.length) (brks.map (clIx a.cl)) List.nodup_range fun c hc=>by
  obtain⟨x,hx,e⟩:=Dk h.div c (mem_range.1 hc);rw[mem_map];simp only[Sy]at hx;by_cases h1:x<=96
  ·exact⟨0,by simp[brks],by rw[<- e];exact h.fine 0 x (.inl (by omega))⟩
  ·by_cases h2:101<=x
   ·exact⟨101,by simp[brks],by rw[<- e];exact h.fine 101 x (.inr (by omega))⟩
   ·exact⟨x,IG.2 (by omega),e⟩
 simpa [brks] using this
theorem Okf.lstS (h:Okf a):∀ s∈clsL a.cl (nxN a.nx) a.ac,s.length<=6:=fun s hs=>by
 obtain⟨i,hi⟩:=getElem?_of_mem hs;obtain⟨hk,rfl⟩:=GC hi;obtain⟨g1,g2,_⟩:=F0 (C7 h.div i);refine FineS.len ⟨GR g1.sep fun p hp=>(g1.good p hp).2.1,fun x hx=>?_,fun x y hxy=>?_⟩
 ·rw[g2]at hx;exact((Dr h.div).1 hx).1
 ·have e:=h.fine x y hxy;have hx:Sy 255 x/\Sy 255 y:=by unfold Alike at hxy;simp only[Sy];omega
  rw[g2,g2,Bool.eq_iff_iff,Dr h.div,Dr h.div,e];exact⟨fun g=>⟨hx.2,g.2⟩,fun g=>⟨hx.1,g.2⟩⟩
structure Lst (f:List Int->Bool) (r:AutoL):Prop where
 ok:Okf r
 min:(autoDA r).Min 255
 lang:∀ w,Tx 255 w->Lg (autoDA r) w=f w
theorem Lst.congr {f g:List Int->Bool}{r:AutoL} (h:Lst f r) (e:∀ w,Tx 255 w->f w=g w):Lst g r:=⟨h.ok,h.min,fun w hw=>by rw[h.lang w hw,e w hw]⟩
theorem Lst.uniq {f:List Int->Bool}{r r':AutoL} (h:Lst f r) (h':Lst f r'):r=r':=
 II (A:=autoDA r) (top:=255) ⟨h.ok.good,h.ok.div,h.min,fun t _=>rfl⟩ ⟨h'.ok.good,h'.ok.div,h'.min,fun t ht=>by
  have:=h'.lang t ht;rw[<- h.lang t ht]at this;exact this⟩
theorem TE {B:DA}{top:Int} (hB:B.Ok top) {n:Nat} (u:Nat->List Int) (hu:∀ i,i<n->Tx top (u i)) (hi:∀ i j,i<n->j<n->B.run 0 (u i)=B.run 0 (u j)->i=j):n<=B.n:=by
 have hn:((List.range n).map fun i=>B.run 0 (u i)).Nodup:=by
  rw[List.Nodup,List.pairwise_map];refine List.Pairwise.imp_of_mem (fun {i j} h1 h2 hij e=>hij ?_) (List.nodup_range (n:=n));exact hi i j (mem_range.1 h1) (mem_range.1 h2) e
 have:=Ay _ (List.range B.n) hn fun x hx=>by
  obtain⟨i,h1,rfl⟩:=mem_map.1 hx;exact mem_range.2 (hB.run_lt _ 0 (hu i (mem_range.1 h1)) hB.pos)
 simpa using this
theorem S8 {A B:DA}{top:Int} (hA:A.Min top) (hB:B.Ok top) (hs:A.Same B top):A.n<=B.n:=by
 have ht:∀ s,∃ u,s<A.n->Tx top u/\A.run 0 u=s:=fun s=>by
  by_cases h:s<A.n
  ·obtain⟨u,hu⟩:=hA.text _ s (Nat.lt_succ_self s) h;exact⟨u,fun _=>hu⟩
  ·exact⟨[],fun h'=>absurd h' h⟩
 obtain⟨u,hu⟩:=Classical.axiomOfChoice ht;refine TE hB u (fun i hi=>(hu i hi).1) fun i j hi hj e=>?_;apply Classical.byContradiction;intro hij;obtain⟨w,hw,g⟩:=hA.dist i j hi hj hij;apply g;obtain⟨a1,a2⟩:=hu i hi;obtain⟨b1,b2⟩:=hu j hj;have s1:=hs _ (Cr a1 hw);have s2:=hs _ (Cr b1 hw);rw[DA.run_app,DA.run_app,a2]at s1;rw[DA.run_app,DA.run_app,b2]at s2;rw[s1,s2,e]
theorem Okf.least (h:Okf a):∃ r,lstW a=(r,0)/\Lst (Lg (autoDA a)) r/\r.nx.length<=a.nx.length:=by
 have hsm:=h.lstS;have hsm':∀ s∈clsL a.cl (nxN a.nx) a.ac,s.length<=64:=fun s hs=>by have:=hsm s hs;omega
 have hl:=GT h.good h.div hsm';refine⟨lstA a,?_,⟨⟨hl.good,hl.div,fun x y hxy=>?_⟩,hl.min,fun w hw=>hl.same w hw⟩,?_⟩
 ·unfold lstW;rw[if_neg];simp only[List.any_eq_true,decide_eq_true_eq,not_exists,not_and];intro s hs;have:=hsm s hs;omega
 ·have hx:Sy 255 x/\Sy 255 y:=by unfold Alike at hxy;simp only[Sy];omega
  have hd:=(HL h.good h.div hsm').2;show clIx (clsL a.cl (nxN a.nx) a.ac) x=clIx (clsL a.cl (nxN a.nx) a.ac) y;rw[hd x hx.1,hd y hx.2,h.fine x y hxy]
 ·exact S8 hl.min (EB h.good h.div) hl.same
theorem Okf.not (h:Okf a):Okf (notA a):=⟨Er h.good,h.div,h.fine⟩
theorem Okf.split (ha:Okf a) (hb:Okf b):∃ C,splitW a b=some C/\Fine C:=by
 have hbw:=SQ ha.good ha.div hb.good hb.div;have htp:=ha.div.topL_eq.2;have hS:∀ s∈a.cl++b.cl,FineS s:=fun s hs=>by
  rcases mem_append.1 hs with h|h
  ·exact ha.cls s h
  ·exact hb.cls s h
 have hV:∀ s∈a.cl++b.cl,SetV s:=fun s hs=>(Dv (Gm hbw s hs)).1;have h1:=ha.few;have h2:=hb.few;have hE:=C0 (L:=a.cl++b.cl) (top:=255) (by decide) hV;have hEl:(endsR (a.cl++b.cl) 255).length<=6:=by
  have hn:(endsR (a.cl++b.cl) 255).Nodup:=hE.sorted.imp fun h=>by omega
  have:=Ay _ brks hn fun x hx=>by
   rcases(Ey (by decide) hV).1 hx with rfl|⟨s,hs,p,hp,h|h,hle⟩
   ·simp[brks]
   ·rw[h];exact((hS s hs).edge hp).1
   ·rw[h];exact((hS s hs).edge hp).2 (by omega)
  simpa [brks] using this
 have hsp:splitW a b=splitA (a.cl++b.cl) (endsR (a.cl++b.cl) 255) 255:=by
  unfold splitW;rw[if_neg (by simp only[length_append];omega),htp]
 have hnb:¬ tooBig (colK (a.cl++b.cl) (endsR (a.cl++b.cl) 255) 255) (pieceA (endsR (a.cl++b.cl) 255) 255) (endsR (a.cl++b.cl) 255).length:=by
  rintro(h|⟨c,_,h⟩)
  ·have:=IY (col:=colK (a.cl++b.cl) (endsR (a.cl++b.cl) 255) 255) (endsR (a.cl++b.cl) 255).length;omega
  ·have:=Py (col:=colK (a.cl++b.cl) (endsR (a.cl++b.cl) 255) 255) (pc:=pieceA (endsR (a.cl++b.cl) 255) 255) c (endsR (a.cl++b.cl) 255).length;omega
 have hso:=GM hnb;refine⟨_,by rw[hsp,hso],fun x y hxy=>?_⟩;have hx:Sy 255 x/\Sy 255 y:=by unfold Alike at hxy;simp only[Sy];omega
 refine((GL (.inl rfl) hV hso).2.2.2 x y hx.1 hx.2).2 ?_;unfold colA;exact List.map_congr_left fun s hs=>(hS s hs).al x y hxy
theorem Lst.one {f:List Int->Bool}{r:AutoL}{v:Bool} (h:Lst f r) (hc:∀ w,Tx 255 w->f w=v):r.nx.length=1/\r.ac=[v]:=by
 have hp:=h.ok.good.pos;have hac:=h.ok.good.ac;have hn:r.nx.length=1:=by
  apply Classical.byContradiction;intro hne;have h1:1<(autoDA r).n:=by show 1<r.nx.length;omega
  obtain⟨w,hw,g⟩:=h.min.dist 0 1 (by show 0<r.nx.length;omega) h1 (by decide);obtain⟨u,hu,e⟩:=h.min.text 2 1 (by decide) h1;have l1:=h.lang w hw;have l2:=h.lang (u++w) (Cr hu hw);unfold Lg at l1 l2;rw[DA.run_app,e]at l2;apply g;rw[l1,l2,hc w hw,hc _ (Cr hu hw)]
 refine⟨hn,?_⟩;have l0:=h.lang [] DQ;rw[hc [] DQ]at l0;have l0:r.ac[0]?.getD false=v:=l0;rw[hn]at hac;obtain⟨x,hx⟩:∃ x,r.ac=[x]:=List.length_eq_one_iff.1 hac;rw[hx]at l0 |-;simp only[List.getElem?_cons_zero,getD_some]at l0;rw[l0]
end
end Go.Ev
namespace Go.Ev
def boolsU:Nat->List (List Bool)
 | 0=>[[]]
 | n+1=>(boolsU n).map (fun l=>false::l)++(boolsU n).map (fun l=>true::l)
theorem BA:∀ {n:Nat}{l:List Bool},l∈boolsU n↔l.length=n
 | 0,l=>by simp[boolsU]
 | n+1,l=>by
   rw[boolsU,mem_append,mem_map,mem_map];constructor
   ·rintro(⟨t,ht,rfl⟩|⟨t,ht,rfl⟩)<;>simp[BA.1 ht]
   ·intro h;cases l with
    | nil=>simp at h
    | cons v t=>
      have ht:=BA.2 (show t.length=n by simpa using h);cases v
      ·exact .inl ⟨t,ht,rfl⟩
      ·exact .inr ⟨t,ht,rfl⟩
def revStep (a:AutoL) (x:List Bool) (c:Nat):List Bool:=(List.range a.nx.length).map fun s=>x[stepC a.nx s c]?.getD false
def revR (a:AutoL):List (List Bool):=bfs (fun x=>(List.range a.cl.length).map (revStep a x)) ((boolsU a.nx.length).length+1) 0 [a.ac]
def revA (a:AutoL):AutoL:=exA a.cl a.cl.length (revStep a) (fun x=>x[0]?.getD false) (revR a)
def revW (a:AutoL):AutoL×Int:=if(revR a).length<=1024 then lstW (revA a) else(zA,4)
section
variable {a b:AutoL}{top:Int}
theorem CV (a:AutoL) (x:List Bool) (c:Nat):(revStep a x c).length=a.nx.length:=by simp[revStep]
theorem QT (hg:GoodA a):a.ac∈boolsU a.nx.length:=BA.2 hg.ac
theorem S3 (a:AutoL):∀ x∈boolsU a.nx.length,∀ y∈(List.range a.cl.length).map (revStep a x),y∈boolsU a.nx.length:=fun x _ y hy=>by
 obtain⟨c,_,rfl⟩:=mem_map.1 hy;exact BA.2 (CV a x c)
theorem Hq (hg:GoodA a):Expl a.cl.length (revStep a) a.ac (revR a):=
 HO (U:=boolsU a.nx.length) (fun x _ c _=>BA.2 (CV a x c)) (QT hg) rfl
theorem FS {A:DA} (ho:A.Ok top) (hr:∀ s,0<s->s<A.n->∃ s' c',s'<s/\c'<A.m/\A.nx s' c' = s):∀ k s,s<k->s<A.n->∃ u,Tx top u/\A.run 0 u=s
 | 0,s,h1,_=>absurd h1 (by omega)
 | k+1,s,h1,h2=>by
   rcases Nat.eq_zero_or_pos s with h0|h0
   ·subst h0;exact⟨[],DQ,rfl⟩
   ·obtain⟨s',c',a1,a2,a3⟩:=hr s h0 h2;obtain⟨u,b1,b2⟩:=FS ho hr k s' (by omega) (by omega);obtain⟨x,d1,d2⟩:=ho.surj c' a2;refine⟨u++[x],Cr b1 (M7 d1),?_⟩;rw[DA.run_app,b2];simp only[DA.run,d2,a3]
end
end Go.Ev
