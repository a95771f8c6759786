/- The spans of the classes of each kind, as they are gathered. -/
import Derived.Test.YtdklnlnbemogbaaGreatG20
set_option linter.unusedVariables false
set_option linter.unusedSimpArgs false
open List (cons_append getElem?_eq_getElem getElem?_eq_none getElem?_map getElem_mem length_append length_map map_append map_id map_map map_replicate map_set map_take mem_cons mem_map mem_of_getElem? mem_range set_cons_succ take_of_length_le)
open Nat (sub_self zero_le)
open Option (getD_some map_some)
open Go.Proofs Go.RowKit Go.IntWalk
set_option maxHeartbeats 8000000
set_option maxRecDepth 100000
namespace Go.Ev
def spansK:Cls->List Nat->Nat->List (Int×Int)
 | s::cl,j::ks,k=>(if j=k then s else [])++spansK cl ks k
 | _,_,_=>[]
theorem Ff (s:List (Int×Int)) (j k:Nat):∀(cl:Cls) (ks:List Nat),cl.length=ks.length->spansK (cl++[s]) (ks++[j]) k=spansK cl ks k++if j=k then s else []
 | [],[],_=>by simp[spansK]
 | [],_::_,h=>by simp at h
 | _::_,[],h=>by simp at h
 | t::cl,i::ks,h=>by
   rw[cons_append,cons_append,spansK,Ff s j k cl ks (by simpa using h),spansK,List.append_assoc]
theorem Fg (k:Nat):∀(cl:Cls) (ks:List Nat),(∀ j∈ks,j≠k)->spansK cl ks k=[]
 | [],ks,_=>by cases ks<;>rfl
 | _::_,[],_=>rfl
 | t::cl,i::ks,h=>by
   rw[spansK,Fg k cl ks (fun j hj=>h j (by simp[hj])),if_neg (h i (by simp))];rfl
theorem Bo {k:Nat}{p:Int×Int}:∀ {cl:Cls}{ks:List Nat},p∈spansK cl ks k↔∃(c:Nat) (s:List (Int×Int)),cl[c]?=some s/\ks[c]?=some k/\p∈s
 | [],ks=>by cases ks<;>simp[spansK]
 | t::cl,[]=>by simp[spansK]
 | t::cl,i::ks=>by
   rw[spansK,List.mem_append,Bo (cl:=cl) (ks:=ks)];constructor
   ·rintro(h|⟨c,s,h1,h2,h3⟩)
    ·split at h
     ·rename_i e;exact⟨0,t,rfl,by simp[e],h⟩
     ·simp at h
    ·exact⟨c+1,s,by simpa using h1,by simpa using h2,h3⟩
   ·rintro⟨c,s,h1,h2,h3⟩;rcases c with _|c
    ·simp only[List.getElem?_cons_zero,Option.some.injEq]at h1 h2;subst h1;subst h2;exact .inl (by simpa using h3)
    ·exact .inr ⟨c,s,by simpa using h1,by simpa using h2,h3⟩
theorem GN (k:Nat):∀(cl:Cls) (ks:List Nat),(∀ s∈cl,s.length<=64)->(spansK cl ks k).length<=64*cl.length
 | [],ks,_=>by cases ks<;>simp[spansK]
 | t::cl,[],_=>by simp[spansK]
 | t::cl,i::ks,h=>by
   have h1:=h t (by simp);have h2:=GN k cl ks (fun s hs=>h s (by simp[hs]));rw[spansK,length_append,List.length_cons];split
   ·omega
   ·simp;omega
def rowsZ (L:Cls):List MB:=L.map fun s=>.row 2 (s.map spanAV) s.length
def spansUp (cl:Cls) (ks:List Nat) (c w:Nat):Cls:=(List.range w).map fun k=>spansK (cl.take c) (ks.take c) k
theorem Az (cl:Cls) (ks:List Nat) (c w:Nat):(spansUp cl ks c w).length=w:=by simp[spansUp]
theorem BL {cl:Cls}{ks:List Nat}{c w k:Nat} (h:k<w):(spansUp cl ks c w)[k]?=some (spansK (cl.take c) (ks.take c) k):=by simp[spansUp,h]
theorem ET {α:Type}{s:List α}{k:Nat}{p:α} (h:s[k]?=some p):s.take (k+1)=s.take k++[p]:=by
 rw[List.take_add_one,h];rfl
section
variable {cl:Cls}{ks:List Nat}{c w j:Nat}{s:List (Int×Int)}
theorem Cx (hs:cl[c]?=some s) (hj:ks[c]?=some j) (k:Nat):spansK (cl.take (c+1)) (ks.take (c+1)) k=spansK (cl.take c) (ks.take c) k++if j=k then s else []:=by
 have h1:=(List.getElem?_eq_some_iff.1 hs).1;have h2:=(List.getElem?_eq_some_iff.1 hj).1;rw[ET hs,ET hj,Ff _ _ _ _ _ (by simp;omega)]
theorem Jn (hs:cl[c]?=some s) (hj:ks[c]?=some j) (h:j<w):spansUp cl ks (c+1) w=(spansUp cl ks c w).set j (spansK (cl.take c) (ks.take c) j++s):=by
 apply List.ext_getElem?;intro k;by_cases hk:k<w
 ·rw[BL hk,Cx hs hj];by_cases e:j=k
  ·subst e;rw[List.getElem?_set_self (by rw[Az];exact hk)];simp
  ·rw[List.getElem?_set_ne e,BL hk];simp[e]
 ·rw[getElem?_eq_none (by rw[Az];omega),getElem?_eq_none (by rw[List.length_set,Az];omega)]
theorem Jo (hs:cl[c]?=some s) (hj:ks[c]?=some w) (h:∀ i∈ks.take c,i<w):spansUp cl ks (c+1) (w+1)=spansUp cl ks c w++[s]:=by
 apply List.ext_getElem?;intro k;rcases Nat.lt_trichotomy k w with hk|hk|hk
 ·rw[BL (by omega),Cx hs hj,List.getElem?_append_left (by rw[Az];exact hk),BL hk];have:¬ w=k:=by omega
  simp[this]
 ·subst hk;rw[BL (by omega),Cx hs hj,Fg k _ _ (fun i hi=>by have:=h i hi;omega),List.getElem?_append_right (by rw[Az];omega),Az];simp
 ·rw[getElem?_eq_none (by rw[Az];omega),getElem?_eq_none (by rw[length_append,Az];simp;omega)]
end
section
variable {α:Type} [DecidableEq α]
theorem Iz {l:List α}{c:Nat}:∀ i∈(numA l).take c,i<(onces (l.take c)).length:=fun i hi=>by
 obtain⟨q,hq,e⟩:=List.getElem_of_mem hi;rw[List.length_take]at hq;have hql:q<l.length:=by have:=Ad l;omega
 rw[List.getElem_take]at e;have e1:=Au l (getElem?_eq_getElem hql);rw[getElem?_eq_getElem (by rw[Ad];exact hql)]at e1;have e2:(numA l)[q]'(by rw[Ad];exact hql)=(onces l).idxOf l[q]:=Option.some.inj e1;have hm:l[q]∈onces (l.take c):=(Af _ _).2 (List.mem_take_iff_getElem.2 ⟨q,by omega,rfl⟩);obtain⟨m,e3⟩:=C8 l c;rw[<- e,e2,e3,idxOf_append hm];exact List.idxOf_lt_length_of_mem hm
end
section
variable {α:Type} [DecidableEq α]
theorem LY {l:List α}{c j:Nat} (hj:(numA l)[c]?=some j):(onces (l.take c)).length<=(onces l).length/\((j<(onces (l.take c)).length/\(onces (l.take (c+1))).length=(onces (l.take c)).length)∨(j=(onces (l.take c)).length/\(onces (l.take (c+1))).length=(onces (l.take c)).length+1/\(onces (l.take c)).length<(onces l).length)):=by
 have hc:c<l.length:=by
  have:=(List.getElem?_eq_some_iff.1 hj).1
  rwa [Ad]at this
 obtain⟨x,hx⟩:∃ x,l[c]?=some x:=⟨_,getElem?_eq_getElem hc⟩;have e1:=Au _ hx;rw[hj]at e1;have e1:=Option.some.inj e1;have e2:=Dz hx;have e3:=C9 (l.take c) x;rw[<- ET hx]at e3;obtain⟨mm,e4⟩:=C8 l (c+1);have e5:=congrArg List.length e4;rw[length_append]at e5;rw[e3]at e5 |-;by_cases hm2:x∈l.take c
 ·rw[if_pos hm2]at e2 e5 |-;have:=List.idxOf_lt_length_of_mem ((Af _ _).2 hm2);exact⟨by omega,.inl ⟨by rw[e1,e2];exact this,rfl⟩⟩
 ·rw[if_neg hm2]at e2 e5 |-;simp only[length_append,List.length_cons,List.length_nil]at e5 |-;exact⟨by omega,.inr ⟨e1.trans e2,by first|trivial|omega,by omega⟩⟩
end
theorem Pe (x0 x1 x2 x3 x4 x5 x6 x7 x8 x9 x10:MB) (T:List MB) (n:Nat):(x0::x1::x2::x3::x4::x5::x6::x7::x8::x9::x10::T)[11+n]?=T[n]?:=by
 rw[show 11+n=n+1+1+1+1+1+1+1+1+1+1+1 by omega];simp only[List.getElem?_cons_succ]
theorem PZ (x0 x1 x2 x3 x4 x5 x6 x7 x8 x9 x10 v:MB) (T:List MB) (n:Nat):(x0::x1::x2::x3::x4::x5::x6::x7::x8::x9::x10::T).set (11+n) v=x0::x1::x2::x3::x4::x5::x6::x7::x8::x9::x10::T.set n v:=by
 rw[show 11+n=n+1+1+1+1+1+1+1+1+1+1+1 by omega];simp only[set_cons_succ]
theorem Mq (L:Cls) (k:Nat) (s:List (Int×Int)):(rowsC L).set k (.row 2 (s.map spanAV) 0)=rowsC (L.set k s):=by simp[rowsC,map_set]
theorem Mr (L:Cls) (s:List (Int×Int)):rowsC L++[.row 2 (s.map spanAV) 0]=rowsC (L++[s]):=by simp[rowsC]
theorem PK {H:List MB}{id:Nat}{l s:List (Int×Int)}{n:Nat} (hr:H[id]?=some (.row 2 (l.map spanAV) 0)) (hn:l.length=n) (h:n+s.length<=4000000000) :
  evAppend Pg H 23 23 (.ms id 2 n 0 n) (setAV9 s)=some (.ms id 2 (n+s.length) 0 (n+s.length),H.set id (.row 2 ((l++s).map spanAV) 0)):=by
 have:=Al (P:=Pg) (H:=H) (sT:=23) (xT:=23) (e:=33) (n:=n) (id:=id) (z:=0) (x:=setAV9 s) (els:=l.map spanAV) (ys:=s.map spanAV) (by kernel_rfl) (by kernel_rfl) (k:=2) (by kernel_rfl) (by_:=16) (by kernel_rfl) (ze:=.agg [I 0,I 0]) (by kernel_rfl) rfl (by omega) rfl (Ku s) (by unfold getRow;rw[hr]) (by rw[length_map];exact hn) (zero_le _) (AS (by rw[length_map];omega) (by omega));rw[this,length_map,map_append]
theorem PL {H:List MB}{s:List (Int×Int)}{n:Nat} (hn:H.length=n) (h0:s≠[]) (h:s.length<=4000000000) :
  evAppend Pg H 23 23 (.sl true []) (setAV9 s)=some (.ms n 2 s.length 0 s.length,H++[.row 2 (s.map spanAV) 0]):=by
 subst hn;cases s with
 | nil=>exact absurd rfl h0
 | cons p s=>
   have h1:tyElem Pg 23=some 33:=by kernel_rfl
   have h2:tyNotInt Pg 23=true:=by kernel_rfl
   have h3:tySz Pg 33=some 2:=by kernel_rfl
   have h4:tyBytes Pg 33=some 16:=by kernel_rfl
   have h5:tyZero Pg 33=some (.agg [I 0,I 0]):=by kernel_rfl
   have hs:srcElems Pg H 33 (setAV9 (p::s))=some ((p::s).map spanAV):=rfl;have hroom:roomFor (0+((p::s).map spanAV).length) 16=true:=AS (by rw[length_map];omega) (by omega);unfold evAppend;simp only[h1,h2,h3,h4,h5,hs];rw[if_pos ⟨Ku (p::s),by omega,rfl⟩];have hroom2:roomFor (s.length+1) 16=true:=AS (by simp at h;omega) (by omega);simp[hroom2]
end Go.Ev
namespace Go.Ev
attribute [local go_sem] evBin AV.cells strOf Ah Ao bndO bnd evEq eqCells not_false_eq_true not_true_eq_false toList_some Array.size_empty length_append tySzE List.head?_drop Nat.mul_one AY Ae AU AZ Aa AS
def rowsL (nx:List (List Nat)) (ac:List Bool) (m:Nat):List (List Nat):=(chosenA nx ac m).map fun s=>(keptA nx ac m).map fun c=>(renA nx ac m)[nxf nx s c]?.getD 0
def acL (nx:List (List Nat)) (ac:List Bool) (m:Nat):List Bool:=(chosenA nx ac m).map fun s=>ac[s]?.getD false
def widthL (nx:List (List Nat)) (ac:List Bool) (m:Nat):Nat:=(onces (colsA nx m (chosenA nx ac m) (renA nx ac m))).length
def classL (cl:Cls) (nx:List (List Nat)) (ac:List Bool) (k:Nat):List (Int×Int):=normL (spansK cl (kindsA nx ac cl.length) k)
def clsL (cl:Cls) (nx:List (List Nat)) (ac:List Bool):Cls:=(List.range (widthL nx ac cl.length)).map (classL cl nx ac)
def leastW (cl:Cls) (nx:List (List Nat)) (ac:List Bool):AV:=
 if(clsL cl nx ac).any (fun s=>decide (64<s.length)) then .tup [.agg [.sl false [],.sl false [],.sl false []],I 4]
 else .tup [autoN (clsL cl nx ac) (rowsL nx ac cl.length) (acL nx ac cl.length),I 0]
theorem DD {id n:Nat}{l:List Nat}{H:List MB}{z:Nat} (hr:getRow H id=some (1,l.map NV,z)) (hn:l.length=n):fz (.ms id 1 n 0 n) H=some (nsAV l,mark H id n):=As hr (by rw[length_map];exact hn) (AO l)
structure LeastIn (cl:Cls) (nx:List (List Nat)) (ac:List Bool):Prop where
 rows:RowsN nx cl.length nx.length
 acl:ac.length=nx.length
 n:nx.length<=1024
 m:cl.length<=1024
 good:∀ s∈cl,s≠[]/\s.length<=64/\∀ p∈s,goodS p
theorem FB (nx:List (List Nat)) (cs states:List Nat):∀(k before:Nat) (b:List Nat),(blocksGo nx cs states k before b).length=b.length
 | 0,_,_=>rfl
 | k+1,before,b=>by
   rw[blocksGo];split
   ·rw[A0]
   ·rw[FB nx cs states k,A0]
theorem Dq (nx:List (List Nat)) (cs states:List Nat) (N:Nat) (hs:states.length<=N):∀(k before:Nat) (b:List Nat),(∀ y∈b,y<=N)->∀ y∈blocksGo nx cs states k before b,y<=N
 | 0,_,_,h=>h
 | k+1,before,b,h=>by
   have hp:∀ y∈putAll b states (numA (states.map (rowA nx cs b))),y<=N:=fun y hy=>by
    rcases DB _ _ _ y hy with h1|h1
    ·exact h y h1
    ·have:=CX h1;rw[length_map]at this;omega
   rw[blocksGo];split
   ·exact hp
   ·exact Dq nx cs states N hs k _ _ hp
theorem JT {nx:List (List Nat)}{ac:List Bool}{m:Nat} (hs:(states0 nx m).length<=nx.length) (h0:0<nx.length):∀ y∈blockA nx ac m,y<=nx.length:=by
 refine Dq nx _ _ nx.length hs _ _ _ fun y hy=>?_;obtain⟨s,_,rfl⟩:=mem_map.1 hy;split<;>omega
theorem L4 (nx:List (List Nat)) (ac:List Bool) (m:Nat):(blockA nx ac m).length=nx.length:=by
 rw[blockA,FB];simp[block0]
theorem f60 (cl:Cls) (nx:List (List Nat)) (ac:List Bool) (clf:Int->Nat) (top:Int) (h:(daOf nx ac cl.length clf).Ok top) (hi:LeastIn cl nx ac) (H:List MB) :
  call Pg pol1 60 [autoN cl nx ac] H=some (leastW cl nx ac,H):=by
 obtain⟨hr,ha,hn,hm,hgood⟩:=hi;have h0:0<nx.length:=h.pos;have h110:=f110 cl nx ac clf top h hr ha hn hm;have hstf:=Bh (nx:=nx) (cs:=List.range cl.length) h0 (fun s hs c hc=>h.lt s c hs (mem_range.1 hc));have hprw:AV.plain (leastW cl nx ac)=true:=by unfold leastW;split<;>simp[AV.plain,AV.plainL,AM,AP,AJ]
 have h111:=f111 nx (List.range cl.length) cl.length hr (fun c hc=>mem_range.1 hc) h0 (by omega) (by simp;omega);refine AQ Tryz.func60 rfl rfl rfl rfl rfl rfl (fun _=>rfl) (by simp[AV.plain,AV.plainL,AM,AP,AJ]) hprw ?_ H;have hroom:roomFor (nx.length:Int).toNat 8=true:=AS (by omega) (by omega);have hroomm:roomFor (cl.length:Int).toNat 8=true:=AS (by omega) (by omega);have hrl:(List.range cl.length).length=cl.length:=by simp
 unfold leastW clsL classL rowsL acL widthL kindsA keptA kindsA;have hbkl:=L4 nx ac cl.length;have hbks:∀ y∈blockA nx ac cl.length,y<=nx.length:=JT (by
  have hbi:=FC h;have:=Ar _ (List.range nx.length) hbi.nodup (fun x hx=>mem_range.2 (hbi.lt x hx))
  simpa using this) h0
 generalize hCH:chosenA nx ac cl.length=ch at *;generalize hRE:renA nx ac cl.length=ren at *;unfold chosenA numsA at hCH;unfold renA numsA at hRE;have hstA:reachA nx (List.range cl.length)=statesA nx cl.length:=rfl;rw[hstA]at h111 hstf;generalize blockA nx ac cl.length=bk at *;generalize statesA nx cl.length=Sx at *;generalize hnm:nx.length=n at *;generalize hcm:cl.length=m at *;simp +contextual (disch:=omega) only[Tryz.f60,dd60,go_sem,simprocAttr,evAppend,map_append,mu60,↓AE,↓AD,↓AC,↓AA,h110,hroomm,hcm];refine AR (M:=(mskOf (pol1.mask 60) (pol1.gc 60) (pol1.acts 60) 0 4)) rfl m (fun i=>(⟨223,[(43,I i),(42,I m),(5,.ms 2 1 m 0 m),(4,nsAV bk),(2,.rf 1 1 0 0),(1,.rf 0 1 0 0)],[.row 3 [autoN cl nx ac] 0,.row 3 [E3] 0,.row 1 (((List.range m).take i++List.replicate (m-i) 0).map NV) 0]⟩:St)) (fun i=>True) ?_ ?_ trivial _ ?_
 ·intro i hi _;have hri:(List.range m)[i]?=some i:=by simp[hi]
  have hfs:=BP (z:=0) hrl hri;have hfl:=BQ (A:=List.range m) (z:=0) hrl (i:=i) (by omega);rw[<- hfs];generalize (List.range m).take i++List.replicate (m-i) 0=A at *;obtain⟨y,hy⟩:∃ y,A[i]?=some y:=⟨_,getElem?_eq_getElem (by omega)⟩;have hy':(A.map NV)[i]?=some (NV y):=by simp[hy]
  have hset:(A.map NV).set i (NV i)=(A.set i i).map NV:=by rw[map_set]
  simp +contextual (disch:=omega) only[Tryz.f60,dd60,go_sem,simprocAttr,evAppend,map_append,mu60,↓AE,↓AD,↓AC,↓AA,hfl,hy',hset];rfl
 ·intro _;rw[Bl hrl];obtain⟨hbinv,hS0,hSlt⟩:=hstf;have hSnd:=hbinv.nodup;have hSl:Sx.length<=n:=by
   have:=Ar Sx (List.range n) hSnd (fun x hx=>mem_range.2 (hSlt x hx))
   simpa using this
  have hrooms:roomFor (Sx.length:Int).toNat 8=true:=AS (by omega) (by omega);have hz2:∀ b0 b1:MB,fz (.ms 2 1 m 0 m) [b0,b1,.row 1 ((List.range m).map NV) 0]=some (nsAV (List.range m),[b0,b1,.row 1 ((List.range m).map NV) m]):=fun b0 b1=>by
   rw[DD (id:=2) (z:=0) rfl hrl];simp[mark,getRow]
  have hby:∀ i,pol1.byref 111 i=false:=fun i=>rfl;have c111:=fun b0 b1:MB=>A3 (P:=Pg) (pol:=pol1) (f:=111) (args:=[.sl false (nx.map nsAV),.ms 2 1 m 0 m]) (l:=[.sl false (nx.map nsAV),nsAV (List.range m)]) (H:=[b0,b1,.row 1 ((List.range m).map NV) 0]) (H1:=[b0,b1,.row 1 ((List.range m).map NV) m]) rfl (by simp only[frzArgs,hby,Bool.false_eq_true,if_false,Ap _ (show AV.plain (.sl false (nx.map nsAV))=true by simp[AV.plain,AP]),hz2]) (by simp[AV.plainL,AV.plain,AP,AO]);simp only[h111]at c111;have hRMp:=AO (List.range m);generalize (List.range m).map NV=RM at *;obtain⟨oS,hoS⟩:∃ oS,Sx.map (fun s=>bk[s]?.getD 0)=oS:=⟨_,rfl⟩;have hoSl:oS.length=Sx.length:=by rw[<- hoS];simp
  have hoSg:∀ i s:Nat,Sx[i]?=some s->oS[i]?=some (bk[s]?.getD 0):=fun i s h=>by rw[<- hoS];simp[h]
  simp +contextual (disch:=omega) only[Tryz.f60,dd60,go_sem,simprocAttr,evAppend,map_append,mu60,↓AE,↓AD,↓AC,↓AA,c111,hrooms];refine AR (M:=(mskOf (pol1.mask 60) (pol1.gc 60) (pol1.acts 60) 0 11)) rfl Sx.length (fun i=>(⟨223,[(60,I i),(59,I Sx.length),(58,nsAV Sx),(8,.ms 3 1 Sx.length 0 Sx.length),(7,nsAV Sx),(4,nsAV bk),(2,.rf 1 1 0 0),(1,.rf 0 1 0 0)],[.row 3 [autoN cl nx ac] 0,.row 3 [E3] 0,.row 1 RM m,.row 1 ((oS.take i++List.replicate (Sx.length-i) 0).map NV) 0]⟩:St)) (fun i=>True) ?_ ?_ trivial _ ?_
  ·intro i hi _;obtain⟨s,hsi⟩:∃ s,Sx[i]?=some s:=⟨_,getElem?_eq_getElem hi⟩;have hsi':(Sx.map NV)[i]?=some (NV s):=by simp[hsi]
   have hsl:=hSlt s (mem_of_getElem? hsi);obtain⟨v,hv⟩:∃ v,bk[s]?=some v:=⟨_,getElem?_eq_getElem (by omega)⟩;have hv':(bk.map NV)[s]?=some (NV v):=by simp[hv]
   have hoi:=hoSg i s hsi;rw[hv,getD_some]at hoi;have hfs:=BP (z:=0) hoSl hoi;have hfl:=BQ (A:=oS) (z:=0) hoSl (i:=i) (by omega);rw[<- hfs];generalize oS.take i++List.replicate (Sx.length-i) 0=A at *;obtain⟨y,hy⟩:∃ y,A[i]?=some y:=⟨_,getElem?_eq_getElem (by omega)⟩;have hy':(A.map NV)[i]?=some (NV y):=by simp[hy]
   have hset:(A.map NV).set i (NV v)=(A.set i v).map NV:=by rw[map_set]
   simp +contextual (disch:=omega) only[Tryz.f60,dd60,go_sem,simprocAttr,evAppend,map_append,mu60,↓AE,↓AD,↓AC,↓AA,hsi',hv',hfl,hy',hset];rfl
  ·intro _;rw[Bl hoSl];rw[hoS]at hCH hRE;have hbkb:∀ y∈oS,y<=1000000:=fun y hy=>by
    rw[<- hoS]at hy;obtain⟨s,_,rfl⟩:=mem_map.1 hy;cases e:bk[s]? with
    | none=>simp
    | some x=>have:=hbks x (mem_of_getElem? e);simp;omega
   have h112:=f112 oS (by omega) hbkb;have hz3:∀ b0 b1 b2:MB,fz (.ms 3 1 Sx.length 0 Sx.length) [b0,b1,b2,.row 1 (oS.map NV) 0]=some (nsAV oS,[b0,b1,b2,.row 1 (oS.map NV) Sx.length]):=fun b0 b1 b2=>by
    rw[DD (id:=3) (z:=0) rfl hoSl];simp[mark,getRow]
   have c112:=fun b0 b1 b2:MB=>A3 (P:=Pg) (pol:=pol1) (f:=112) (args:=[.ms 3 1 Sx.length 0 Sx.length]) (l:=[nsAV oS]) (H:=[b0,b1,b2,.row 1 (oS.map NV) 0]) (H1:=[b0,b1,b2,.row 1 (oS.map NV) Sx.length]) rfl (by simp only[frzArgs,show pol1.byref 112 0=false from rfl,Bool.false_eq_true,if_false,hz3]) (by simp[AV.plainL,AV.plain,AO]);simp only[h112]at c112;have hnl:(numA oS).length=Sx.length:=by rw[Ad];exact hoSl
   have hnb:∀ y∈numA oS,y<Sx.length:=fun y hy=>by have:=CX hy;omega
   have hF:=Br oS;have hFl:=CP oS;have hmany:=BW oS;have h113:=f113 (numA oS) (onces oS).length (by omega) (fun y hy=>by have:=hnb y hy;omega) (by omega);have hRSp:=AO oS;generalize oS.map NV=RS1 at *;generalize hNU:numA oS=nums at *;generalize hFF:firstsA nums=F at *;generalize (onces oS).length=many at *;have hroom4:roomFor (many:Int).toNat 8=true:=AS (by omega) (by omega);simp +contextual (disch:=omega) only[Tryz.f60,dd60,go_sem,simprocAttr,evAppend,map_append,mu60,↓AE,↓AD,↓AC,↓AA,c112,h113,hroom4];have hchl:ch.length=F.length:=by rw[<- hCH];simp
   have hFg:∀ j i:Nat,F[j]?=some i->∃ s,Sx[i]?=some s/\ch[j]?=some s:=fun j i h=>by
    obtain⟨a1,a2,a3⟩:=hF.get j i h;obtain⟨s,hs⟩:∃ s,Sx[i]?=some s:=⟨_,getElem?_eq_getElem (by omega)⟩;exact⟨s,hs,by rw[<- hCH];simp[h,hs]⟩
   refine AR (M:=(mskOf (pol1.mask 60) (pol1.gc 60) (pol1.acts 60) 0 18)) rfl F.length (fun j=>(⟨223,[(84,I j),(83,I F.length),(82,nsAV F),(13,.ms 4 1 j 0 j),(11,nsAV nums),(7,nsAV Sx),(2,.rf 1 1 0 0),(1,.rf 0 1 0 0)],[.row 3 [autoN cl nx ac] 0,.row 3 [E3] 0,.row 1 RM m,.row 1 RS1 Sx.length,.row 1 ((ch.take j).map NV) 0]⟩:St)) (fun i=>True) ?_ ?_ trivial _ rfl
   ·intro j hj _;obtain⟨i,hFi⟩:∃ i,F[j]?=some i:=⟨_,getElem?_eq_getElem hj⟩;have hFi':(F.map NV)[j]?=some (NV i):=by simp[hFi]
    obtain⟨s,hs,hcj⟩:=hFg j i hFi;have hs':(Sx.map NV)[i]?=some (NV s):=by simp[hs]
    have hctl:(ch.take j).length=j:=by rw[List.length_take];omega
    rw[Ab hcj];generalize ch.take j=A at *;have a1:=fun(b0 b1 b2 b3:MB) (t:Bool)=>Md (H:=[b0,b1,b2,b3,.row 1 (A.map NV) 0]) (i:=4) (n:=j) (c:=s) (t:=t) rfl hctl (by omega);simp only[Nt,List.set_cons_zero]at a1;simp +contextual (disch:=omega) only[Tryz.f60,dd60,go_sem,simprocAttr,mu60,↓AE,↓AD,↓AC,↓AA,hFi',hs',a1];rfl
   ·intro _;rw[show ch.take F.length=ch from take_of_length_le (by omega)];have hchlt:∀ s∈ch,s<n:=fun s hs=>by
     obtain⟨j,hj,e⟩:=List.getElem_of_mem hs;obtain⟨i,hi2⟩:∃ i,F[j]?=some i:=⟨_,getElem?_eq_getElem (by omega)⟩;obtain⟨s2,h1,h2⟩:=hFg j i hi2;rw[getElem?_eq_getElem hj,e]at h2;cases h2;exact hSlt _ (mem_of_getElem? h1)
    have hchn:ch.length<=n:=by omega
    simp +contextual (disch:=omega) only[Tryz.f60,dd60,go_sem,simprocAttr,evAppend,map_append,mu60,↓AE,↓AD,↓AC,↓AA,hnm,hroom];refine AR (M:=(mskOf (pol1.mask 60) (pol1.gc 60) (pol1.acts 60) 0 24)) rfl Sx.length (fun i=>(⟨223,[(102,I i),(101,I Sx.length),(100,nsAV Sx),(16,.ms 5 1 n 0 n),(13,.ms 4 1 F.length 0 F.length),(11,nsAV nums),(2,.rf 1 1 0 0),(1,.rf 0 1 0 0)],[.row 3 [autoN cl nx ac] 0,.row 3 [E3] 0,.row 1 RM m,.row 1 RS1 Sx.length,.row 1 (ch.map NV) 0,.row 1 ((putAll (List.replicate n 0) (Sx.take i) (nums.take i)).map NV) 0]⟩:St)) (fun i=>True) ?_ ?_ trivial _ ?_
    ·intro i hi _;obtain⟨s,hsi⟩:∃ s,Sx[i]?=some s:=⟨_,getElem?_eq_getElem hi⟩;have hsi':(Sx.map NV)[i]?=some (NV s):=by simp[hsi]
     have hsl:=hSlt s (mem_of_getElem? hsi);obtain⟨v,hv⟩:∃ v,nums[i]?=some v:=⟨_,getElem?_eq_getElem (by omega)⟩;have hv':(nums.map NV)[i]?=some (NV v):=by simp[hv]
     have hst:putAll (List.replicate n 0) (Sx.take (i+1)) (nums.take (i+1))=(putAll (List.replicate n 0) (Sx.take i) (nums.take i)).set s v:=by
      rw[Ab hsi,Ab hv,DW _ _ _ _ _ (by simp;omega)]
     have hpl:=A0 (Sx.take i) (nums.take i) (List.replicate n 0);rw[List.length_replicate]at hpl;rw[hst];generalize putAll (List.replicate n 0) (Sx.take i) (nums.take i)=A at *;obtain⟨y,hy⟩:∃ y,A[s]?=some y:=⟨_,getElem?_eq_getElem (by omega)⟩;have hy':(A.map NV)[s]?=some (NV y):=by simp[hy]
     have hset:(A.map NV).set s (NV v)=(A.set s v).map NV:=by rw[map_set]
     simp +contextual (disch:=omega) only[Tryz.f60,dd60,go_sem,simprocAttr,evAppend,map_append,mu60,↓AE,↓AD,↓AC,↓AA,hsi',hv',hpl,hy',hset];rfl
    ·intro _;rw[List.take_length,show nums.take Sx.length=nums from take_of_length_le (by omega),hRE];have hrenl:ren.length=n:=by rw[<- hRE,A0];simp
     have hrenb:∀ y∈ren,y<n:=fun y hy=>by
      rw[<- hRE]at hy;rcases DB _ _ _ y hy with h|h
      ·rw[List.eq_of_mem_replicate h];exact h0
      ·have:=hnb y h;omega
     have h114:=f114 nx ch ren m (by rw[hrenl];exact hr) (by rw[hnm];exact hchlt) (fun y hy=>by have:=hrenb y hy;omega) (by omega) (by omega) (by omega);have hz4:∀ b0 b1 b2 b3 b5:MB,fz (.ms 4 1 F.length 0 F.length) [b0,b1,b2,b3,.row 1 (ch.map NV) 0,b5]=some (nsAV ch,[b0,b1,b2,b3,.row 1 (ch.map NV) F.length,b5]):=fun b0 b1 b2 b3 b5=>by
      rw[DD (id:=4) (z:=0) rfl hchl];simp[mark,getRow]
     have hz5:∀ b0 b1 b2 b3 b4:MB,fz (.ms 5 1 n 0 n) [b0,b1,b2,b3,b4,.row 1 (ren.map NV) 0]=some (nsAV ren,[b0,b1,b2,b3,b4,.row 1 (ren.map NV) n]):=fun b0 b1 b2 b3 b4=>by
      rw[DD (id:=5) (z:=0) rfl hrenl];simp[mark,getRow]
     have c114:=fun b0 b1 b2 b3:MB=>A3 (P:=Pg) (pol:=pol1) (f:=114) (args:=[.sl false (nx.map nsAV),.ms 4 1 F.length 0 F.length,.ms 5 1 n 0 n,NV m]) (l:=[.sl false (nx.map nsAV),nsAV ch,nsAV ren,NV m]) (H:=[b0,b1,b2,b3,.row 1 (ch.map NV) 0,.row 1 (ren.map NV) 0]) (H1:=[b0,b1,b2,b3,.row 1 (ch.map NV) F.length,.row 1 (ren.map NV) n]) rfl (by simp only[frzArgs,show ∀ i,pol1.byref 114 i=false from fun _=>rfl,Bool.false_eq_true,if_false,Ap _ (show AV.plain (.sl false (nx.map nsAV))=true by simp[AV.plain,AP]),hz4,hz5,Ap _ (show AV.plain (NV m)=true from rfl)]) (by simp[AV.plainL,AV.plain,AP,AO]);simp only[h114]at c114;have hkl:(numA (colsA nx m ch ren)).length=m:=by rw[Ad,BI]
     have hwm:=BW (colsA nx m ch ren);rw[BI]at hwm;have hkb:∀ y∈numA (colsA nx m ch ren),y<(onces (colsA nx m ch ren)).length:=fun y hy=>by
      obtain⟨i,hi2,e⟩:=List.getElem_of_mem hy;exact I4 (l:=colsA nx m ch ren) (i:=i) (by rw[getElem?_eq_getElem hi2,e])
     have hK:=Br (colsA nx m ch ren);rw[BI]at hK;have hKl:=CP (colsA nx m ch ren);have h113k:=f113 (numA (colsA nx m ch ren)) (onces (colsA nx m ch ren)).length (by omega) (fun y hy=>by have:=hkb y hy;omega) (by omega);generalize hKI:numA (colsA nx m ch ren)=kinds at *;generalize hKE:firstsA kinds=kept at *;have hKN:∀(c j:Nat),kinds[c]?=some j->((onces ((colsA nx m ch ren).take c)).length<=(onces (colsA nx m ch ren)).length/\((j<(onces ((colsA nx m ch ren).take c)).length/\(onces ((colsA nx m ch ren).take (c+1))).length=(onces ((colsA nx m ch ren).take c)).length)∨(j=(onces ((colsA nx m ch ren).take c)).length/\(onces ((colsA nx m ch ren).take (c+1))).length=(onces ((colsA nx m ch ren).take c)).length+1/\(onces ((colsA nx m ch ren).take c)).length<(onces (colsA nx m ch ren)).length))):=fun c j hj=>by
      rw[<- hKI]at hj;exact LY hj
     have hKT:∀ c,∀ i∈kinds.take c,i<(onces ((colsA nx m ch ren).take c)).length:=fun c i hi=>by rw[<- hKI]at hi;exact Iz i hi
     have hKm:(onces ((colsA nx m ch ren).take m)).length=(onces (colsA nx m ch ren)).length:=by rw[take_of_length_le (by rw[BI];omega)]
     obtain⟨wd,hwd⟩:∃ wd:Nat->Nat,wd=fun c=>(onces ((colsA nx m ch ren).take c)).length:=⟨_,rfl⟩;have hwd0:wd 0=0:=by rw[hwd];rfl
     have hKN2:∀(c j:Nat),kinds[c]?=some j->(wd c<=(onces (colsA nx m ch ren)).length/\((j<wd c/\wd (c+1)=wd c)∨(j=wd c/\wd (c+1)=wd c+1/\wd c<(onces (colsA nx m ch ren)).length))):=by rw[hwd];exact hKN
     have hKT2:∀ c,∀ i∈kinds.take c,i<wd c:=by rw[hwd];exact hKT
     have hwdm:wd m=(onces (colsA nx m ch ren)).length:=by rw[hwd];exact hKm
     clear hKN hKT hKm hwd;generalize (onces (colsA nx m ch ren)).length=width at *;simp +contextual (disch:=omega) only[Tryz.f60,dd60,go_sem,simprocAttr,evAppend,map_append,mu60,↓AE,↓AD,↓AC,↓AA,c114,h113k,hcm];obtain⟨rows,hrows⟩:∃ rows,(ch.map fun s=>kept.map fun c=>ren[nxf nx s c]?.getD 0)=rows:=⟨_,rfl⟩;obtain⟨acs,hacs⟩:∃ acs,(ch.map fun s=>ac[s]?.getD false)=acs:=⟨_,rfl⟩;rw[hrows,hacs];have hrowl:rows.length=F.length:=by rw[<- hrows];simp[hchl]
     have hacl:acs.length=F.length:=by rw[<- hacs];simp[hchl]
     have hkeptlt:∀ c∈kept,c<m:=fun c hc=>by
      obtain⟨k,hk,e⟩:=List.getElem_of_mem hc;exact(hK.get k c (by rw[getElem?_eq_getElem hk,e])).1
     have hCHM:∀(j s:Nat),ch[j]?=some s->(ch.map NV)[j]?=some (NV s):=fun j s h=>by simp[h]
     have hCHMl:(ch.map NV).length=F.length:=by rw[length_map];exact hchl
     have hCHp:=AO ch;generalize ch.map NV=CHM at *;refine AR (M:=(mskOf (pol1.mask 60) (pol1.gc 60) (pol1.acts 60) 0 32)) rfl F.length (fun j=>(⟨223,[(131,I j),(130,I F.length),(129,.ms 4 1 F.length 0 F.length),(22,.rf 6 1 0 0),(21,nsAV kept),(20,NV width),(19,nsAV kinds),(16,.ms 5 1 n 0 n),(2,.rf 1 1 0 0),(1,.rf 0 1 0 0)],[.row 3 [autoN cl nx ac] 0,.row 3 [E3] 0,.row 1 RM m,.row 1 RS1 Sx.length,.row 1 CHM F.length,.row 1 (ren.map NV) n,.row 3 [.agg [.ms 7 1 0 0 0,.ms 8 1 j 0 j,.ms 9 1 j 0 j]] 0,.row 1 [] 0,.row 1 ((rows.take j).map nsAV) 0,.row 1 ((acs.take j).map AV.bool) 0]⟩:St)) (fun i=>True) ?_ ?_ trivial _ ?_
     ·intro j hj _;obtain⟨s,hs⟩:∃ s,ch[j]?=some s:=⟨_,getElem?_eq_getElem (by omega)⟩;have hs':=hCHM j s hs;have hsl:=hchlt s (mem_of_getElem? hs);obtain⟨rw1,hrw1⟩:∃ r,(kept.map fun c=>ren[nxf nx s c]?.getD 0)=r:=⟨_,rfl⟩;have hrj:rows[j]?=some rw1:=by rw[<- hrows,<- hrw1];simp[hs]
      have hrl1:rw1.length=kept.length:=by rw[<- hrw1];simp
      obtain⟨bv,hbv⟩:∃ b,ac[s]?=some b:=⟨_,getElem?_eq_getElem (by omega)⟩;have hbv':(ac.map AV.bool)[s]?=some (.bool bv):=by simp[hbv]
      have haj:acs[j]?=some bv:=by rw[<- hacs];simp[hs,hbv]
      have htl:(rows.take j).length=j:=by rw[List.length_take];omega
      have htl2:(acs.take j).length=j:=by rw[List.length_take];omega
      rw[Ab hrj,Ab haj];generalize rows.take j=A at *;generalize acs.take j=B at *;have hroomw:roomFor (width:Int).toNat 8=true:=AS (by omega) (by omega);simp +contextual (disch:=omega) only[Tryz.f60,dd60,go_sem,simprocAttr,evAppend,map_append,mu60,↓AE,↓AD,↓AC,↓AA,hs',hCHMl,hroomw];refine AR (M:=(mskOf (pol1.mask 60) (pol1.gc 60) (pol1.acts 60) 0 36)) rfl kept.length (fun c=>(⟨223,[(139,I c),(138,I kept.length),(137,nsAV kept),(131,I j),(130,I F.length),(129,.ms 4 1 F.length 0 F.length),(25,.ms 10 1 c 0 c),(24,NV s),(22,.rf 6 1 0 0),(21,nsAV kept),(20,NV width),(19,nsAV kinds),(16,.ms 5 1 n 0 n),(2,.rf 1 1 0 0),(1,.rf 0 1 0 0)],[.row 3 [autoN cl nx ac] 0,.row 3 [E3] 0,.row 1 RM m,.row 1 RS1 Sx.length,.row 1 CHM F.length,.row 1 (ren.map NV) n,.row 3 [.agg [.ms 7 1 0 0 0,.ms 8 1 j 0 j,.ms 9 1 j 0 j]] 0,.row 1 [] 0,.row 1 (A.map nsAV) 0,.row 1 (B.map AV.bool) 0,.row 1 ((rw1.take c).map NV) 0]⟩:St)) (fun i=>True) ?_ ?_ trivial _ ?_
      ·intro c hc _;obtain⟨k,hk⟩:∃ k,kept[c]?=some k:=⟨_,getElem?_eq_getElem hc⟩;have hk':(kept.map NV)[c]?=some (NV k):=by simp[hk]
       have hkm:=hkeptlt k (mem_of_getElem? hk);obtain⟨r,t,e1,e2,e3,e4⟩:=hr.nxf_lt (by omega:s<nx.length) hkm;have e1':(nx.map nsAV)[s]?=some (nsAV r):=by simp[e1]
       have e2':(r.map NV)[k]?=some (NV t):=by simp[e2]
       obtain⟨u,hu⟩:∃ u,ren[t]?=some u:=⟨_,getElem?_eq_getElem (by omega)⟩;have hu':(ren.map NV)[t]?=some (NV u):=by simp[hu]
       have hrc:rw1[c]?=some u:=by rw[<- hrw1];simp[hk,e3,hu]
       have hctl:(rw1.take c).length=c:=by rw[List.length_take];omega
       rw[Ab hrc];generalize rw1.take c=D at *;have a1:=fun(b0 b1 b2 b3 b4 b5 b6 b7 b8 b9:MB) (t:Bool)=>Md (H:=[b0,b1,b2,b3,b4,b5,b6,b7,b8,b9,.row 1 (D.map NV) 0]) (i:=10) (n:=c) (c:=u) (t:=t) rfl hctl (by omega);simp only[set_cons_succ,List.set_cons_zero]at a1;simp +contextual (disch:=omega) only[Tryz.f60,dd60,go_sem,simprocAttr,mu60,↓AE,↓AD,↓AC,↓AA,hk',e1',e2',hrenl,hu',a1];generalize D++[u]=D2;exact(by first|rfl|(refine AN rfl (by rfl) (by rfl) (by rfl) ?_ ?_<;>simp[AV.underL,AV.under,MB.under,AG,AI,AF,AH,AK,AL,-map_take,AM,AP,AO,AJ,hRMp,hRSp,hCHp]))
      ·intro _;rw[show rw1.take kept.length=rw1 from take_of_length_le (by omega)];have hAm:(A.map nsAV).length=j:=by rw[length_map];exact htl
       have a1:=fun(b0 b1 b2 b3 b4 b5 b6 b7 b9 b10:MB) (t:Bool)=>Mc (H:=[b0,b1,b2,b3,b4,b5,b6,b7,.row 1 (A.map nsAV) 0,b9,b10]) (i:=8) (n:=j) (x:=.ms 10 1 kept.length 0 kept.length) (t:=t) rfl (zero_le _) hAm (by omega) rfl rfl;have a2:=fun(b0 b1 b2 b3 b4 b5 b6 b7 b8 b10:MB) (t:Bool)=>Mf (H:=[b0,b1,b2,b3,b4,b5,b6,b7,b8,.row 1 (B.map AV.bool) 0,b10]) (i:=9) (n:=j) (x:=bv) (t:=t) rfl (zero_le _) htl2 (by omega);simp only[set_cons_succ,List.set_cons_zero]at a1 a2;have hz:∀ b0 b1 b2 b3 b4 b5 b6 b7 b8 b9:MB,fzs (A.map nsAV++[.ms 10 1 kept.length 0 kept.length]) [b0,b1,b2,b3,b4,b5,b6,b7,b8,b9,.row 1 (rw1.map NV) 0]=some (A.map nsAV++[nsAV rw1],[b0,b1,b2,b3,b4,b5,b6,b7,b8,b9,.row 1 (rw1.map NV) kept.length]):=fun b0 b1 b2 b3 b4 b5 b6 b7 b8 b9=>by
        refine De ?_ _ (AP A);have:=DD (id:=10) (z:=0) (H:=[b0,b1,b2,b3,b4,b5,b6,b7,b8,b9,.row 1 (rw1.map NV) 0]) rfl hrl1;unfold fz at this;rw[this];simp[mark,getRow]
       have hbq:=AV.beqL_refl (A.map nsAV++[.ms 10 1 kept.length 0 kept.length]);simp +contextual (disch:=omega) only[Tryz.f60,dd60,go_sem,simprocAttr,mu60,↓AE,↓AD,↓AC,↓AA,a1,hz,hbq,hbv',a2];repeat' (first|intro _|apply And.intro|(unfold dOk;kernel_rfl)|exact St.beq_refl _|exact Aq|(show altO _ _ _ _=true;kernel_rfl)|(show (_||_)=true;kernel_rfl)|(show (_&&_)=true;kernel_rfl))
       have e9:A.map nsAV++[nsAV rw1]=(A++[rw1]).map nsAV:=by rw[map_append];rfl
       rw[e9];generalize A++[rw1]=A2;generalize B++[bv]=B2;exact(by first|rfl|(refine AN rfl (by rfl) (by rfl) (by rfl) ?_ ?_<;>simp[AV.underL,AV.under,MB.under,AG,AI,AF,AH,AK,AL,-map_take,AM,AP,AO,AJ,hRMp,hRSp,hCHp]))
      ·rw[List.take_zero];exact(by first|rfl|(refine AN rfl (by rfl) (by rfl) (by rfl) ?_ ?_<;>simp[AV.underL,AV.under,MB.under,AG,AI,AF,AH,AK,AL,-map_take,AM,AP,AO,AJ,hRMp,hRSp,hCHp]))
     ·intro _;rw[show rows.take F.length=rows from take_of_length_le (by omega),show acs.take F.length=acs from take_of_length_le (by omega)];have hroomc:roomFor (width:Int).toNat 24=true:=AS (by omega) (by omega);simp +contextual (disch:=omega) only[Tryz.f60,dd60,go_sem,simprocAttr,evAppend,map_append,mu60,↓AE,↓AD,↓AC,↓AA,hroomc,hcm];have hsz:∀ c k,(spansK (cl.take c) (kinds.take c) k).length<=64*1024:=fun c k=>by
       have:=GN k (cl.take c) (kinds.take c) (fun s hs=>(hgood s (List.mem_of_mem_take hs)).2.1);rw[List.length_take,hcm]at this;omega
      refine AR (M:=(mskOf (pol1.mask 60) (pol1.gc 60) (pol1.acts 60) 0 45)) rfl m (fun c=>(⟨223,[(180,I c),(179,I m),(178,.sl false (cl.map setAV9)),(28,.ms 10 1 width 0 width),(22,.rf 6 1 0 0),(19,nsAV kinds),(2,.rf 1 1 0 0)],.row 3 [autoN cl nx ac] 0::.row 3 [E3] 0::.row 1 RM m::.row 1 RS1 Sx.length::.row 1 CHM F.length::.row 1 (ren.map NV) n::.row 3 [.agg [.ms 7 1 0 0 0,.ms 8 1 F.length 0 F.length,.ms 9 1 F.length 0 F.length]] 0::.row 1 [] 0::.row 1 (rows.map nsAV) 0::.row 1 (acs.map AV.bool) 0::.row 1 (cellsL 2 11 ((spansUp cl kinds c (wd c)).map List.length)++List.replicate (width-wd c) (.sl true [])) 0::rowsC (spansUp cl kinds c (wd c))⟩:St)) (fun i=>True) ?_ ?_ trivial _ ?_
      ·intro c hc _;obtain⟨s,hs⟩:∃ s,cl[c]?=some s:=⟨_,getElem?_eq_getElem (by omega)⟩;have hs':(cl.map setAV9)[c]?=some (setAV9 s):=by simp[hs]
       obtain⟨k,hk⟩:∃ k,kinds[c]?=some k:=⟨_,getElem?_eq_getElem (by omega)⟩;have hk':(kinds.map NV)[c]?=some (NV k):=by simp[hk]
       obtain⟨hs0,hs64,_⟩:=hgood s (mem_of_getElem? hs);obtain⟨hwle,hcase⟩:=hKN2 c k hk;have hup:=Az cl kinds c (wd c);have hszk:=hsz c k;rcases hcase with ⟨hlt,hwe⟩|⟨hke,hwe,hwlt⟩
       ·have ho:=Jn hs hk hlt;have hg:=BL (cl:=cl) (ks:=kinds) (c:=c) hlt;rw[hwe,ho];generalize spansK (cl.take c) (kinds.take c) k=l at *;generalize spansUp cl kinds c (wd c)=U at *;generalize wd c=w at *;have hrow:∀ x0 x1 x2 x3 x4 x5 x6 x7 x8 x9 x10:MB,(x0::x1::x2::x3::x4::x5::x6::x7::x8::x9::x10::rowsC U)[11+k]?=some (.row 2 (l.map spanAV) 0):=fun x0 x1 x2 x3 x4 x5 x6 x7 x8 x9 x10=>by
         rw[Pe];simp[rowsC,hg]
        have a1:=fun(x0 x1 x2 x3 x4 x5 x6 x7 x8 x9 x10:MB)=>PK (s:=s) (hrow x0 x1 x2 x3 x4 x5 x6 x7 x8 x9 x10) rfl (by omega);simp only[PZ,Mq]at a1;have hlen:(U.map List.length)[k]?=some l.length:=by rw[getElem?_map,hg];rfl
        have hC:(cellsL 2 11 (U.map List.length)++List.replicate (width-w) (AV.sl true []))[k]?=some (.ms (11+k) 2 l.length 0 l.length):=by
         rw[List.getElem?_append_left (by rw[BH];simp;omega)];exact Ef 2 11 _ k _ hlen
        have hCl:(cellsL 2 11 (U.map List.length)++List.replicate (width-w) (AV.sl true [])).length=width:=by simp[BH];omega
        have hCs:(cellsL 2 11 (U.map List.length)++List.replicate (width-w) (AV.sl true [])).set k (.ms (11+k) 2 (l.length+s.length) 0 (l.length+s.length))=cellsL 2 11 ((U.set k (l++s)).map List.length)++List.replicate (width-w) (AV.sl true []):=by
         rw[List.set_append_left _ _ (by rw[BH];simp;omega),map_set,HH,length_append]
        generalize cellsL 2 11 (U.map List.length)++List.replicate (width-w) (AV.sl true [])=C at *;simp +contextual (disch:=omega) only[Tryz.f60,dd60,go_sem,simprocAttr,map_append,mu60,↓AE,↓AD,↓AC,↓AA,hs',hk',hC,hCl,hCs,a1];repeat' (first|intro _|apply And.intro|(unfold dOk;kernel_rfl)|exact St.beq_refl _|exact Aq|(show altO _ _ _ _=true;kernel_rfl)|(show (_||_)=true;kernel_rfl)|(show (_&&_)=true;kernel_rfl))
        rfl
       ·subst hke;have ho:=Jo hs hk (hKT2 c);rw[hwe,ho];generalize spansUp cl kinds c (wd c)=U at *;generalize wd c=w at *;have hUl:(rowsC U).length=w:=by simp[rowsC,hup]
        have a1:=fun(x0 x1 x2 x3 x4 x5 x6 x7 x8 x9 x10:MB)=>PL (H:=x0::x1::x2::x3::x4::x5::x6::x7::x8::x9::x10::rowsC U) (s:=s) (n:=11+w) (by simp[hUl];omega) hs0 (by omega);simp only[cons_append,Mr]at a1;have hC:(cellsL 2 11 (U.map List.length)++List.replicate (width-w) (AV.sl true []))[w]?=some (.sl true []):=by
         rw[List.getElem?_append_right (by rw[BH];simp;omega),BH,length_map,hup,sub_self,List.getElem?_replicate,if_pos (by omega)]
        have hCl:(cellsL 2 11 (U.map List.length)++List.replicate (width-w) (AV.sl true [])).length=width:=by simp[BH];omega
        have hCs:(cellsL 2 11 (U.map List.length)++List.replicate (width-w) (AV.sl true [])).set w (.ms (11+w) 2 s.length 0 s.length)=cellsL 2 11 ((U++[s]).map List.length)++List.replicate (width-(w+1)) (AV.sl true []):=by
         have hl:(cellsL 2 11 (U.map List.length)).length=w:=by rw[BH];simp[hup]
         rw[List.set_append_right _ _ (by omega),hl,sub_self,map_append,List.map_cons,List.map_nil,Fv,show width-w=(width-(w+1))+1 by omega,List.replicate_succ,List.set_cons_zero,List.append_assoc];simp[hup]
        generalize cellsL 2 11 (U.map List.length)++List.replicate (width-w) (AV.sl true [])=C at *;simp +contextual (disch:=omega) only[Tryz.f60,dd60,go_sem,simprocAttr,map_append,mu60,↓AE,↓AD,↓AC,↓AA,hs',hk',hC,hCl,hCs,a1];repeat' (first|intro _|apply And.intro|(unfold dOk;kernel_rfl)|exact St.beq_refl _|exact Aq|(show altO _ _ _ _=true;kernel_rfl)|(show (_||_)=true;kernel_rfl)|(show (_&&_)=true;kernel_rfl))
        rfl
      ·intro _;rw[hwdm];have hcltk:cl.take m=cl:=take_of_length_le (by omega);have hkitk:kinds.take m=kinds:=take_of_length_le (by omega);obtain⟨SP,hSP⟩:∃ SP,spansUp cl kinds m width=SP:=⟨_,rfl⟩;have hSPl:SP.length=width:=by rw[<- hSP];exact Az _ _ _ _
       have hSPg:∀ k,k<width->SP[k]?=some (spansK cl kinds k):=fun k hk=>by
        have:=BL (cl:=cl) (ks:=kinds) (c:=m) hk;rw[hcltk,hkitk,hSP]at this;exact this
       have hszm:=fun k=>hsz m k;rw[hcltk,hkitk]at hszm;obtain⟨CL,hCL⟩:∃ CL,((List.range width).map fun k=>normL (spansK cl kinds k))=CL:=⟨_,rfl⟩;have hCLl:CL.length=width:=by rw[<- hCL];simp
       have hCLg:∀ k,k<width->CL[k]?=some (normL (spansK cl kinds k)):=fun k hk=>by rw[<- hCL];simp[hk]
       have hSKg:∀ k,∀ p∈spansK cl kinds k,goodS p:=fun k p hp=>by
        obtain⟨c,s,h1,_,h3⟩:=Bo.1 hp;exact(hgood s (mem_of_getElem? h1)).2.2 p h3
       have hSK0:∀ k,k<width->0<(spansK cl kinds k).length:=fun k hk=>by
        obtain⟨c,hc⟩:∃ c,kept[k]?=some c:=⟨_,getElem?_eq_getElem (by omega)⟩;obtain⟨a1,a2,_⟩:=hK.get k c hc;obtain⟨s,hs⟩:∃ s,cl[c]?=some s:=⟨_,getElem?_eq_getElem (by omega)⟩;obtain⟨hs0,_,_⟩:=hgood s (mem_of_getElem? hs);obtain⟨p,hp⟩:=List.exists_mem_of_ne_nil _ hs0;exact List.length_pos_of_mem (Bo.2 ⟨c,s,hs,a2,hp⟩)
       rw[hSP,hCL,sub_self,List.replicate_zero,List.append_nil];obtain⟨RES,hRES⟩:∃ RES,(if(CL.any fun s=>decide (64<s.length))=true then AV.tup [.agg [.sl false [],.sl false [],.sl false []],I 4] else .tup [autoN CL rows acs,I 0])=RES:=⟨_,rfl⟩;have hbad:∀(k:Nat) (s:List (Int×Int)),CL[k]?=some s->64<s.length->RES=.tup [.agg [.sl false [],.sl false [],.sl false []],I 4]:=fun k s h1 h2=>by
        rw[<- hRES,if_pos];exact List.any_eq_true.2 ⟨s,mem_of_getElem? h1,by simp[h2]⟩
       have hok:(∀(k:Nat) (s:List (Int×Int)),k<width->CL[k]?=some s->s.length<=64)->RES=.tup [autoN CL rows acs,I 0]:=fun h=>by
        rw[<- hRES,if_neg];intro h2;obtain⟨s,h3,h4⟩:=List.any_eq_true.1 h2;obtain⟨k,hk,e⟩:=List.getElem_of_mem h3;have:=h k s (by omega) (by rw[getElem?_eq_getElem hk,e]);simp at h4;omega
       rw[hRES];clear hRES;have hCel:∀ k,k<width->(cellsL 2 11 (SP.map List.length))[k]?=some (.ms (11+k) 2 (spansK cl kinds k).length 0 (spansK cl kinds k).length):=fun k hk=>Ef 2 11 _ k _ (by rw[getElem?_map,hSPg k hk];rfl);have hCelL:(cellsL 2 11 (SP.map List.length)).length=width:=by rw[BH];simp[hSPl]
       generalize cellsL 2 11 (SP.map List.length)=C at *;have hZl:(rowsZ SP).length=width:=by simp[rowsZ,hSPl]
       have hRl2:(rowsC SP).length=width:=by simp[rowsC,hSPl]
       have hZg:∀ k,k<width->(rowsZ SP)[k]?=some (.row 2 ((spansK cl kinds k).map spanAV) (spansK cl kinds k).length):=fun k hk=>by simp[rowsZ,hSPg k hk]
       have hRg:∀ k,k<width->((rowsZ SP).take k++(rowsC SP).drop k)[k]?=some (.row 2 ((spansK cl kinds k).map spanAV) 0):=fun k hk=>by
        rw[List.getElem?_append_right (by rw[List.length_take];omega),List.length_take,Nat.min_eq_left (by omega),sub_self,List.getElem?_drop,Nat.add_zero];simp[rowsC,hSPg k hk]
       have hfill:∀ k,k<width->((rowsZ SP).take k++(rowsC SP).drop k).set k (.row 2 ((spansK cl kinds k).map spanAV) (spansK cl kinds k).length)=(rowsZ SP).take (k+1)++(rowsC SP).drop (k+1):=fun k hk=>CC hZl hRl2 (hZg k hk);simp +contextual (disch:=omega) only[Tryz.f60,dd60,go_sem,simprocAttr,evAppend,map_append,mu60,↓AE,↓AD,↓AC,↓AA];refine AR (M:=(mskOf (pol1.mask 60) (pol1.gc 60) (pol1.acts 60) 0 50)) rfl width (fun k=>(⟨223,[(203,I k),(202,I width),(201,.ms 10 1 width 0 width),(22,.rf 6 1 0 0),(2,.rf 1 1 0 0)],.row 3 [autoN cl nx ac] 0::.row 3 [E3] 0::.row 1 RM m::.row 1 RS1 Sx.length::.row 1 CHM F.length::.row 1 (ren.map NV) n::.row 3 [.agg [.ms 7 1 k 0 k,.ms 8 1 F.length 0 F.length,.ms 9 1 F.length 0 F.length]] 0::.row 1 ((CL.take k).map setAV9) 0::.row 1 (rows.map nsAV) 0::.row 1 (acs.map AV.bool) 0::.row 1 C 0::((rowsZ SP).take k++(rowsC SP).drop k)⟩:St)) (fun k=>∀(i:Nat) (s:List (Int×Int)),i<k->CL[i]?=some s->s.length<=64) ?_ ?_ (fun i s h=>by omega) _ ?_
       ·intro k hk hinv;have hCk:=hCel k hk;have hRk:=hRg k hk;have hfk:=hfill k hk;have hCLk:=hCLg k hk;have h115:=f115 (spansK cl kinds k) (hSKg k) (hSK0 k hk) (by have:=hszm k;omega);rw[<- hfk,Ab hCLk];have hbadk:=hbad k _ hCLk;have hnb2:(CL.take k).length=k:=by rw[List.length_take];omega
        have hpn:=AH (spansK cl kinds k);have hextend:(normL (spansK cl kinds k)).length<=64->∀(i:Nat) (s:List (Int×Int)),i<k+1->CL[i]?=some s->s.length<=64:=fun h i s hi2 hs=>by
         rcases Nat.lt_or_ge i k with h1|h1
         ·exact hinv i s h1 hs
         ·obtain rfl:i=k:=by omega
          rw[hCLk]at hs;cases hs;exact h
        generalize (rowsZ SP).take k++(rowsC SP).drop k=T at *;generalize normL (spansK cl kinds k)=O at *;generalize spansK cl kinds k=l at *;generalize CL.take k=CT at *;have hz:∀ x0 x1 x2 x3 x4 x5 x6 x7 x8 x9 x10:MB,fz (.ms (11+k) 2 l.length 0 l.length) (x0::x1::x2::x3::x4::x5::x6::x7::x8::x9::x10::T)=some (.sl false (l.map spanAV),x0::x1::x2::x3::x4::x5::x6::x7::x8::x9::x10::T.set k (.row 2 (l.map spanAV) l.length)):=fun x0 x1 x2 x3 x4 x5 x6 x7 x8 x9 x10=>by
         have hgr:getRow (x0::x1::x2::x3::x4::x5::x6::x7::x8::x9::x10::T) (11+k)=some (2,l.map spanAV,0):=by unfold getRow;rw[Pe,hRk]
         rw[As hgr (by simp) hpn];unfold mark;rw[hgr];simp only[PZ,Nat.zero_max]
        have c115:=fun x0 x1 x2 x3 x4 x5 x6 x7 x8 x9 x10:MB=>A3 (P:=Pg) (pol:=pol1) (f:=115) (args:=[.ms (11+k) 2 l.length 0 l.length]) (l:=[.sl false (l.map spanAV)]) (H:=x0::x1::x2::x3::x4::x5::x6::x7::x8::x9::x10::T) (H1:=x0::x1::x2::x3::x4::x5::x6::x7::x8::x9::x10::T.set k (.row 2 (l.map spanAV) l.length)) rfl (by simp only[frzArgs,show pol1.byref 115 0=false from rfl,Bool.false_eq_true,if_false,hz]) (by simp[AV.plainL,AV.plain,hpn]);simp only[h115]at c115;have hCTm:(CT.map setAV9).length=k:=by rw[length_map];exact hnb2
        by_cases hO:64<O.length
        ·rw[if_pos hO]at c115;rw[hbadk hO];simp +contextual (disch:=omega) only[Tryz.f60,dd60,go_sem,simprocAttr,evAppend,map_append,mu60,↓AE,↓AD,↓AC,↓AA,hCk,hCelL,c115];exact⟨_,rfl⟩
        ·rw[if_neg hO]at c115;have a1:=fun(x0 x1 x2 x3 x4 x5 x6 x8 x9 x10:MB) (T:List MB) (t:Bool)=>P8 (H:=x0::x1::x2::x3::x4::x5::x6::.row 1 (CT.map setAV9) 0::x8::x9::x10::T) (i:=7) (n:=k) (x:=setAV9 O) (t:=t) rfl (zero_le _) hCTm (by omega) rfl rfl;simp only[set_cons_succ,List.set_cons_zero]at a1;simp +contextual (disch:=omega) only[Tryz.f60,dd60,go_sem,simprocAttr,mu60,↓AE,↓AD,↓AC,↓AA,hCk,hCelL,c115,a1];exact⟨hextend (by omega),by rw[map_append];rfl⟩
       ·intro hinv;rw[hok (fun k s h1 h2=>hinv k s h1 h2)];rw[show CL.take width=CL from take_of_length_le (by omega)];simp +contextual (disch:=omega) only[Tryz.f60,dd60,go_sem,simprocAttr,evAppend,map_append,mu60,↓AE,↓AD,↓AC,↓AA];exact⟨_,F9 (E6 (As (z:=0) rfl (by simp[hCLl]) (AM CL)) (As (z:=0) rfl (by simp[hrowl]) (AP rows)) (As (z:=0) rfl (by simp[hacl]) (AJ acs))) (Ap _ rfl)⟩
       ·rw[List.take_zero,List.take_zero,List.drop_zero];rfl
      ·rw[hwd0];rfl
     ·rw[List.take_zero,List.take_zero];exact(by first|rfl|(refine AN rfl (by rfl) (by rfl) (by rfl) ?_ ?_<;>simp[AV.underL,AV.under,MB.under,AG,AI,AF,AH,AK,AL,-map_take,AM,AP,AO,AJ,hRMp,hRSp,hCHp]))
    ·rw[show putAll (List.replicate n 0) (Sx.take 0) (nums.take 0)=List.replicate n 0 by simp[putAll],map_replicate];rfl
  ·rw[show oS.take 0++List.replicate (Sx.length-0) 0=List.replicate Sx.length 0 from rfl,map_replicate];rfl
 ·rw[show (List.range m).take 0++List.replicate (m-0) 0=List.replicate m 0 from rfl,map_replicate];rfl
end Go.Ev
namespace Go.Ev
structure Agree (A B:DA) (top:Int):Prop where
 n:B.n=A.n
 m:B.m=A.m
 nx:∀ s c,s<A.n->c<A.m->B.nx s c=A.nx s c
 ac:∀ s,s<A.n->B.ac s=A.ac s
 cl:∀ x,Sy top x->B.cl x=A.cl x
section
variable {A B:DA}{top:Int}
theorem Agree.run (h:Agree A B top) (ho:A.Ok top):∀(w:List Int) (s:Nat),Tx top w->s<A.n->B.run s w=A.run s w
 | [],_,_,_=>rfl
 | x::w,s,hw,hs=>by
   have hx:=hw x (by simp);have hc:=ho.cllt x hx;show B.run (B.nx s (B.cl x)) w=A.run (A.nx s (A.cl x)) w;rw[h.cl x hx,h.nx s _ hs hc];exact h.run ho w _ (fun y hy=>hw y (by simp[hy])) (ho.lt _ _ hs hc)
theorem Agree.ok (h:Agree A B top) (ho:A.Ok top):B.Ok top where
 pos:=by rw[h.n];exact ho.pos
 lt:=fun s c hs hc=>by
  rw[h.n]at hs |-;rw[h.m]at hc;rw[h.nx s c hs hc];exact ho.lt s c hs hc
 cllt:=fun x hx=>by rw[h.m,h.cl x hx];exact ho.cllt x hx
 surj:=fun c hc=>by
  rw[h.m]at hc;obtain⟨x,hx,e⟩:=ho.surj c hc;exact⟨x,hx,by rw[h.cl x hx];exact e⟩
theorem Agree.sameTo (h:Agree A B top) (ho:A.Ok top) {C:DA} (hs:A.Same C top):B.Same C top:=fun t ht=>by
 rw[h.run ho t 0 ht ho.pos,h.ac _ (ho.run_lt t 0 ht ho.pos)];exact hs t ht
theorem Agree.min (h:Agree A B top) (hm:A.Min top):B.Min top where
 ok:=h.ok hm.ok
 reach:=fun s h0 hs=>by
  rw[h.n]at hs;obtain⟨s',c',a1,a2,a3⟩:=hm.reach s h0 hs;exact⟨s',c',a1,by rw[h.m];exact a2,by rw[h.nx s' c' (by omega) a2];exact a3⟩
 grow:=fun s c hs hc u h0 hu=>by
  rw[h.n]at hs;rw[h.m]at hc;rw[h.nx s c hs hc]at hu;obtain⟨s',c',a1,a2,a3,a4⟩:=hm.grow s c hs hc u h0 hu;exact⟨s',c',by rw[h.n];exact a1,by rw[h.m];exact a2,a3,by rw[h.nx s' c' a1 a2];exact a4⟩
 dist:=fun s t hs ht hst=>by
  rw[h.n]at hs ht;obtain⟨w,hw,hne⟩:=hm.dist s t hs ht hst;refine⟨w,hw,?_⟩;rw[h.run hm.ok w s hw hs,h.run hm.ok w t hw ht,h.ac _ (hm.ok.run_lt w s hw hs),h.ac _ (hm.ok.run_lt w t hw ht)];exact hne
 cdist:=fun c d hc hd hcd=>by
  rw[h.m]at hc hd;obtain⟨s,hs,hne⟩:=hm.cdist c d hc hd hcd;exact⟨s,by rw[h.n];exact hs,by rw[h.nx s c hs hc,h.nx s d hs hd];exact hne⟩
 order:=fun c hc=>by
  rw[h.m]at hc;obtain⟨x,hx,e,hy⟩:=hm.order c hc;exact⟨x,hx,by rw[h.cl x hx];exact e,fun y hy2 hlt=>hy y hy2 (by rwa [h.cl y hy2]at hlt)⟩
end
theorem Ft:∀ {S:List (Int×Int)}{n top:Int},S.Pairwise (fun p q=>p.1<=q.1)->S.Pairwise apartZ->(∀ p∈S,p.1<=p.2/\n<=p.1/\p.2<=top)->n<=top+1 ->
  (∀ x,n<=x->x<=top->∃ p∈S,p.1<=x/\x<=p.2)->chainA S n=some (top+1)
 | [],n,top,_,_,_,hn,hc=>by
   rcases Int.lt_or_le n (top+1) with h|h
   ·obtain⟨p,hp,_⟩:=hc n (Int.le_refl _) (by omega);simp at hp
   ·simp only[chainA,Option.some.injEq];omega
 | p::S,n,top,h1,h2,h3,hn,hc=>by
   obtain⟨a1,a2⟩:=List.pairwise_cons.1 h1;obtain⟨b1,b2⟩:=List.pairwise_cons.1 h2;have hp:=h3 p (by simp);obtain⟨q,hq,g1,g2⟩:=hc n (Int.le_refl _) (by omega);have hqv:=h3 q hq;have hpn:p.1=n:=by
    rcases mem_cons.1 hq with e|e
    ·subst e;omega
    ·have:=a1 q e;omega
   have hrest:∀ q∈S,p.2+1<=q.1:=fun q hq=>by
    have c1:=a1 q hq;have c3:=h3 q (by simp[hq]);rcases b1 q hq with h|h<;>omega
   rw[chainA,if_pos hpn];refine Ft a2 b2 (fun q hq=>⟨(h3 q (by simp[hq])).1,hrest q hq,(h3 q (by simp[hq])).2.2⟩) (by omega) fun x hx1 hx2=>?_;obtain⟨r,hr,k1,k2⟩:=hc x (by omega) hx2;rcases mem_cons.1 hr with e|e
   ·subst e;omega
   ·exact⟨r,e,k1,k2⟩
theorem J1:∀(L:Cls) (i:Nat),(placesL i L).map spanOf=L.flatten:=by
 intro L
 induction L with
 | nil=>intro i;rfl
 | cons s L ih=>
   intro i;rw[placesL,map_append,ih,List.flatten_cons];congr 1;simp[plcs,Function.comp_def]
theorem OO {cl:Cls}{top:Int} (ht:top=255∨top=1114111) (hset:∀ s∈cl,refSpans s=0/\s≠[])
  (hord:∀(i:Nat) (s t:List (Int×Int)),cl[i]?=some s->cl[i+1]?=some t->headLo s<headLo t)
  (hin:∀ s∈cl,∀ x,hasSpan s x=true->Sy top x) (hcov:∀ x,Sy top x->∃ s∈cl,hasSpan s x=true)
  (huniq:∀(i j:Nat) (s t:List (Int×Int)) (x:Int),cl[i]?=some s->cl[j]?=some t->hasSpan s x=true->hasSpan t x=true->i=j):DivOk cl top:=by
 have hperm:((sortP (placesL 0 cl)).map spanOf).Perm cl.flatten:=by
  rw[<- J1 cl 0];exact(BM _).map spanOf
 have hmem:∀ p,p∈(sortP (placesL 0 cl)).map spanOf↔∃ s∈cl,p∈s:=fun p=>by
  rw[hperm.mem_iff,List.mem_flatten]
 have hv:∀ p∈(sortP (placesL 0 cl)).map spanOf,0<=p.1/\p.1<=p.2/\p.2<=top:=fun p hp=>by
  obtain⟨s,hs,hps⟩:=(hmem p).1 hp;have h1:=Ak (hset s hs).1 p hps;have h2:=hin s hs p.2 (AW.2 ⟨p,hps,h1.2.1,Int.le_refl _⟩);exact⟨h1.1,h1.2.1,h2.2⟩
 refine⟨ht,fun p hp=>⟨(hv p hp).1,(hv p hp).2.1⟩,?_,hset,hord⟩;have hsort:((sortP (placesL 0 cl)).map spanOf).Pairwise fun p q=>p.1<=q.1:=by
  rw[List.pairwise_map];exact Em _
 have hap:((sortP (placesL 0 cl)).map spanOf).Pairwise apartZ:=by
  rw[(hperm.pairwise_iff Ci),EP (fun s hs=>(A8 (hset s hs).1).imp fun h=>by omega),List.pairwise_iff_getElem];intro i j hi hj hij p hp q hq;have hpv:=Ak (hset _ (getElem_mem hi)).1 p hp;have hqv:=Ak (hset _ (getElem_mem hj)).1 q hq;by_cases h1:p.2<q.1
  ·exact .inl h1
  ·by_cases h2:q.2<p.1
   ·exact .inr h2
   ·exfalso;have:=huniq i j _ _ (max p.1 q.1) (getElem?_eq_getElem hi) (getElem?_eq_getElem hj) (AW.2 ⟨p,hp,by omega,by omega⟩) (AW.2 ⟨q,hq,by omega,by omega⟩);omega
 refine Ft hsort hap (fun p hp=>⟨(hv p hp).2.1,(hv p hp).1,(hv p hp).2.2⟩) (by omega) fun x h1 h2=>?_;obtain⟨s,hs,hx⟩:=hcov x ⟨h1,h2⟩;obtain⟨p,hp,h3⟩:=AW.1 hx;exact⟨p,(hmem p).2 ⟨s,hs,hp⟩,h3⟩
def natA (cl:Cls) (N:List (List Nat)) (ac:List Bool):AutoL:=⟨cl,N.map fun r=>r.map fun(n:Nat)=>(n:Int),ac⟩
theorem F5 (cl:Cls) (N:List (List Nat)) (ac:List Bool):autoAV (natA cl N ac)=autoN cl N ac:=by
 have e:(rowAV ∘ fun r:List Nat=>r.map fun(n:Nat)=>(n:Int))=nsAV:=by
  funext r
  show AV.sl false ((r.map fun(n:Nat)=>(n:Int)).map I)=.sl false (r.map NV);rw[map_map];rfl
 unfold autoAV natA autoN;simp only[map_map,e]
theorem M1 {a:AutoL} (h:∀ r∈a.nx,∀ t∈r,0<=t):natA a.cl (nxN a.nx) a.ac=a:=by
 obtain⟨cl,nx,ac⟩:=a;unfold natA nxN;simp only[AutoL.mk.injEq,true_and,and_true,map_map];have:nx.map ((fun r=>r.map fun(n:Nat)=>(n:Int)) ∘ fun r=>r.map Int.toNat)=nx.map id:=by
  apply List.map_congr_left;intro r hr;simp only[Function.comp,map_map,id];have:r.map ((fun(n:Nat)=>(n:Int)) ∘ Int.toNat)=r.map id:=by
   apply List.map_congr_left;intro t ht;have:=h r hr t ht;simp only[Function.comp,id];omega
  rw[this,map_id]
 rw[this,map_id]
theorem F8 {a:AutoL} (hg:GoodA a):autoAV a=autoN a.cl (nxN a.nx) a.ac:=by
 rw[<- F5,M1 fun r hr t ht=>((hg.rows r hr).2 t ht).1]
theorem Dy (nx:List (List Int)) (s c:Nat):nxf (nxN nx) s c=stepC nx s c:=by
 unfold nxf nxN stepC;rw[getElem?_map];cases nx[s]? with
 | none=>simp
 | some r=>
   simp only[map_some,getD_some,getElem?_map];cases r[c]?<;>simp
theorem Cv (a:AutoL):autoDA a=daOf (nxN a.nx) a.ac a.cl.length (clIx a.cl):=by
 unfold autoDA daOf;congr 1
 ·simp[nxN]
 ·funext s c
  exact(Dy a.nx s c).symm
theorem E0 {a:AutoL} (hg:GoodA a):RowsN (nxN a.nx) a.cl.length (nxN a.nx).length:=by
 have hl:(nxN a.nx).length=a.nx.length:=by simp[nxN]
 refine⟨fun r hr=>?_,fun r hr t ht=>?_⟩
 ·obtain⟨r',hr',rfl⟩:=mem_map.1 hr;rw[length_map];exact(hg.rows r' hr').1
 ·obtain⟨r',hr',rfl⟩:=mem_map.1 hr;obtain⟨t',ht',rfl⟩:=mem_map.1 ht;have:=(hg.rows r' hr').2 t' ht';rw[hl];omega
end Go.Ev
namespace Go.Ev
theorem KM {s:List (Int×Int)} (h:refSpans s=0):∀ p∈s,goodS p:=Ak h
theorem LK {s:List (Int×Int)} (hg:∀ p∈s,goodS p) (h:¬ 64<(normL s).length):refSpans (normL s)=0:=by
 obtain⟨h1,_,_⟩:=Gd hg;exact Fj h1.sep h1.good (by omega)
theorem LW {a:AutoL} (hg:GoodA a) {top:Int} (hd:DivOk a.cl top):LeastIn a.cl (nxN a.nx) a.ac:=by
 have hl:(nxN a.nx).length=a.nx.length:=by simp[nxN]
 refine⟨E0 hg,by rw[hl];exact hg.ac,by rw[hl];exact hg.nx,hg.cl,fun s hs=>?_⟩;have:=hd.set s hs;exact⟨this.2,(BN this.1).2,KM this.1⟩
section
variable {a:AutoL}{top:Int}
def lstA (a:AutoL):AutoL:=natA (clsL a.cl (nxN a.nx) a.ac) (rowsL (nxN a.nx) a.ac a.cl.length) (acL (nxN a.nx) a.ac a.cl.length)
theorem MP (hg:GoodA a) (hd:DivOk a.cl top):Quo (autoDA a) top (statesA (nxN a.nx) a.cl.length) (chosenA (nxN a.nx) a.ac a.cl.length) (keptA (nxN a.nx) a.ac a.cl.length) (fun s=>(renA (nxN a.nx) a.ac a.cl.length)[s]?.getD 0) (fun c=>(kindsA (nxN a.nx) a.ac a.cl.length)[c]?.getD 0):=by
 rw[Cv];refine M7 ?_ ?_
 ·rw[<- Cv];exact Ch hg hd
 ·rw[<- Cv];exact OY hd
theorem E5 (a:AutoL):(keptA (nxN a.nx) a.ac a.cl.length).length=widthL (nxN a.nx) a.ac a.cl.length:=CP _
theorem HE (a:AutoL):(clsL a.cl (nxN a.nx) a.ac).length=widthL (nxN a.nx) a.ac a.cl.length:=by simp[clsL]
theorem FA {a:AutoL}{k:Nat}{s:List (Int×Int)} (h:(clsL a.cl (nxN a.nx) a.ac)[k]?=some s):k<widthL (nxN a.nx) a.ac a.cl.length/\s=normL (spansK a.cl (kindsA (nxN a.nx) a.ac a.cl.length) k):=by
 have hk:=(List.getElem?_eq_some_iff.1 h).1;rw[HE]at hk;refine⟨hk,?_⟩;simp only[clsL,classL,getElem?_map,List.getElem?_range hk,map_some,Option.some.injEq]at h;exact h.symm
theorem M8 (a:AutoL):(kindsA (nxN a.nx) a.ac a.cl.length).length=a.cl.length:=by rw[kindsA,Ad,BI]
theorem Cy (hd:DivOk a.cl top) {k:Nat}{x:Int}:hasSpan (spansK a.cl (kindsA (nxN a.nx) a.ac a.cl.length) k) x=true↔Sy top x/\(kindsA (nxN a.nx) a.ac a.cl.length)[clIx a.cl x]?=some k:=by
 rw[AW];constructor
 ·rintro⟨p,hp,hx⟩;obtain⟨c,s,h1,h2,h3⟩:=Bo.1 hp;obtain⟨g1,g2⟩:=(hd.symb h1).1 (AW.2 ⟨p,h3,hx⟩);exact⟨g1,by rw[g2];exact h2⟩
 ·rintro⟨h1,h2⟩;obtain⟨g1,g2⟩:=hd.clIx_lt h1.1 h1.2;have e:=getElem?_eq_getElem g1;rw[e,getD_some]at g2;obtain⟨p,hp,hx⟩:=AW.1 g2;exact⟨p,Bo.2 ⟨_,_,e,h2,hp⟩,hx⟩
theorem DS (hd:DivOk a.cl top) (k:Nat):∀ p∈spansK a.cl (kindsA (nxN a.nx) a.ac a.cl.length) k,goodS p:=fun p hp=>by
 obtain⟨c,s,h1,_,h3⟩:=Bo.1 hp;exact KM (hd.set s (mem_of_getElem? h1)).1 p h3
theorem MQ (hg:GoodA a) (hd:DivOk a.cl top) (hsm:∀ s∈clsL a.cl (nxN a.nx) a.ac,s.length<=64):DivOk (clsL a.cl (nxN a.nx) a.ac) top/\∀ x,Sy top x->clIx (clsL a.cl (nxN a.nx) a.ac) x=(kindsA (nxN a.nx) a.ac a.cl.length)[clIx a.cl x]?.getD 0:=by
 have hq:=MP hg hd;have hkl:=M8 a;have hkd:∀ x,Sy top x->∃ k,(kindsA (nxN a.nx) a.ac a.cl.length)[clIx a.cl x]?=some k/\k<widthL (nxN a.nx) a.ac a.cl.length:=fun x hx=>by
  obtain⟨g1,_⟩:=hd.clIx_lt hx.1 hx.2;obtain⟨k,hk⟩:∃ k,(kindsA (nxN a.nx) a.ac a.cl.length)[clIx a.cl x]?=some k:=⟨_,getElem?_eq_getElem (by omega)⟩;have:=hq.keptall _ (show clIx a.cl x<(autoDA a).m from g1);rw[hk,E5]at this;exact⟨k,hk,this⟩
 have hhas:∀(k:Nat) (s:List (Int×Int)) (x:Int),(clsL a.cl (nxN a.nx) a.ac)[k]?=some s->(hasSpan s x=true↔Sy top x/\(kindsA (nxN a.nx) a.ac a.cl.length)[clIx a.cl x]?=some k):=fun k s x hk=>by
  obtain⟨_,rfl⟩:=FA hk;rw[(Gd (DS hd k)).2.1 x];exact Cy hd
 have hget:∀ k,k<widthL (nxN a.nx) a.ac a.cl.length->∃ s,(clsL a.cl (nxN a.nx) a.ac)[k]?=some s:=fun k hk=>⟨_,getElem?_eq_getElem (by rw[HE];exact hk)⟩;have hset:∀ s∈clsL a.cl (nxN a.nx) a.ac,refSpans s=0/\s≠[]:=fun s hs=>by
  obtain⟨k,hk,e⟩:=List.getElem_of_mem hs;have hk':(clsL a.cl (nxN a.nx) a.ac)[k]?=some s:=by rw[getElem?_eq_getElem hk,e]
  obtain⟨hkw,es⟩:=FA hk';refine⟨by rw[es];exact LK (DS hd k) (by rw[<- es];have:=hsm s hs;omega),fun e0=>?_⟩;obtain⟨c,b1,b2,b3,_⟩:=hq.kget (k:=k) (by rw[E5];exact hkw);obtain⟨x,hx,ex⟩:=hq.ok.surj c b2;have ex:clIx a.cl x=c:=ex;have b2':c<a.cl.length:=b2;have:hasSpan s x=true:=(hhas k s x hk').2 ⟨hx,by
   rw[ex];have b3:(kindsA (nxN a.nx) a.ac a.cl.length)[c]?.getD 0=k:=b3;rw[getElem?_eq_getElem (by omega)]at b3 |-;rw[<- b3];rfl⟩
  rw[e0]at this;cases this
 have hdiv:DivOk (clsL a.cl (nxN a.nx) a.ac) top:=by
  refine OO hd.top_ hset (fun i s t hs ht=>?_) (fun s hs x hx=>?_) (fun x hx=>?_) (fun i j s t x hi hj h1 h2=>?_)
  ·obtain⟨hiw,_⟩:=FA hs;have hs1:=hset s (mem_of_getElem? hs);have ht1:=hset t (mem_of_getElem? ht);obtain⟨k1,k2⟩:=(hhas _ _ _ ht).1 (DC ht1.1 ht1.2);obtain⟨c,b1,b2,b3,b4⟩:=hq.kget (k:=i) (by rw[E5];exact hiw);have b2':c<a.cl.length:=b2;have b3:(kindsA (nxN a.nx) a.ac a.cl.length)[c]?.getD 0=i:=b3;have hc0:=getElem?_eq_getElem b2';have hhc:=hd.head hc0;have h5:hasSpan s (headLo a.cl[c])=true:=(hhas _ _ _ hs).2 ⟨⟨hhc.1,hhc.2.1⟩,by
    rw[hhc.2.2];rw[getElem?_eq_getElem (by omega)]at b3 |-;rw[<- b3];rfl⟩
   have h6:=D1 hs1.1 h5;obtain⟨g1,g2⟩:=hd.clIx_lt k1.1 k1.2;have hge:c<clIx a.cl (headLo t):=by
    rcases Nat.lt_trichotomy (clIx a.cl (headLo t)) c with e|e|e
    ·have h7:(kindsA (nxN a.nx) a.ac a.cl.length)[clIx a.cl (headLo t)]?.getD 0<i:=b4 _ e;rw[k2]at h7;simp at h7;omega
    ·rw[e]at k2;rw[k2]at b3;simp at b3
    ·exact e
   have e1:=getElem?_eq_getElem g1;rw[e1,getD_some]at g2;have h8:=D1 (hd.set _ (getElem_mem g1)).1 g2;have h9:=hd.head_lt (clIx a.cl (headLo t)-(c+1)) c _ _ hc0 (by rw[show c+1+(clIx a.cl (headLo t)-(c+1))=clIx a.cl (headLo t) by omega];exact e1);omega
  ·obtain⟨k,hk,e⟩:=List.getElem_of_mem hs;exact((hhas k s x (by rw[getElem?_eq_getElem hk,e])).1 hx).1
  ·obtain⟨k,hk,hkw⟩:=hkd x hx;obtain⟨s,hs⟩:=hget k hkw;exact⟨s,mem_of_getElem? hs,(hhas k s x hs).2 ⟨hx,hk⟩⟩
  ·have e1:=((hhas _ _ _ hi).1 h1).2;have e2:=((hhas _ _ _ hj).1 h2).2;rw[e1]at e2;exact Option.some.inj e2
 refine⟨hdiv,fun x hx=>?_⟩;obtain⟨k,hk,hkw⟩:=hkd x hx;obtain⟨s,hs⟩:=hget k hkw;rw[hk];exact hdiv.clIx_eq hs ((hhas k s x hs).2 ⟨hx,hk⟩)
theorem M3 (hg:GoodA a) (hd:DivOk a.cl top) (hsm:∀ s∈clsL a.cl (nxN a.nx) a.ac,s.length<=64):LeastOf (autoDA a) top (lstA a):=by
 have hq:=MP hg hd;obtain⟨hdiv,hcl⟩:=MQ hg hd hsm;have hnl:(nxN a.nx).length=a.nx.length:=by simp[nxN]
 have hwm:widthL (nxN a.nx) a.ac a.cl.length<=a.cl.length:=by
  have:=BW (colsA (nxN a.nx) a.cl.length (chosenA (nxN a.nx) a.ac a.cl.length) (renA (nxN a.nx) a.ac a.cl.length));rw[BI]at this;exact this
 have hkl:=E5 a;have hcll:=HE a;have hmin:=hq.min;have hsame:=hq.same;generalize hCH:chosenA (nxN a.nx) a.ac a.cl.length=ch at *;generalize hKE:keptA (nxN a.nx) a.ac a.cl.length=ke at *;have hnx:(lstA a).nx.length=ch.length:=by simp[lstA,natA,rowsL,hCH]
 have hac:(lstA a).ac.length=ch.length:=by simp[lstA,natA,acL,hCH]
 have hcl2:(lstA a).cl.length=ke.length:=by rw[hkl,<- hcll];rfl
 have hchn:ch.length<=a.nx.length:=by
  have h1:ch.Nodup:=by
   rw[List.nodup_iff_pairwise_ne,List.pairwise_iff_getElem];intro i j hi hj hij e;obtain⟨_,_,e1,_⟩:=hq.ch i _ (getElem?_eq_getElem hi);obtain⟨_,_,f1,_⟩:=hq.ch j _ (getElem?_eq_getElem hj);rw[e]at e1;omega
  have h2:=Ar ch (List.range a.nx.length) h1 (fun s hs=>by
   obtain⟨k,hk,e⟩:=List.getElem_of_mem hs;obtain⟨j,g1,_⟩:=hq.ch k s (by rw[getElem?_eq_getElem hk,e]);have hsl:s∈statesA (nxN a.nx) a.cl.length:=mem_of_getElem? g1;have hok:=Ch hg hd;rw[Cv]at hok;obtain⟨_,_,h3⟩:=Bh (nx:=nxN a.nx) (cs:=List.range a.cl.length) hok.pos (fun s hs c hc=>hok.lt s c hs (mem_range.1 hc));have:=h3 s hsl;rw[hnl]at this;exact mem_range.2 this)
  simpa using h2
 have hpos:0<ch.length:=hmin.ok.pos;have hag:Agree (quo (autoDA a) ch ke (fun s=>(renA (nxN a.nx) a.ac a.cl.length)[s]?.getD 0) (fun c=>(kindsA (nxN a.nx) a.ac a.cl.length)[c]?.getD 0)) (autoDA (lstA a)) top:=by
  refine⟨hnx,hcl2,fun s c hs hc=>?_,fun s hs=>?_,fun x hx=>?_⟩
  ·have hs:s<ch.length:=hs;have hc:c<ke.length:=hc;show stepC (lstA a).nx s c=(renA (nxN a.nx) a.ac a.cl.length)[(autoDA a).nx (ch[s]?.getD 0) (ke[c]?.getD 0)]?.getD 0;rw[<- Dy];have e1:nxN (lstA a).nx=rowsL (nxN a.nx) a.ac a.cl.length:=by
    simp only[nxN,lstA,natA,map_map];have:((fun r:List Int=>r.map Int.toNat) ∘ fun r:List Nat=>r.map fun(n:Nat)=>(n:Int))=id:=by
     funext r
     simp[Function.comp_def]
    rw[this,map_id]
   rw[e1];have e2:(autoDA a).nx (ch[s]?.getD 0) (ke[c]?.getD 0)=nxf (nxN a.nx) (ch[s]?.getD 0) (ke[c]?.getD 0):=(Dy _ _ _).symm;rw[e2];unfold nxf rowsL;rw[hCH,hKE];simp[getElem?_eq_getElem hs,getElem?_eq_getElem hc];rfl
  ·have hs:s<ch.length:=hs;show (lstA a).ac[s]?.getD false=a.ac[ch[s]?.getD 0]?.getD false;simp[lstA,natA,acL,hCH,getElem?_eq_getElem hs]
  ·exact hcl x hx
 refine⟨⟨by rw[hcl2,hkl];have:=hg.cl;omega,by rw[hnx];exact hpos,by rw[hnx];have:=hg.nx;omega,by rw[hac,hnx],fun row hr=>?_⟩,hdiv,hag.min hmin,hag.sameTo hmin.ok hsame⟩;have hokB:=hag.ok hmin.ok;obtain⟨s,hs,e⟩:=List.getElem_of_mem hr;have hsn:s<ch.length:=by rw[<- hnx];exact hs
 have hrl:row.length=ke.length/\∀ t∈row,0<=t:=by
  have h1:row∈(rowsL (nxN a.nx) a.ac a.cl.length).map fun r=>r.map fun(n:Nat)=>(n:Int):=hr;obtain⟨r,h2,rfl⟩:=mem_map.1 h1;unfold rowsL at h2;rw[hCH,hKE]at h2;obtain⟨t,_,rfl⟩:=mem_map.1 h2;refine⟨by simp,fun t ht=>?_⟩;obtain⟨u,_,rfl⟩:=mem_map.1 ht;omega
 refine⟨by rw[hrl.1,hcl2],fun t ht=>⟨hrl.2 t ht,?_⟩⟩;obtain⟨c,hc,e3⟩:=List.getElem_of_mem ht;have h1:=hokB.lt s c (by rw[show (autoDA (lstA a)).n=(lstA a).nx.length from rfl];exact hs) (by rw[show (autoDA (lstA a)).m=(lstA a).cl.length from rfl,hcl2,<- hrl.1];exact hc);have h2:stepC (lstA a).nx s c<(lstA a).nx.length:=h1;simp only[stepC,getElem?_eq_getElem hs,getD_some]at h2;subst e;simp only[getElem?_eq_getElem hc,getD_some,e3]at h2;have:=hrl.2 t ht;omega
end
def accW (d:Bool) (a:AutoL) (t:List Int):Bool×Int:=
 if validW d a≠0 then(false,validW d a) else if 65536<t.length then(false,4)
 else if t.all (fun x=>decide (0<=x)&&decide (x<=topZ a.cl.flatten)) then(a.ac[(autoDA a).run 0 t]?.getD false,0) else(false,5)
theorem PN {a:AutoL}{d:Bool}{top:Int} (hv:validW d a=0) (ht:topZ a.cl.flatten=top) {t:List Int} (hl:t.length<=65536) (hx:Tx top t) :
  accW d a t=((autoDA a).ac ((autoDA a).run 0 t),0):=by
 have:t.all (fun x=>decide (0<=x)&&decide (x<=topZ a.cl.flatten))=true:=by
  rw[List.all_eq_true,ht];intro x h;have:=hx x h;simp only[Sy]at this;simp only[Bool.and_eq_true,decide_eq_true_eq];exact this
 unfold accW;rw[if_neg (by simp[hv]),if_neg (by omega),if_pos this];rfl
end Go.Ev
