/- What functions of the program compute; no further conditions. -/
import Derived.Test.YtdklnlnbemogbaaGreatK17
set_option linter.unusedVariables false
set_option linter.unusedSimpArgs false
open List (all_cons all_eq_true cons_append ext_getElem? getElem?_eq_none getElem_mem map_append map_cons map_replicate map_set map_take mem_cons mem_map mem_range take_add_one take_length)
open Option (getD_some)
open Go.Proofs Go.RowKit Go.IntWalk
set_option maxHeartbeats 4000000
set_option maxRecDepth 100000
namespace Go.Ev
attribute [local go_sem] evBin AV.cells strOf An As bndO bnd evEq eqCells not_false_eq_true not_true_eq_false toList_some Array.size_empty List.length_append tySzE List.head?_drop Nat.mul_one Ac Aj Aa Ad Ae AW
section
theorem Hf {f id k n z:Nat}{H:List MB}{els:List AV}{r:AV}{H0:List MB} (hr:getRow H id=some (k,els,z)) (hn:els.length=n) (hc:call Pg pol1 f [.sl false els] []=some (r,H0)) (hl:r.lone=true) (hu:els.all (fun x=>AV.underL 0 x.cells)=true) :
  evThaw (call Pg pol1) f [.ms id k n 0 n] H=some (r,H):=by
 unfold evThaw;simp only[thwA,thw,thw1,hr,hn,hu,and_self,if_true,hc,hl]
theorem LP (l:List Nat):(l.map NV).all (fun x=>AV.underL 0 x.cells)=true:=by
 induction l with
 | nil=>rfl
 | cons a l ih=>rw[map_cons,all_cons,ih];rfl
theorem QF (l:List Bool):(l.map AV.bool).all (fun x=>AV.underL 0 x.cells)=true:=by
 induction l with
 | nil=>rfl
 | cons a l ih=>rw[map_cons,all_cons,ih];rfl
theorem Bn {α:Type}{A B:List α}{x:α}{i n:Nat} (hA:A.length=n) (hB:B.length=n) (h:A[i]?=some x):(A.take i++B.drop i).set i x=A.take (i+1)++B.drop (i+1):=by
 have hi:=(zgb.1 h).1;have hl:(A.take i).length=i:=by rw[List.length_take];omega
 rw[List.set_append_right _ _ (by omega),hl,Nat.sub_self,AZ h,List.drop_eq_getElem_cons (by omega:i<B.length),List.set_cons_zero,List.append_assoc];rfl
theorem CG {α:Type}{A B:List α}{i n:Nat} (hA:A.length=n) (hB:B.length=n) (hi:i<=n):(A.take i++B.drop i).length=n:=by
 simp;omega
theorem CH {α:Type}{A B:List α}{n:Nat} (hA:A.length=n) (hB:B.length=n):A.take n++B.drop n=A:=by
 rw[List.drop_of_length_le (by omega),List.append_nil];exact List.take_of_length_le (by omega)
structure RowsN (nx:List (List Nat)) (m n:Nat):Prop where
 len:∀ r∈nx,r.length=m
 lt:∀ r∈nx,∀ t∈r,t<n
theorem RowsN.nxf_lt {nx:List (List Nat)}{m n s c:Nat} (h:RowsN nx m n) (hs:s<nx.length) (hc:c<m):∃ r t,nx[s]?=some r/\r[c]?=some t/\nxf nx s c=t/\t<n:=by
 have e:=zga hs;have hl:=h.len _ (getElem_mem hs);have e2:=zga (show c<nx[s].length by omega);exact⟨_,_,e,e2,by simp only[nxf,e,getD_some,e2],h.lt _ (getElem_mem hs) _ (getElem_mem _)⟩
def colC (nx:List (List Nat)) (states num:List Nat) (c:Nat):List Nat:=states.map fun s=>num[nxf nx s c]?.getD 0
def colP (nx:List (List Nat)) (states num:List Nat):Nat->List Nat
 | 0=>List.replicate states.length 0
 | c+1=>colC nx states num c
theorem RJ (nx:List (List Nat)) (states num:List Nat) (c:Nat):(colP nx states num c).length=states.length:=by
 cases c<;>simp[colP,colC]
theorem Pw {nx:List (List Nat)}{m:Nat}{states num:List Nat}{c:Nat} (hc:c<m):(colsA nx m states num)[c]?=some (colC nx states num c):=C3 hc _ _
theorem f114 (nx:List (List Nat)) (states num:List Nat) (m:Nat) (hr:RowsN nx m num.length) (hs:∀ s∈states,s<nx.length) (hnum:∀ x∈num,x<65536)
  (hm:m<=1000000) (hk:states.length<=1000000) (hn:num.length<=1000000) (H:List MB) :
  call Pg pol1 114 [.sl false (nx.map nsAV),nsAV states,nsAV num,NV m] H=some (.tup [nsAV (numA (colsA nx m states num)),NV (onces (colsA nx m states num)).length],H):=by
 refine AQ Tryz.func114 rfl rfl rfl rfl rfl rfl (fun _=>rfl) (by simp[AV.plain,AV.plainL,AR,AU]) (by simp[AV.plain,AV.plainL,AR]) ?_ H;have hroom:roomFor (m:Int).toNat 16=true:=AW (by omega) (by omega);have hroom2:roomFor (states.length:Int).toNat 8=true:=AW (by omega) (by omega);have hcl:=BX nx m states num;have hcb:∀ l∈colsA nx m states num,∀ n∈l,n<65536:=fun l hl n hn=>by
  obtain⟨c,_,rfl⟩:=mem_map.1 hl;obtain⟨s,_,rfl⟩:=mem_map.1 hn;cases e:num[nxf nx s c]? with
  | none=>simp
  | some x=>exact hnum x (zgc e)
 simp +contextual (disch:=omega) only[Tryz.f114,Ml,go_sem,simprocAttr,evAppend,map_append,Ly,hroom,hroom2];refine AS (M:=(Ms 114 4)) rfl m (fun c=>(⟨56,[(22,I c),(21,I m),(11,.ms 1 1 states.length 0 states.length),(10,.ms 0 1 m 0 m),(2,nsAV num),(1,nsAV states),(0,.sl false (nx.map nsAV))],[.row 1 (((colsA nx m states num).take c++List.replicate (m-c) []).map sAV) 0,.row 1 ((colP nx states num c).map NV) 0]⟩:St)) (fun i=>True) ?_ ?_ trivial _ ?_
 ·intro c hc _;have hcg:=Pw (nx:=nx) (states:=states) (num:=num) hc;have hfs:=Bd (z:=[]) hcl hcg;have hfl:=Be (A:=colsA nx m states num) (z:=[]) hcl (i:=c) (by omega);have hPl:=RJ nx states num c;have hCl:(colC nx states num c).length=states.length:=by simp[colC]
  rw[<- hfs,show colP nx states num (c+1)=colC nx states num c from rfl];generalize (colsA nx m states num).take c++List.replicate (m-c) []=K at *;generalize colP nx states num c=P at *;simp +contextual (disch:=omega) only[Tryz.f114,Ml,go_sem,simprocAttr,evAppend,map_append,Ly];refine AS (M:=(Ms 114 7)) rfl states.length (fun i=>(⟨56,[(27,I i),(26,I states.length),(25,nsAV states),(22,I c),(21,I m),(12,I c),(11,.ms 1 1 states.length 0 states.length),(10,.ms 0 1 m 0 m),(2,nsAV num),(1,nsAV states),(0,.sl false (nx.map nsAV))],[.row 1 (K.map sAV) 0,.row 1 (((colC nx states num c).take i++P.drop i).map NV) 0]⟩:St)) (fun i=>True) ?_ ?_ trivial _ ?_
  ·intro i hi _;obtain⟨s,hsi⟩:∃ s,states[i]?=some s:=⟨_,zga hi⟩;have hsi':(states.map NV)[i]?=some (NV s):=by simp[hsi]
   have hsl:=hs s (zgc hsi);obtain⟨r,t,e1,e2,e3,e4⟩:=hr.nxf_lt hsl hc;have e1':(nx.map nsAV)[s]?=some (nsAV r):=by simp[e1]
   have e2':(r.map NV)[c]?=some (NV t):=by simp[e2]
   obtain⟨u,hu⟩:∃ u,num[t]?=some u:=⟨_,zga e4⟩;have hu':(num.map NV)[t]?=some (NV u):=by simp[hu]
   have hci:(colC nx states num c)[i]?=some u:=by simp[colC,hsi,e3,hu]
   have hfs2:=Bn hCl hPl hci;have hfl2:=CG hCl hPl (i:=i) (by omega);rw[<- hfs2];generalize (colC nx states num c).take i++P.drop i=A at *;obtain⟨y,hy⟩:∃ y,A[i]?=some y:=⟨_,zga (by omega)⟩;have hy':(A.map NV)[i]?=some (NV y):=by simp[hy]
   have hset:(A.map NV).set i (NV u)=(A.set i u).map NV:=by rw[map_set]
   simp +contextual (disch:=omega) only[Tryz.f114,Ml,go_sem,simprocAttr,evAppend,map_append,Ly,hsi',e1',e2',hu',hfl2,hy',hset];rfl
  ·intro _;rw[CH hCl hPl];have h56:=f56 (colC nx states num c) (by omega) (fun n hn=>by have:=hcb _ (zgc hcg) n hn;omega);generalize colC nx states num c=C at *;obtain⟨y,hy⟩:∃ y,K[c]?=some y:=⟨_,zga (by omega)⟩;have hy':(K.map sAV)[c]?=some (sAV y):=by simp[hy]
   have hset:(K.map sAV).set c (.str (keyS C))=(K.set c C).map sAV:=by rw[map_set]
   have hth:=fun(b:MB)=>Hf (f:=56) (z:=0) (H:=[b,.row 1 (C.map NV) 0]) (id:=1) (k:=1) (n:=states.length) (els:=C.map NV) (r:=.str (keyS C)) rfl (by simp[hCl]) (h56 []) rfl (LP _);simp +contextual (disch:=omega) only[Tryz.f114,Ml,go_sem,simprocAttr,evAppend,map_append,Ly,hth,hfl,hy',hset];rfl
  ·rfl
 ·intro _;rw[B5 hcl];have h165:=fun(x:MB)=>f165 (colsA nx m states num) hcb m hcl hm 0 0 [.row 1 ((colsA nx m states num).map sAV) 0,x] rfl;simp +contextual (disch:=omega) only[Tryz.f114,Ml,go_sem,simprocAttr,evAppend,map_append,Ly,h165];exact fzEq (by simp[AV.plain,AV.plainL,AR]) rfl
 ·rw[show (colsA nx m states num).take 0++List.replicate (m-0) []=List.replicate m [] from rfl,map_replicate,show colP nx states num 0=List.replicate states.length 0 from rfl,map_replicate];rfl
def fndA (n:Nat) (l:List Nat):List Bool:=(List.range n).map fun s=>decide (s∈l)
theorem MR (n:Nat) (l:List Nat):(fndA n l).length=n:=by simp[fndA]
theorem F7 {n s:Nat} (l:List Nat) (h:s<n):(fndA n l)[s]?=some (decide (s∈l)):=by simp[fndA,h]
theorem MQ {n s:Nat}{l:List Nat} (h:s<n):(fndA n l).set s true=fndA n (l++[s]):=by
 apply ext_getElem?;intro i;by_cases hi:i<n
 ·rw[F7 _ hi];by_cases e:s=i
  ·subst e;rw[List.getElem?_set_self (by rw[MR];exact h)];simp
  ·rw[List.getElem?_set_ne e,F7 _ hi];have:¬ i=s:=fun h=>e h.symm;simp[this]
 ·rw[getElem?_eq_none (by simp[fndA];omega),getElem?_eq_none (by simp[fndA];omega)]
theorem DP {α:Type} [DecidableEq α] (l xs:List α) (x:α):addAll l (xs++[x])=if x∈addAll l xs then addAll l xs else addAll l xs++[x]:=by
 rw[Br,addAll,addAll]
structure RS where
 i:Nat
 l:List Nat
structure ReachI (nx:List (List Nat)) (cs:List Nat) (R:List Nat) (x:RS):Prop where
 nodup:x.l.Nodup
 lt:∀ s∈x.l,s<nx.length
 le:x.i<=x.l.length
 go:∃ k,bfs (fun s=>cs.map (nxf nx s)) k x.i x.l=R/\nx.length+1<=k+x.i
theorem NK {nx:List (List Nat)}{cs:List Nat}{R:List Nat}{i:Nat}{l:List Nat} (h:ReachI nx cs R ⟨i,l⟩) {s:Nat} (hs:l[i]?=some s) (hlt:∀ s,s<nx.length->∀ c∈cs,nxf nx s c<nx.length) :
  ReachI nx cs R ⟨i+1,addAll l (cs.map (nxf nx s))⟩:=by
 obtain⟨h1,h2,h3,k,h4,h5⟩:=h;simp only at h1 h2 h3 h4 h5;have hi:=getElem?_ne_none hs;have hs':=h2 s (zgc hs);refine⟨A8 _ _ h1,fun t ht=>?_,by have:=Fg (cs.map (nxf nx s)) l;simp only;omega,?_⟩
 ·rcases(Bh _ _ _).1 ht with h|h
  ·exact h2 t h
  ·obtain⟨c,hc,rfl⟩:=mem_map.1 h;exact hlt s hs' c hc
 ·have hlen:=Ay l (List.range nx.length) h1 (fun x hx=>mem_range.2 (h2 x hx));simp only[List.length_range]at hlen;obtain⟨k',rfl⟩:∃ k',k=k' + 1:=⟨k-1,by omega⟩;rw[bfs,hs]at h4;exact⟨k',h4,by simp only;omega⟩
theorem PN {nx:List (List Nat)}{cs:List Nat}{R:List Nat}{i:Nat}{l:List Nat} (h:ReachI nx cs R ⟨i,l⟩) (hi:¬ i<l.length):l=R:=by
 obtain⟨_,_,_,k,h4,_⟩:=h;simp only at h4;have e:l[i]?=none:=getElem?_eq_none (by omega);cases k with
 | zero=>exact h4
 | succ k=>rw[bfs,e]at h4;exact h4
theorem f111 (nx:List (List Nat)) (cs:List Nat) (m:Nat) (hr:RowsN nx m nx.length) (hc:∀ c∈cs,c<m) (h0:0<nx.length) (hn:nx.length<=1000000) (hk:cs.length<=1000000) (H:List MB) :
  call Pg pol1 111 [.sl false (nx.map nsAV),nsAV cs] H=some (nsAV (reachA nx cs),H):=by
 have hlt:∀ s,s<nx.length->∀ c∈cs,nxf nx s c<nx.length:=fun s hs c hc2=>by
  obtain⟨_,_,_,_,e,h⟩:=hr.nxf_lt hs (hc c hc2);rw[e];exact h
 refine AQ Tryz.func111 rfl rfl rfl rfl rfl rfl (fun _=>rfl) (by simp[AV.plain,AV.plainL,AR,AU]) (by simp[AV.plain,AR]) ?_ H;have hroom:roomFor (nx.length:Int).toNat 1=true:=AW (by omega) (by omega);obtain⟨Z,hZ⟩:∃ Z,List.replicate nx.length (AV.bool false)=Z:=⟨_,rfl⟩;have hZl:Z.length=nx.length:=by rw[<- hZ];simp
 have hZ0:Z[0]?=some (AV.bool false):=by rw[<- hZ];simp[h0]
 have hZs:Z.set 0 (AV.bool true)=(fndA nx.length [0]).map AV.bool:=by
  have e:Z=(fndA nx.length []).map AV.bool:=by
   rw[<- hZ];apply ext_getElem?;intro i;by_cases hi:i<nx.length
   ·rw[List.getElem?_map,F7 _ hi];simp[hi]
   ·rw[getElem?_eq_none (by simp;omega),getElem?_eq_none (by simp[fndA];omega)]
  rw[e,<- map_set,MQ h0];rfl
 simp +contextual (disch:=omega) only[Tryz.f111,KP,go_sem,simprocAttr,evAppend,map_append,Jx,hroom,hZ,hZl,hZ0,hZs];refine BR (σ:=RS) (M:=(Ms 111 5)) rfl (fun x=>(⟨53,[(7,I x.i),(6,.ms 1 1 nx.length 0 nx.length),(5,.ms 0 1 x.l.length 0 x.l.length),(1,nsAV cs),(0,.sl false (nx.map nsAV))],[.row 1 (x.l.map NV) 0,.row 1 ((fndA nx.length x.l).map AV.bool) 0]⟩:St)) (ReachI nx cs (reachA nx cs)) (fun x=>nx.length-x.i) ⟨0,[0]⟩ ?_ ⟨by simp,fun s hs=>by simp at hs;omega,Nat.zero_le _,nx.length+1,rfl,by simp⟩ _ ?_
 ·rintro⟨i,l⟩ hI;have hll:=Ay l (List.range nx.length) hI.nodup (fun x hx=>mem_range.2 (hI.lt x hx));simp only[List.length_range]at hll;by_cases hi:i<l.length
  ·obtain⟨s,hs⟩:∃ s,l[i]?=some s:=⟨_,zga hi⟩;have hst:=NK hI hs hlt;have hsl:=hI.lt s (zgc hs);have hgs:∀ m,(l++m)[i]?=some s:=fun m=>by rw[List.getElem?_append_left hi];exact hs
   simp +contextual (disch:=omega) only[Tryz.f111,KP,go_sem,simprocAttr,evAppend,map_append,Jx];refine AS (M:=(Ms 111 8)) rfl cs.length (fun j=>(⟨53,[(25,I j),(24,I cs.length),(23,nsAV cs),(7,I i),(6,.ms 1 1 nx.length 0 nx.length),(5,.ms 0 1 (addAll l ((cs.take j).map (nxf nx s))).length 0 (addAll l ((cs.take j).map (nxf nx s))).length),(1,nsAV cs),(0,.sl false (nx.map nsAV))],[.row 1 ((addAll l ((cs.take j).map (nxf nx s))).map NV) 0,.row 1 ((fndA nx.length (addAll l ((cs.take j).map (nxf nx s)))).map AV.bool) 0]⟩:St)) (fun j=>True) ?_ ?_ trivial _ ?_
   ·intro j hj _;obtain⟨c,hcj⟩:∃ c,cs[j]?=some c:=⟨_,zga hj⟩;have hcj':(cs.map NV)[j]?=some (NV c):=by simp[hcj]
    have hcm:=hc c (zgc hcj);obtain⟨r,t,e1,e2,e3,e4⟩:=hr.nxf_lt hsl hcm;have e1':(nx.map nsAV)[s]?=some (nsAV r):=by simp[e1]
    have e2':(r.map NV)[c]?=some (NV t):=by simp[e2]
    have hsn:addAll l ((cs.take (j+1)).map (nxf nx s))=if t∈addAll l ((cs.take j).map (nxf nx s)) then addAll l ((cs.take j).map (nxf nx s)) else addAll l ((cs.take j).map (nxf nx s))++[t]:=by
     rw[AZ hcj,map_append,map_cons,List.map_nil,DP,e3]
    obtain⟨m',hm'⟩:=BC ((cs.take j).map (nxf nx s)) l;have hgs2:(addAll l ((cs.take j).map (nxf nx s)))[i]?=some s:=by rw[hm'];exact hgs m'
    have hAl:(addAll l ((cs.take j).map (nxf nx s))).length<=nx.length:=by
     have:=Ay (addAll l ((cs.take j).map (nxf nx s))) (List.range nx.length) (A8 _ _ hI.nodup) (fun x hx=>by
      rcases(Bh _ _ _).1 hx with h|h
      ·exact mem_range.2 (hI.lt x h)
      ·obtain⟨c',hc',rfl⟩:=mem_map.1 h;exact mem_range.2 (hlt s hsl c' (List.mem_of_mem_take hc')))
     simpa using this
    rw[hsn];generalize addAll l ((cs.take j).map (nxf nx s))=A at *;have hgA:(A.map NV)[i]?=some (NV s):=by simp[hgs2]
    have hiA:=getElem?_ne_none hgs2;have hft:((fndA nx.length A).map AV.bool)[t]?=some (.bool (decide (t∈A))):=by rw[List.getElem?_map,F7 _ e4];rfl
    have hfl:=MR nx.length A;by_cases hm:t∈A
    ·rw[if_pos hm];rw[decide_eq_true hm]at hft;simp +contextual (disch:=omega) only[Tryz.f111,KP,go_sem,simprocAttr,evAppend,map_append,Jx,hcj',hgA,e1',e2',hft,hfl];exact(by first|rfl|(refine AO rfl (by rfl) (by rfl) (by rfl) ?_ ?_<;>simp[AV.underL,AV.under,MB.under,AG,AJ,AF,AH,AK,AM,-map_take,AR,AU,AN]))
    ·rw[if_neg hm];rw[decide_eq_false hm]at hft;have hfs:((fndA nx.length A).map AV.bool).set t (.bool true)=(fndA nx.length (A++[t])).map AV.bool:=by rw[<- MQ e4,map_set]
     have a1:=fun(b:MB) (u:Bool)=>O1 (H:=[.row 1 (A.map NV) 0,b]) (i:=0) (n:=A.length) (c:=t) (t:=u) rfl rfl (by omega);simp only[List.set_cons_zero]at a1;have hlen:(A++[t]).length=A.length+1:=by simp
     rw[hlen];simp +contextual (disch:=omega) only[Tryz.f111,KP,go_sem,simprocAttr,Jx,hcj',hgA,e1',e2',hft,hfl,hfs,a1];generalize A++[t]=A2;exact(by first|rfl|(refine AO rfl (by rfl) (by rfl) (by rfl) ?_ ?_<;>simp[AV.underL,AV.under,MB.under,AG,AJ,AF,AH,AK,AM,-map_take,AR,AU,AN]))
   ·intro _;rw[take_length];simp +contextual (disch:=omega) only[Tryz.f111,KP,go_sem,simprocAttr,evAppend,map_append,Jx];exact⟨⟨i+1,_⟩,hst,by simp only;omega,(by first|rfl|(refine AO rfl (by rfl) (by rfl) (by rfl) ?_ ?_<;>simp[AV.underL,AV.under,MB.under,AG,AJ,AF,AH,AK,AM,-map_take,AR,AU,AN]))⟩
   ·exact(by first|rfl|(refine AO rfl (by rfl) (by rfl) (by rfl) ?_ ?_<;>simp[AV.underL,AV.under,MB.under,AG,AJ,AF,AH,AK,AM,-map_take,AR,AU,AN]))
  ·have hR:=PN hI hi;rw[<- hR];have hi2:¬ (i:Int)<(l.length:Int):=by omega
   simp +contextual (disch:=omega) only[Tryz.f111,KP,go_sem,simprocAttr,evAppend,map_append,Jx,hi2];exact⟨_,Av (z:=0) rfl (by simp) (AR _)⟩
 ·exact(by first|rfl|(refine AO rfl (by rfl) (by rfl) (by rfl) ?_ ?_<;>simp[AV.underL,AV.under,MB.under,AG,AJ,AF,AH,AK,AM,-map_take,AR,AU,AN]))
end
def addRow (x:Int):List Int->List Int->List Int
 | a,[]=>a
 | a,t::row=>addRow x (a.set t.toNat (a[t.toNat]?.getD 0+x)) row
theorem DV (x:Int):∀(row a:List Int),(addRow x a row).length=a.length
 | [],_=>rfl
 | t::row,a=>by rw[addRow,DV x row,List.length_set]
def roundC (cnt:List Int):List (List Int)->Nat->List Int->List Int
 | [],_,a=>a
 | row::rows,k,a=>roundC cnt rows (k+1) (addRow (cnt[k]?.getD 0) a row)
theorem DR (cnt:List Int):∀(rows:List (List Int)) (k:Nat) (a:List Int),(roundC cnt rows k a).length=a.length
 | [],_,_=>rfl
 | row::rows,k,a=>by rw[roundC,DR cnt rows,DV]
def stepC (nx:List (List Int)) (s c:Nat):Nat:=((nx[s]?.getD [])[c]?.getD 0).toNat
def RowsOk (nx:List (List Int)) (m:Nat):Prop:=∀ row∈nx,row.length=m/\∀ t∈row,0<=t/\t<nx.length
theorem QJ {nx:List (List Int)}{m:Nat} (h:RowsOk nx m) {s c:Nat} (hs:s<nx.length) (hc:c<m):stepC nx s c<nx.length:=by
 have h1:=h nx[s] (getElem_mem hs);have hc':c<nx[s].length:=by omega
 have h2:=h1.2 nx[s][c] (getElem_mem hc');simp only[stepC,zga hs,getD_some,zga hc'];omega
def accSum (acc:List Bool):List Int->Nat->Int
 | [],_=>0
 | x::cnt,k=>(if acc[k]?.getD false then x else 0)+accSum acc cnt (k+1)
def maxN:Int:=1099511627776
def countsA (nx:List (List Int)):Nat->Option (List Int)
 | 0=>some ((List.replicate nx.length 0).set 0 1)
 | k+1=>match countsA nx k with
   | none=>none
   | some c=>if(roundC c nx 0 (List.replicate nx.length 0)).all (fun x=>decide (x<=maxN)) then some (roundC c nx 0 (List.replicate nx.length 0)) else none
theorem FN (x:Int) (hx:0<=x):∀(row a:List Int),(∀ y∈a,0<=y)->∀ y∈addRow x a row,0<=y
 | [],a,h,y,hy=>h y hy
 | t::row,a,h,y,hy=>FN x hx row _ (fun z hz=>by
    rcases List.mem_or_eq_of_mem_set hz with h1|h1
    ·exact h z h1
    ·subst h1;cases e:a[t.toNat]? with
     | none=>simp;omega
     | some w=>have:=h w (zgc e);simp;omega) y hy
theorem MJ {c:List Int} (h:∀ y∈c,0<=y) (k:Nat):0<=c[k]?.getD 0:=by
 cases e:c[k]? with
 | none=>simp
 | some x=>exact h x (zgc e)
theorem E9 (c:List Int) (hc:∀ y∈c,0<=y):∀(rows:List (List Int)) (k:Nat) (a:List Int),(∀ y∈a,0<=y)->∀ y∈roundC c rows k a,0<=y
 | [],_,a,h,y,hy=>h y hy
 | row::rows,k,a,h,y,hy=>E9 c hc rows (k+1) _ (fun z hz=>FN _ (MJ hc k) row a h z hz) y hy
theorem C1 (nx:List (List Int)):∀(k:Nat) (c:List Int),countsA nx k=some c->∀ y∈c,0<=y
 | 0,c,h,y,hy=>by
   simp only[countsA,Option.some.injEq]at h;subst h;rcases List.mem_or_eq_of_mem_set hy with h1|h1
   ·rw[List.eq_of_mem_replicate h1];omega
   ·omega
 | k+1,c,h,y,hy=>by
   rw[countsA]at h;cases e:countsA nx k with
   | none=>rw[e]at h;cases h
   | some c0=>
     rw[e]at h;simp only at h;split at h
     ·simp only[Option.some.injEq]at h;subst h;refine E9 c0 (C1 nx k c0 e) nx 0 _ (fun z hz=>?_) y hy;rw[List.eq_of_mem_replicate hz];omega
     ·cases h
theorem Ee (nx:List (List Int)):∀(k:Nat) (c:List Int),countsA nx k=some c->c.length=nx.length
 | 0,c,h=>by
   simp only[countsA,Option.some.injEq]at h;subst h;simp
 | k+1,c,h=>by
   rw[countsA]at h;cases e:countsA nx k with
   | none=>rw[e]at h;cases h
   | some c0=>
     rw[e]at h;simp only at h;split at h
     ·simp only[Option.some.injEq]at h;subst h;rw[DR];simp
     ·cases h
theorem Iq (nx:List (List Int)):∀(k:Nat) (c:List Int),countsA nx k=some c->∀ y∈c,y<=maxN
 | 0,c,h,y,hy=>by
   simp only[countsA,Option.some.injEq]at h;subst h;rcases List.mem_or_eq_of_mem_set hy with h1|h1
   ·rw[List.eq_of_mem_replicate h1];decide
   ·subst h1;decide
 | k+1,c,h,y,hy=>by
   rw[countsA]at h;cases e:countsA nx k with
   | none=>rw[e]at h;cases h
   | some c0=>
     rw[e]at h;simp only at h;split at h
     ·rename_i h1;simp only[Option.some.injEq]at h;subst h;simp only[all_eq_true,decide_eq_true_eq]at h1;exact h1 y hy
     ·cases h
def countA (nx:List (List Int)) (ac:List Bool) (n:Nat):Int×Int:=
 match countsA nx n with
 | none=>(0,4)
 | some c=>if maxN<accSum ac c 0 then(0,4) else(accSum ac c 0,0)
end Go.Ev
namespace Go.Ev
attribute [local go_sem] evBin AV.cells strOf An As bndO bnd evEq eqCells not_false_eq_true not_true_eq_false toList_some Array.size_empty List.length_append tySzE List.head?_drop Nat.mul_one Ac Aj Aa Ad Ae AW
section
attribute [local go_sem] evAppend map_append
def maxL:List Int->Int
 | []=>0
 | x::xs=>xs.foldl max x
theorem PX {l:List Int}{i:Nat}{y:Int} (h:l[i+1]?=some y):maxL (l.take (i+1+1))=max (maxL (l.take (i+1))) y:=by
 cases l with
 | nil=>simp at h
 | cons x xs=>
   have h2:xs[i]?=some y:=by simpa using h
   rw[List.take_succ_cons,List.take_succ_cons,maxL,maxL,take_add_one,h2,Option.toList_some,List.foldl_append];rfl
theorem KC (N:Int):∀(l:List Int) (x:Int),l.foldl max x<=N↔x<=N/\∀ y∈l,y<=N
 | [],x=>by simp
 | a::l,x=>by
   rw[List.foldl_cons,KC N l];constructor
   ·rintro⟨h1,h2⟩;refine⟨by omega,fun y hy=>?_⟩;rcases mem_cons.1 hy with h|h
    ·subst h;omega
    ·exact h2 y h
   ·rintro⟨h1,h2⟩;have:=h2 a (by simp);exact⟨by omega,fun y hy=>h2 y (by simp[hy])⟩
theorem R7 {l:List Int} (h:l≠[]) (N:Int):maxL l<=N↔∀ y∈l,y<=N:=by
 cases l with
 | nil=>exact absurd rfl h
 | cons x xs=>
   rw[maxL,KC];constructor
   ·rintro⟨h1,h2⟩ y hy;rcases mem_cons.1 hy with h|h
    ·subst h;exact h1
    ·exact h2 y h
   ·intro h;exact⟨h x (by simp),fun y hy=>h y (by simp[hy])⟩
theorem Gg (x y:Int):evMax (.int .i64 x) (.int .i64 y)=some (.int .i64 (max x y)):=by
 unfold evMax;simp only[Option.some.injEq,AV.int.injEq,true_and];split<;>omega
theorem f71 (l:List Int) (h0:l≠[]) (hl:l.length<=1000000) (H:List MB):call Pg pol1 71 [.sl false (l.map I)] H=some (I (maxL l),H):=by
 have hpl:=AF l;have hpos:=List.length_pos_iff.2 h0;obtain⟨x0,hx0⟩:∃ x,l[0]?=some x:=⟨_,zga hpos⟩;have hx0':(l.map I)[0]?=some (I x0):=by simp[hx0]
 have e0:maxL (l.take 1)=x0:=by
  cases l with
  | nil=>simp at hx0
  | cons a l=>simp at hx0;subst hx0;rfl
 refine AQ Tryz.func71 rfl rfl rfl rfl rfl rfl (fun _=>rfl) (by simp[AV.plain,AV.plainL,hpl]) (by simp[AV.plain]) ?_ H;simp +contextual (disch:=omega) only[Tryz.f71,dd71,go_sem,simprocAttr,mu71,hx0'];refine AS (M:=(Ms 71 5)) rfl (l.length-1) (fun i=>(⟨25,[(4,.int .i64 ((i+1:Nat):Int)),(3,I (maxL (l.take (i+1)))),(0,.sl false (l.map I))],[]⟩:St)) (fun i=>True) ?_ ?_ trivial _ (by rw[e0];rfl)
 ·intro i hi _;obtain⟨y,hy⟩:∃ y,l[i+1]?=some y:=⟨_,zga (by omega)⟩;have hy':(l.map I)[i+1]?=some (I y):=by simp[hy]
  rw[PX hy];simp +contextual (disch:=omega) only[Tryz.f71,dd71,go_sem,simprocAttr,mu71,hy',Gg];rfl
 ·intro _;rw[List.take_of_length_le (by omega)];have:l.length-1+1=l.length:=by omega
  rw[this];simp +contextual (disch:=omega) only[Tryz.f71,dd71,go_sem,simprocAttr,mu71];exact fzEq rfl rfl
theorem JH (x:Int):∀(A B a:List Int),addRow x a (A++B)=addRow x (addRow x a A) B
 | [],_,_=>rfl
 | t::A,B,a=>by rw[cons_append,addRow,addRow,JH x A B]
theorem M5 (x:Int) {row:List Int}{j:Nat}{t:Int} (h:row[j]?=some t) (a:List Int):addRow x a (row.take (j+1))=(addRow x a (row.take j)).set t.toNat ((addRow x a (row.take j))[t.toNat]?.getD 0+x):=by
 rw[take_add_one,h,Option.toList_some,JH];rfl
theorem Hp (c:List Int):∀(A B:List (List Int)) (k:Nat) (a:List Int),roundC c (A++B) k a=roundC c B (k+A.length) (roundC c A k a)
 | [],_,_,_=>rfl
 | r::A,B,k,a=>by rw[cons_append,roundC,roundC,Hp c A B,List.length_cons,show k+1+A.length=k+(A.length+1) by omega]
theorem Ll (c:List Int) {nx:List (List Int)}{s:Nat}{row:List Int} (h:nx[s]?=some row) (a:List Int):roundC c (nx.take (s+1)) 0 a=addRow (c[s]?.getD 0) (roundC c (nx.take s) 0 a) row:=by
 have hs:=(zgb.1 h).1;rw[take_add_one,h,Option.toList_some,Hp,List.length_take,Nat.zero_add,Nat.min_eq_left (by omega)];rfl
theorem HE:∀(row a:List Int),addRow 0 a row=a
 | [],_=>rfl
 | t::row,a=>by
   have e:a.set t.toNat (a[t.toNat]?.getD 0+0)=a:=by
    apply ext_getElem?;intro i;by_cases hi:t.toNat=i
    ·subst hi;by_cases h:t.toNat<a.length
     ·rw[List.getElem?_set_self h,zga h];simp
     ·rw[getElem?_eq_none (by rw[List.length_set];omega),getElem?_eq_none (by omega)]
    ·rw[List.getElem?_set_ne hi]
   rw[addRow,e,HE row a]
end
section
attribute [local go_sem] evAppend map_append
def countW (d:Bool) (a:AutoL) (n:Int):Int×Int:=
 if validW d a≠0 then(0,validW d a) else if n<0∨4096<n then(0,5) else countA a.nx a.ac n.toNat
structure GoodA (a:AutoL):Prop where
 cl:a.cl.length<=1024
 pos:0<a.nx.length
 nx:a.nx.length<=1024
 ac:a.ac.length=a.nx.length
 rows:RowsOk a.nx a.cl.length
theorem A0 {d:Bool}{a:AutoL} (h:validW d a=0):GoodA a/\d=true:=by
 unfold validW at h;split at h
 ·cases h
 rename_i h1;split at h
 ·cases h
 rename_i h2;split at h
 ·rename_i h3;refine⟨⟨by omega,by omega,by omega,by omega,fun row hr=>?_⟩,by cases d<;>simp_all⟩;have:=all_eq_true.1 h3 row hr;simp only[okRow,Bool.and_eq_true,decide_eq_true_eq,all_eq_true,okSt]at this;exact this
 ·cases h
def cntD (nx:List (List Int)) (k:Nat):List Int:=(countsA nx k).getD []
theorem A5 {P:Program}{pol:Pol}{f:Nat}{args l:List AV}{H H1:List MB} (hp:pol.pure f=true) (h:frzArgs pol f 0 args H=some (l,H1)) (ha:AV.plainL l=true) :
  call P pol f args H=call P pol f l H1:=by
 have hf:∀(l:List AV) (i:Nat),AV.plainL l=true->frzArgs pol f i l H1=some (l,H1):=by
  intro l
  induction l with
  | nil=>intro i _;rfl
  | cons x l ih=>
    intro i h;simp only[AV.plainL,Bool.and_eq_true]at h;simp only[frzArgs,AY H1 h.1,ih (i+1) h.2];split<;>simp_all
 rw[BL,BL];unfold evStep;simp only[hp,if_true,h,hf l 0 ha]
theorem Sl (b:MB) (l:List Int) (n:Nat) (hn:l.length=n):fz (.ms 1 1 n 0 n) [b,.row 1 (l.map I) 0]=some (.sl false (l.map I),[b,.row 1 (l.map I) n]):=by
 have h:=Av (id:=1) (k:=1) (z:=0) (tot:=n) (H:=[b,.row 1 (l.map I) 0]) rfl (by simp[hn]) (AF l);rw[h];simp[mark,getRow]
theorem TF (b:MB) (l:List Int) (n:Nat) (hn:l.length=n):fz (.ms 1 1 n 0 n) [b,.row 1 (l.map I) n]=some (.sl false (l.map I),[b,.row 1 (l.map I) n]):=by
 have h:=Av (id:=1) (k:=1) (z:=n) (tot:=n) (H:=[b,.row 1 (l.map I) n]) rfl (by simp[hn]) (AF l);rw[h];simp[mark,getRow]
theorem Px (nx:List (List Int)):(cntD nx 0).length=nx.length:=by simp[cntD,countsA]
theorem JI (ac:List Bool):∀(A B:List Int) (k:Nat),accSum ac (A++B) k=accSum ac A k+accSum ac B (k+A.length)
 | [],B,k=>by simp[accSum]
 | x::A,B,k=>by rw[cons_append,accSum,accSum,JI ac A B,List.length_cons,show k+1+A.length=k+(A.length+1) by omega];omega
theorem M6 (ac:List Bool) {c:List Int}{s:Nat}{x:Int} (h:c[s]?=some x):accSum ac (c.take (s+1)) 0=accSum ac (c.take s) 0+if ac[s]?.getD false then x else 0:=by
 have hs:=(zgb.1 h).1;rw[take_add_one,h,Option.toList_some,JI,List.length_take,Nat.zero_add,Nat.min_eq_left (by omega),accSum,accSum];simp
theorem GB {nx:List (List Int)}{k:Nat} (h:countsA nx k=none):∀ {N:Nat},k<=N->countsA nx N=none
 | 0,hN=>by
   have:k=0:=by omega
   subst this;exact h
 | N+1,hN=>by
   by_cases e:k=N+1
   ·subst e;exact h
   ·rw[countsA,GB h (N:=N) (by omega)]
theorem f22 (a:AutoL) (hb:AutoB a) (n:Int) (H:List MB) :
  call Pg pol1 22 [autoAV a,I n] H=some (.tup [I (countW (dividesA a.cl) a n).1,I (countW (dividesA a.cl) a n).2],H):=by
 have hpl:=AX a;have h18:=f18 a hb;unfold countW;generalize dividesA a.cl=d at *;refine AQ Tryz.func22 rfl rfl rfl rfl rfl rfl (fun _=>rfl) (by simp only[AV.plainL,hpl];rfl) (by simp[AV.plain,AV.plainL]) ?_ H;by_cases hv:validW d a=0
 ·obtain⟨hg,_⟩:=A0 hv;obtain⟨g1,g2,g3,g4,g5⟩:=hg;rw[hv]at h18;rw[if_neg (by simp[hv])];obtain⟨cl,nx,ac⟩:=a;simp only at g1 g2 g3 g4 g5 |-;by_cases hn:n<0∨4096<n
  ·rw[if_pos hn];by_cases h0:n<0
   ·simp +contextual (disch:=omega) only[Tryz.f22,dd22,go_sem,simprocAttr,mu22,h18,h0];exact fzEq rfl rfl
   ·have h1:n > 4096:=by omega
    simp +contextual (disch:=omega) only[Tryz.f22,dd22,go_sem,simprocAttr,mu22,h18,h0,h1];exact fzEq rfl rfl
  ·rw[if_neg hn];obtain⟨N,rfl⟩:∃ N:Nat,n=N:=⟨n.toNat,by omega⟩;have hN:N<=4096:=by omega
   have h0:¬ ((N:Int)<0):=by omega
   have h1:¬ ((N:Int) > 4096):=by omega
   rw[Int.toNat_natCast];obtain⟨Z,hZ⟩:∃ Z,List.replicate nx.length (AV.int .i64 0)=Z:=⟨_,rfl⟩;have hZl:Z.length=nx.length:=by rw[<- hZ];simp
   have hZ0:Z[0]?=some (AV.int .i64 0):=by rw[<- hZ];simp[g2]
   have hZs:Z.set 0 (AV.int .i64 1)=(cntD nx 0).map I:=by rw[<- hZ];simp[cntD,countsA,map_set]
   have hfz:=fun b=>Sl b (cntD nx 0) nx.length (Px nx);simp +contextual (disch:=omega) only[Tryz.f22,dd22,go_sem,simprocAttr,mu22,h18,h0,h1,hZ,hZl,hZ0,hZs,hfz];refine AS (M:=(Ms 22 9)) rfl N (fun k=>(⟨92,[(34,I k),(33,I N),(7,.sl false ((cntD nx k).map I)),(2,.rf 0 1 0 0)],[.row 3 [autoAV ⟨cl,nx,ac⟩] 0]⟩:St)) (fun k=>countsA nx k=some (cntD nx k)) ?_ ?_ rfl _ ?_
   ·intro k hk hc;have hnext:countsA nx (k+1)=if(roundC (cntD nx k) nx 0 (List.replicate nx.length 0)).all (fun x=>decide (x<=maxN)) then some (roundC (cntD nx k) nx 0 (List.replicate nx.length 0)) else none:=by rw[countsA,hc]
    have hcl:=Ee nx k _ hc;have hcn:=C1 nx k _ hc;have hcm:=Iq nx k _ hc;have hmN:maxN=1099511627776:=rfl;rw[hmN]at hcm;have hck:cntD nx (k+1)=(countsA nx (k+1)).getD []:=rfl;generalize cntD nx k=c at *;have hZr:Z=(List.replicate nx.length (0:Int)).map I:=by rw[<- hZ];simp
    have hRl:∀ s,(roundC c (nx.take s) 0 (List.replicate nx.length 0)).length=nx.length:=fun s=>by rw[DR];simp
    simp +contextual (disch:=omega) only[Tryz.f22,dd22,go_sem,simprocAttr,mu22,hZ,hZl];refine AS (M:=(Ms 22 12)) rfl c.length (fun s=>(⟨92,[(42,I s),(41,I c.length),(40,.sl false (c.map I)),(34,I k),(33,I N),(8,.ms 1 1 nx.length 0 nx.length),(2,.rf 0 1 0 0)],[.row 3 [autoAV ⟨cl,nx,ac⟩] 0,.row 1 ((roundC c (nx.take s) 0 (List.replicate nx.length 0)).map I) 0]⟩:St)) (fun s=>∀ y∈roundC c (nx.take s) 0 (List.replicate nx.length 0),0<=y/\y<=1125899906842624*(s:Int)) ?_ ?_ ?_ _ ?_
    ·intro s hs hb;obtain⟨x,hx⟩:∃ x,c[s]?=some x:=⟨_,zga hs⟩;have hx':(c.map I)[s]?=some (I x):=by simp[hx]
     obtain⟨r,hr⟩:∃ r,nx[s]?=some r:=⟨_,zga (by omega)⟩;have hr':(nx.map rowAV)[s]?=some (rowAV r):=by simp[hr]
     have hst:=Ll c hr (List.replicate nx.length 0);rw[hx,getD_some]at hst;have b1:=hcn x (zgc hx);have b2:=hcm x (zgc hx);have hro:=g5 r (zgc hr);have hRs:=hRl s;rw[hst];generalize roundC c (nx.take s) 0 (List.replicate nx.length 0)=A at *;by_cases hx0:x=0
     ·subst hx0;rw[HE];simp +contextual (disch:=omega) only[Tryz.f22,dd22,go_sem,simprocAttr,mu22,hx'];exact⟨fun y hy=>⟨(hb y hy).1,by have:=(hb y hy).2;omega⟩,(by first|rfl|(refine AO rfl (by rfl) (by rfl) (by rfl) ?_ ?_<;>simp[AV.underL,AV.under,MB.under,AG,AJ,AF,AH,AK,AM,-map_take,AF,AP,AT,AN]))⟩
     ·simp +contextual (disch:=omega) only[Tryz.f22,dd22,go_sem,simprocAttr,mu22,hx',hx0,hr'];have hBl:∀ j,(addRow x A (r.take j)).length=nx.length:=fun j=>by rw[DV];exact hRs
      refine AS (M:=(Ms 22 16)) rfl r.length (fun j=>(⟨92,[(55,I j),(54,I r.length),(53,rowAV r),(42,I s),(41,I c.length),(40,.sl false (c.map I)),(34,I k),(33,I N),(10,I x),(8,.ms 1 1 nx.length 0 nx.length),(2,.rf 0 1 0 0)],[.row 3 [autoAV ⟨cl,nx,ac⟩] 0,.row 1 ((addRow x A (r.take j)).map I) 0]⟩:St)) (fun j=>∀ y∈addRow x A (r.take j),0<=y/\y<=1125899906842624*(s:Int)+1099511627776*(j:Int)) ?_ ?_ ?_ _ ?_
      ·intro j hj hbj;obtain⟨t,ht⟩:∃ t,r[j]?=some t:=⟨_,zga hj⟩;have ht':(r.map I)[j]?=some (I t):=by simp[ht]
       have htr:=hro.2 t (zgc ht);have hst2:=M5 x ht A;have hB:=hBl j;rw[hst2];generalize addRow x A (r.take j)=B at *;obtain⟨v,hv2⟩:∃ v,B[t.toNat]?=some v:=⟨_,zga (by omega)⟩;have hv':(B.map I)[t.toNat]?=some (I v):=by simp[hv2]
       have hvb:=hbj v (zgc hv2);have hw:IntKind.i64.wrap (v+x)=v+x:=by rw[i64_in];omega
       have hset:(B.map I).set t.toNat (.int .i64 (v+x))=(B.set t.toNat (v+x)).map I:=by rw[map_set]
       rw[hv2,getD_some];simp +contextual (disch:=omega) only[Tryz.f22,dd22,go_sem,simprocAttr,mu22,ht',hv',hw,hset,hB];refine⟨fun y hy=>?_,?_⟩
       rotate_left
       ·generalize B.set t.toNat (v+x)=B2;exact(by first|rfl|(refine AO rfl (by rfl) (by rfl) (by rfl) ?_ ?_<;>simp[AV.underL,AV.under,MB.under,AG,AJ,AF,AH,AK,AM,-map_take,AF,AP,AT,AN]))
       rcases List.mem_or_eq_of_mem_set hy with h1|h1
       ·have:=hbj y h1;omega
       ·omega
      ·intro hbj;rw[take_length]at hbj |-;simp +contextual (disch:=omega) only[Tryz.f22,dd22,go_sem,simprocAttr,mu22];refine⟨fun y hy=>⟨(hbj y hy).1,?_⟩,(by first|rfl|(refine AO rfl (by rfl) (by rfl) (by rfl) ?_ ?_<;>simp[AV.underL,AV.under,MB.under,AG,AJ,AF,AH,AK,AM,-map_take,AF,AP,AT,AN]))⟩;have:=(hbj y hy).2;have hrl:=hro.1;omega
      ·intro y hy;have:=hb y hy;omega
      ·exact(by first|rfl|(refine AO rfl (by rfl) (by rfl) (by rfl) ?_ ?_<;>simp[AV.underL,AV.under,MB.under,AG,AJ,AF,AH,AK,AM,-map_take,AF,AP,AT,AN]))
    ·intro hb;have hRn:=hRl nx.length;rw[hcl,take_length]at hb |-;rw[take_length]at hRn;generalize roundC c nx 0 (List.replicate nx.length 0)=R at *;have hne:R≠[]:=fun e=>by rw[e]at hRn;simp at hRn;omega
     have h71:=f71 R hne (by omega);have hz1:=fun b=>Sl b R nx.length hRn;have hz2:=fun b=>TF b R nx.length hRn;have h71m:∀ b:MB,call Pg pol1 71 [.ms 1 1 nx.length 0 nx.length] [b,.row 1 (R.map I) 0]=some (I (maxL R),[b,.row 1 (R.map I) nx.length]):=fun b=>by
      rw[A5 (l:=[.sl false (R.map I)]) (H1:=[b,.row 1 (R.map I) nx.length]) rfl ?_ (by simp only[AV.plainL,AV.plain,AF];rfl)]
      ·exact h71 _
      ·have:pol1.byref 71 0=false:=rfl;simp only[frzArgs,this,hz1 b];rfl
     have hmx:=R7 hne maxN;rw[hmN]at hmx;by_cases hm:maxL R<=1099511627776
     ·have hm':¬ maxL R > 1099511627776:=by omega
      have hall:R.all (fun x=>decide (x<=maxN))=true:=by
       rw[hmN];simpa only[all_eq_true,decide_eq_true_eq] using hmx.1 hm
      rw[if_pos hall]at hnext;have hcd:cntD nx (k+1)=R:=by rw[hck,hnext];rfl
      rw[hcd,hnext];simp +contextual (disch:=omega) only[Tryz.f22,dd22,go_sem,simprocAttr,mu22,h71m,hz1,hz2,hm'];exact(by first|rfl|(refine AO rfl (by rfl) (by rfl) (by rfl) ?_ ?_<;>simp[AV.underL,AV.under,MB.under,AG,AJ,AF,AH,AK,AM,-map_take,AF,AP,AT,AN]))
     ·have hm':maxL R > 1099511627776:=by omega
      have hall:¬ R.all (fun x=>decide (x<=maxN))=true:=by
       rw[hmN];simpa only[all_eq_true,decide_eq_true_eq] using fun h=>hm (hmx.2 h)
      rw[if_neg hall]at hnext;have e4:countA nx ac N=(0,4):=by unfold countA;rw[GB hnext (by omega)]
      rw[e4];simp +contextual (disch:=omega) only[Tryz.f22,dd22,go_sem,simprocAttr,mu22,h71m,hz1,hz2,hm'];exact fzEq rfl rfl
    ·intro y hy;rw[List.eq_of_mem_replicate (show y∈List.replicate nx.length (0:Int) from hy)];omega
    ·rw[show roundC c (nx.take 0) 0 (List.replicate nx.length 0)=List.replicate nx.length 0 from rfl,hZr];generalize List.replicate nx.length (0:Int)=z0;exact(by first|rfl|(refine AO rfl (by rfl) (by rfl) (by rfl) ?_ ?_<;>simp[AV.underL,AV.under,MB.under,AG,AJ,AF,AH,AK,AM,-map_take,AF,AP,AT,AN]))
   ·intro hc;have e:countA nx ac N=if maxN<accSum ac (cntD nx N) 0 then(0,4) else(accSum ac (cntD nx N) 0,0):=by unfold countA;rw[hc]
    rw[e];have hcl:=Ee nx N _ hc;have hcn:=C1 nx N _ hc;have hcm:=Iq nx N _ hc;generalize cntD nx N=c at *;simp +contextual (disch:=omega) only[Tryz.f22,dd22,go_sem,simprocAttr,mu22];refine AS (M:=(Ms 22 27)) rfl c.length (fun s=>(⟨92,[(75,I s),(74,I c.length),(73,.sl false (c.map I)),(13,I (accSum ac (c.take s) 0)),(2,.rf 0 1 0 0)],[.row 3 [autoAV ⟨cl,nx,ac⟩] 0]⟩:St)) (fun s=>0<=accSum ac (c.take s) 0/\accSum ac (c.take s) 0<=1099511627776*(s:Int)) ?_ ?_ ⟨by simp[accSum],by simp[accSum]⟩ _ ?_
    ·intro s hs hb;obtain⟨x,hx⟩:∃ x,c[s]?=some x:=⟨_,zga hs⟩;have hx':(c.map I)[s]?=some (I x):=by simp[hx]
     obtain⟨y,hy⟩:∃ y,ac[s]?=some y:=⟨_,zga (by omega)⟩;have hy':(ac.map AV.bool)[s]?=some (.bool y):=by simp[hy]
     have hst:=M6 ac hx;rw[hy]at hst;have b1:=hcn x (zgc hx);have b2:=hcm x (zgc hx);have hmN:maxN=1099511627776:=rfl;rw[hmN]at b2;have hw:IntKind.i64.wrap (accSum ac (c.take s) 0+x)=accSum ac (c.take s) 0+x:=by rw[i64_in];omega
     cases y with
     | true=>
       simp only[getD_some,if_true]at hst;rw[hst];simp +contextual (disch:=omega) only[Tryz.f22,dd22,go_sem,simprocAttr,mu22,hx',hy',hw];exact(by first|rfl|(refine AO rfl (by rfl) (by rfl) (by rfl) ?_ ?_<;>simp[AV.underL,AV.under,MB.under,AG,AJ,AF,AH,AK,AM,-map_take,AF,AP,AT,AN]))
     | false=>
       simp only[getD_some,Bool.false_eq_true,if_false]at hst;rw[hst];rw[Int.add_zero];simp +contextual (disch:=omega) only[Tryz.f22,dd22,go_sem,simprocAttr,mu22,hx',hy'];exact(by first|rfl|(refine AO rfl (by rfl) (by rfl) (by rfl) ?_ ?_<;>simp[AV.underL,AV.under,MB.under,AG,AJ,AF,AH,AK,AM,-map_take,AF,AP,AT,AN]))
    ·intro hb;rw[take_length]at hb |-;generalize accSum ac c 0=S at *;by_cases hS:maxN<S
     ·have hS':S > 1099511627776:=hS;rw[if_pos hS];simp +contextual (disch:=omega) only[Tryz.f22,dd22,go_sem,simprocAttr,mu22,hS'];exact fzEq rfl rfl
     ·have hS':¬ S > 1099511627776:=hS;rw[if_neg hS];simp +contextual (disch:=omega) only[Tryz.f22,dd22,go_sem,simprocAttr,mu22,hS'];exact fzEq rfl rfl
    ·rw[show accSum ac (c.take 0) 0=0 from rfl];exact(by first|rfl|(refine AO rfl (by rfl) (by rfl) (by rfl) ?_ ?_<;>simp[AV.underL,AV.under,MB.under,AG,AJ,AF,AH,AK,AM,-map_take,AF,AP,AT,AN]))
   ·exact(by first|rfl|(refine AO rfl (by rfl) (by rfl) (by rfl) ?_ ?_<;>simp[AV.underL,AV.under,MB.under,AG,AJ,AF,AH,AK,AM,-map_take,AF,AP,AT,AN]))
 ·rw[if_pos hv];obtain⟨cl,nx,ac⟩:=a;simp +contextual (disch:=omega) only[Tryz.f22,dd22,go_sem,simprocAttr,mu22,h18,hv];exact fzEq rfl rfl
end
section
attribute [local go_sem] evAppend map_append
abbrev autoN (cl:Cls) (N:List (List Nat)) (ac:List Bool):AV:=.agg [.sl false (cl.map setAV9),.sl false (N.map nsAV),.sl false (ac.map AV.bool)]
theorem EO:∀(ss ns b:List Nat) (s n:Nat),ss.length=ns.length->putAll b (ss++[s]) (ns++[n])=(putAll b ss ns).set s n
 | [],[],b,s,n,_=>by simp[putAll]
 | [],_::_,b,s,n,h=>by simp at h
 | _::_,[],b,s,n,h=>by simp at h
 | t::ss,m::ns,b,s,n,h=>by
   rw[cons_append,cons_append,putAll,EO ss ns _ s n (by simpa using h),putAll]
theorem QS (nx:List (List Nat)) (cs b:List Nat) (s:Nat):(rowA nx cs b s).length=cs.length+1:=by simp[rowA]
theorem frz2 {f:Nat}{a d:AV}{l:List Nat}{n:Nat} (hl:l.length=n) (ha:AV.plain a=true) (hd:AV.plain d=true) (hb:∀ i,pol1.byref f i=false) (b0:MB) :
  frzArgs pol1 f 0 [a,.ms 1 1 n 0 n,.ms 1 1 n 0 n,d] [b0,.row 1 (l.map NV) 0]=some ([a,nsAV l,nsAV l,d],[b0,.row 1 (l.map NV) n]):=by
 have h1:=Av (id:=1) (k:=1) (z:=0) (tot:=n) (H:=[b0,.row 1 (l.map NV) 0]) rfl (by simp[hl]) (AR l);have h2:=Av (id:=1) (k:=1) (z:=n) (tot:=n) (H:=[b0,.row 1 (l.map NV) n]) rfl (by simp[hl]) (AR l);have m1:mark [b0,.row 1 (l.map NV) 0] 1 n=[b0,.row 1 (l.map NV) n]:=by simp[mark,getRow]
 have m2:mark [b0,.row 1 (l.map NV) n] 1 n=[b0,.row 1 (l.map NV) n]:=by simp[mark,getRow]
 rw[m1]at h1;rw[m2]at h2;simp only[frzArgs,hb,Bool.false_eq_true,if_false,AY _ ha,h1,h2,AY _ hd]
structure BS2 where
 k:Nat
 before:Nat
 b:List Nat
 K:List (List Nat)
 W:List Nat
structure BSI (A:DA) (top:Int) (nx:List (List Nat)) (cs states R:List Nat) (x:BS2):Prop where
 inv:BlockInv A top states x.before x.b
 go:blocksGo nx cs states x.k x.before x.b=R
 fuel:A.n+2<=x.k+x.before
 small:∀ y∈x.b,y<=A.n+1
 Kl:x.K.length=states.length
 Wl:x.W.length=cs.length+1
def rowP (W:List Nat) (rows:List (List Nat)):Nat->List Nat
 | 0=>W
 | i+1=>(rows[i]?).getD []
theorem D3:∀(ss ns b:List Nat) (y:Nat),y∈putAll b ss ns->y∈b∨y∈ns
 | [],_,_,y,h=>by simp[putAll]at h;exact .inl h
 | s::ss,[],_,y,h=>by simp[putAll]at h;exact .inl h
 | s::ss,n::ns,b,y,h=>by
   rw[putAll]at h;rcases D3 ss ns _ y h with h|h
   ·rcases List.mem_or_eq_of_mem_set h with h|h
    ·exact .inl h
    ·exact .inr (by simp[h])
   ·exact .inr (by simp[h])
theorem C9 {α:Type} [DecidableEq α] {l:List α}{y:Nat} (h:y∈numA l):y<l.length:=by
 obtain⟨i,hi,e⟩:=List.getElem_of_mem h;have:=Ki (l:=l) (i:=i) (k:=y) (by rw[zga hi,e]);have:=Bl l;omega
theorem f110 (cl:Cls) (nx:List (List Nat)) (ac:List Bool) (clf:Int->Nat) (top:Int) (h:(daOf nx ac cl.length clf).Ok top) (hr:RowsN nx cl.length nx.length) (ha:ac.length=nx.length)
  (hn:nx.length<=1024) (hm:cl.length<=1024) (H:List MB) :
  call Pg pol1 110 [autoN cl nx ac] H=some (nsAV (blockA nx ac cl.length),H):=by
 have h0:0<nx.length:=h.pos;have hbi:=GE h;have hbz:=I8 h;have hz0:=Ha h;generalize hcm:cl.length=m at *;refine AQ Tryz.func110 rfl rfl rfl rfl rfl rfl (fun _=>rfl) (by simp[AV.plain,AV.plainL,AP,AU,AN]) (by simp[AV.plain,AR]) ?_ H;have hroom:roomFor (nx.length:Int).toNat 8=true:=AW (by omega) (by omega);have hrl:(List.range nx.length).length=nx.length:=by simp
 have h114:=f114 nx (List.range nx.length) (List.range nx.length) m (by rw[hrl];exact hr) (fun s hs=>mem_range.1 hs) (fun x hx=>by have:=mem_range.1 hx;omega) (by omega) (by simp;omega) (by simp;omega);have c114:=fun b0:MB=>A5 (P:=Pg) (pol:=pol1) (f:=114) rfl (frz2 (f:=114) (a:=.sl false (nx.map nsAV)) (d:=NV m) hrl (by simp[AV.plain,AU]) rfl (fun _=>rfl) b0) (by simp[AV.plainL,AV.plain,AU,AR]);simp only[h114]at c114;have hkl:(numA (colsA nx m (List.range nx.length) (List.range nx.length))).length=m:=by rw[Af,BX]
 have h113:=f113 (numA (colsA nx m (List.range nx.length) (List.range nx.length))) (onces (colsA nx m (List.range nx.length) (List.range nx.length))).length (by omega) (fun y hy=>by have:=C9 hy;rw[BX]at this;omega) (by have:=Bl (colsA nx m (List.range nx.length) (List.range nx.length));rw[BX]at this;omega);rw[show firstsA (numA (colsA nx m (List.range nx.length) (List.range nx.length)))=cs0 nx m from rfl]at h113;have hcsl:(cs0 nx m).length<=m:=by
  have:=EZ (numA (colsA nx m (List.range nx.length) (List.range nx.length))) [] 0;rw[hkl]at this;simp only[List.length_nil,Nat.zero_add]at this;exact this
 have h111:=f111 nx (cs0 nx m) m hr hbi.cslt h0 (by omega) (by omega);rw[show reachA nx (cs0 nx m)=states0 nx m from rfl]at h111;unfold blockA;generalize hCS:cs0 nx m=cs at *;generalize hST:states0 nx m=states at *;have hstl:states.length<=nx.length:=by
  have:=Ay states (List.range nx.length) hbi.nodup (fun x hx=>mem_range.2 (hbi.lt x hx))
  simpa using this
 have hstlt:∀ s∈states,s<nx.length:=hbi.lt;generalize colsA nx m (List.range nx.length) (List.range nx.length)=CO at *;generalize (onces CO).length=oc at *;generalize hnm:nx.length=n at *;simp +contextual (disch:=omega) only[Tryz.f110,DK,go_sem,simprocAttr,DC,hroom,hnm,hcm];refine AS (M:=(Ms 110 3)) rfl n (fun i=>(⟨148,[(29,I i),(28,I n),(3,.ms 1 1 n 0 n),(1,.rf 0 1 0 0)],[.row 3 [autoN cl nx ac] 0,.row 1 (((List.range n).take i++List.replicate (n-i) 0).map NV) 0]⟩:St)) (fun i=>True) ?_ ?_ trivial _ ?_
 ·intro i hi _;have hri:(List.range n)[i]?=some i:=by simp[hi]
  have hfs:=Bd (z:=0) hrl hri;have hfl:=Be (A:=List.range n) (z:=0) hrl (i:=i) (by omega);rw[<- hfs];generalize (List.range n).take i++List.replicate (n-i) 0=A at *;obtain⟨y,hy⟩:∃ y,A[i]?=some y:=⟨_,zga (by omega)⟩;have hy':(A.map NV)[i]?=some (NV y):=by simp[hy]
  have hset:(A.map NV).set i (NV i)=(A.set i i).map NV:=by rw[map_set]
  simp +contextual (disch:=omega) only[Tryz.f110,DK,go_sem,simprocAttr,DC,hfl,hy',hset];exact(by first|rfl|(refine AO rfl (by rfl) (by rfl) (by rfl) ?_ ?_<;>simp[AV.underL,AV.under,MB.under,AG,AJ,AF,AH,AK,AM,-map_take,AR,AU,AN,AP]))
 ·intro _;rw[B5 hrl];have hroom2:roomFor (states.length:Int).toNat 16=true:=AW (by omega) (by omega);have hroom3:roomFor ((cs.length:Int)+1).toNat 8=true:=AW (by omega) (by omega);simp +contextual (disch:=omega) only[Tryz.f110,DK,go_sem,simprocAttr,DC,c114,h113,h111,hnm,hcm,hroom];have hbl:∀ i,((List.range n).map fun s=>if s∈states.take i/\ac[s]?.getD false=true then 1 else 0).length=n:=fun i=>by simp
  have hbg:∀ i s,s<n->((List.range n).map fun s=>if s∈states.take i/\ac[s]?.getD false=true then 1 else 0)[s]?=some (if s∈states.take i/\ac[s]?.getD false=true then 1 else 0):=fun i s h=>by simp[h]
  refine AS (M:=(Ms 110 12)) rfl states.length (fun i=>(⟨148,[(61,I i),(60,I states.length),(59,nsAV states),(9,.ms 2 1 n 0 n),(8,nsAV states),(7,nsAV cs),(1,.rf 0 1 0 0)],[.row 3 [autoN cl nx ac] 0,.row 1 ((List.range n).map NV) n,.row 1 (((List.range n).map fun s=>if s∈states.take i/\ac[s]?.getD false=true then 1 else 0).map NV) 0]⟩:St)) (fun i=>True) ?_ ?_ trivial _ ?_
  ·intro i hi _;obtain⟨s,hsi⟩:∃ s,states[i]?=some s:=⟨_,zga hi⟩;have hsi':(states.map NV)[i]?=some (NV s):=by simp[hsi]
   have hsl:=hstlt s (zgc hsi);obtain⟨v,hv⟩:∃ v,ac[s]?=some v:=⟨_,zga (by omega)⟩;have hv':(ac.map AV.bool)[s]?=some (.bool v):=by simp[hv]
   have hst:((List.range n).map fun t=>if t∈states.take (i+1)/\ac[t]?.getD false=true then 1 else 0)=if v then((List.range n).map fun t=>if t∈states.take i/\ac[t]?.getD false=true then 1 else 0).set s 1 else((List.range n).map fun t=>if t∈states.take i/\ac[t]?.getD false=true then 1 else 0):=by
    rw[AZ hsi];cases v with
    | true=>
      simp only[if_true];apply ext_getElem?;intro t;by_cases ht:t<n
      ·by_cases e:s=t
       ·subst e;rw[List.getElem?_set_self (by rw[hbl];exact ht)];simp[ht,hv]
       ·rw[List.getElem?_set_ne e,hbg i t ht];have:¬ t=s:=fun h=>e h.symm;simp[ht,this]
      ·rw[getElem?_eq_none (by simp;omega),getElem?_eq_none (by simp;omega)]
    | false=>
      simp only[Bool.false_eq_true,if_false];apply List.map_congr_left;intro t _;by_cases e:t=s
      ·subst e;simp[hv]
      ·simp[e]
   have hblI:=hbl i;generalize hst2:((List.range n).map fun t=>if t∈states.take (i+1)/\ac[t]?.getD false=true then 1 else 0)=A2 at *;generalize ((List.range n).map fun t=>if t∈states.take i/\ac[t]?.getD false=true then 1 else 0)=A at *;cases v with
   | true=>
     rw[if_pos rfl]at hst;subst hst;obtain⟨y,hy⟩:∃ y,A[s]?=some y:=⟨_,zga (by omega)⟩;have hy':(A.map NV)[s]?=some (NV y):=by simp[hy]
     have hset:(A.map NV).set s (.int .i64 1)=(A.set s 1).map NV:=by rw[map_set];rfl
     simp +contextual (disch:=omega) only[Tryz.f110,DK,go_sem,simprocAttr,DC,hsi',hv',hblI,hy',hset];exact(by first|rfl|(refine AO rfl (by rfl) (by rfl) (by rfl) ?_ ?_<;>simp[AV.underL,AV.under,MB.under,AG,AJ,AF,AH,AK,AM,-map_take,AR,AU,AN,AP]))
   | false=>
     rw[if_neg (by decide)]at hst;subst hst;simp +contextual (disch:=omega) only[Tryz.f110,DK,go_sem,simprocAttr,DC,hsi',hv'];exact(by first|rfl|(refine AO rfl (by rfl) (by rfl) (by rfl) ?_ ?_<;>simp[AV.underL,AV.under,MB.under,AG,AJ,AF,AH,AK,AM,-map_take,AR,AU,AN,AP]))
  ·intro _;rw[take_length,show ((List.range n).map fun s=>if s∈states/\ac[s]?.getD false=true then 1 else 0)=block0 nx ac m by unfold block0;rw[hnm,hST]];have hw1:IntKind.i64.wrap ((cs.length:Int)+1)=((cs.length+1:Nat):Int):=by rw[i64_in]<;>omega
   simp +contextual (disch:=omega) only[Tryz.f110,DK,go_sem,simprocAttr,DC,hroom2,hroom3,hw1];have hAn:(daOf nx ac m clf).n=n:=hnm;refine BR (σ:=BS2) (M:=(Ms 110 20)) rfl (fun x=>(⟨148,[(14,NV x.before),(13,.ms 4 1 (cs.length+1) 0 (cs.length+1)),(12,.ms 3 1 states.length 0 states.length),(9,.ms 2 1 n 0 n),(8,nsAV states),(7,nsAV cs),(1,.rf 0 1 0 0)],[.row 3 [autoN cl nx ac] 0,.row 1 ((List.range n).map NV) n,.row 1 (x.b.map NV) 0,.row 1 (x.K.map sAV) 0,.row 1 (x.W.map NV) 0]⟩:St)) (BSI (daOf nx ac m clf) top nx cs states (blocksGo nx cs states (n+2) 0 (block0 nx ac m))) (fun x=>x.k) ⟨n+2,0,block0 nx ac m,List.replicate states.length [],List.replicate (cs.length+1) 0⟩ ?_ ⟨hbz,rfl,by rw[hAn];simp,fun y hy=>?_,by simp,by simp⟩ _ ?_
   ·rintro⟨k,before,b,K,W⟩ hI;obtain⟨hinv,hgo,hfuel,hsmall,hKl,hWl⟩:=hI;simp only at hinv hgo hfuel hsmall hKl hWl;have hbl:=hinv.len;rw[hAn]at hbl hfuel hsmall;have hcnt:=hbi.count_le hinv;have hcl2:=Bl (states.map (rowA nx cs b));rw[List.length_map]at hcl2;have hne:states≠[]:=List.ne_nil_of_mem hz0;have hnext:=hbi.next hinv;obtain⟨k',rfl⟩:∃ k',k=k' + 1:=⟨k-1,by omega⟩;rw[blocksGo]at hgo;have hRl:(states.map (rowA nx cs b)).length=states.length:=by simp
    have hRb:∀ l∈states.map (rowA nx cs b),∀ y∈l,y<65536:=fun l hl y hy=>by
     obtain⟨s,_,rfl⟩:=mem_map.1 hl;have gd:∀ i:Nat,b[i]?.getD 0<65536:=fun i=>by
      cases e:b[i]? with
      | none=>simp
      | some z=>have:=hsmall z (zgc e);simp;omega
     simp only[rowA,mem_cons,mem_map]at hy;rcases hy with rfl|⟨c,_,rfl⟩
     ·exact gd _
     ·exact gd _
    simp +contextual (disch:=omega) only[Tryz.f110,DK,go_sem,simprocAttr,DC];refine AS (M:=(Ms 110 21)) rfl states.length (fun i=>(⟨148,[(83,I i),(82,I states.length),(81,nsAV states),(14,NV before),(13,.ms 4 1 (cs.length+1) 0 (cs.length+1)),(12,.ms 3 1 states.length 0 states.length),(9,.ms 2 1 n 0 n),(8,nsAV states),(7,nsAV cs),(1,.rf 0 1 0 0)],[.row 3 [autoN cl nx ac] 0,.row 1 ((List.range n).map NV) n,.row 1 (b.map NV) 0,.row 1 (((states.map (rowA nx cs b)).take i++K.drop i).map sAV) 0,.row 1 ((rowP W (states.map (rowA nx cs b)) i).map NV) 0]⟩:St)) (fun i=>True) ?_ ?_ trivial _ ?_
    ·intro i hi _;obtain⟨s,hsi⟩:∃ s,states[i]?=some s:=⟨_,zga hi⟩;have hsi':(states.map NV)[i]?=some (NV s):=by simp[hsi]
     have hsl:=hstlt s (zgc hsi);have hRi:(states.map (rowA nx cs b))[i]?=some (rowA nx cs b s):=by simp[hsi]
     have hfs:=Bn hRl hKl hRi;have hfl:=CG hRl hKl (i:=i) (by omega);have hPl:(rowP W (states.map (rowA nx cs b)) i).length=cs.length+1:=by
      cases i with
      | zero=>exact hWl
      | succ i=>
        obtain⟨s2,hs2⟩:∃ s,states[i]?=some s:=⟨_,zga (by omega)⟩;simp[rowP,hs2,rowA]
     have hP1:rowP W (states.map (rowA nx cs b)) (i+1)=rowA nx cs b s:=by simp[rowP,hsi]
     rw[<- hfs,hP1];generalize (states.map (rowA nx cs b)).take i++K.drop i=K1 at *;generalize rowP W (states.map (rowA nx cs b)) i=W1 at *;have hrl2:=QS nx cs b s;have h56:=f56 (rowA nx cs b s) (by omega) (fun y hy=>by have:=hRb _ (zgc hRi) y hy;omega);obtain⟨v,hv⟩:∃ v,b[s]?=some v:=⟨_,zga (by omega)⟩;have hv':(b.map NV)[s]?=some (NV v):=by simp[hv]
     obtain⟨w0,hw0⟩:∃ w,W1[0]?=some w:=⟨_,zga (by omega)⟩;have hw0':(W1.map NV)[0]?=some (NV w0):=by simp[hw0]
     have hr0:(rowA nx cs b s)[0]?=some v:=by simp[rowA,hv]
     have hset0:(W1.map NV).set 0 (NV v)=((rowA nx cs b s).take 1++W1.drop 1).map NV:=by
      have:=Bn (i:=0) hrl2 hPl hr0;rw[<- map_set,<- this];rfl
     simp +contextual (disch:=omega) only[Tryz.f110,DK,go_sem,simprocAttr,DC,hsi',hbl,hPl,hv',hw0',hset0];refine AS (M:=(Ms 110 25)) rfl cs.length (fun j=>(⟨148,[(96,I j),(95,I cs.length),(94,nsAV cs),(83,I i),(82,I states.length),(81,nsAV states),(16,NV s),(15,I i),(14,NV before),(13,.ms 4 1 (cs.length+1) 0 (cs.length+1)),(12,.ms 3 1 states.length 0 states.length),(9,.ms 2 1 n 0 n),(8,nsAV states),(7,nsAV cs),(1,.rf 0 1 0 0)],[.row 3 [autoN cl nx ac] 0,.row 1 ((List.range n).map NV) n,.row 1 (b.map NV) 0,.row 1 (K1.map sAV) 0,.row 1 (((rowA nx cs b s).take (j+1)++W1.drop (j+1)).map NV) 0]⟩:St)) (fun i=>True) ?_ ?_ trivial _ ?_
     ·intro j hj _;obtain⟨c,hcj⟩:∃ c,cs[j]?=some c:=⟨_,zga hj⟩;have hcj':(cs.map NV)[j]?=some (NV c):=by simp[hcj]
      have hcm2:=hbi.cslt c (zgc hcj);obtain⟨r,t,e1,e2,e3,e4⟩:=hr.nxf_lt (by omega:s<nx.length) hcm2;have e1':(nx.map nsAV)[s]?=some (nsAV r):=by simp[e1]
      have e2':(r.map NV)[c]?=some (NV t):=by simp[e2]
      obtain⟨u,hu⟩:∃ u,b[t]?=some u:=⟨_,zga (by omega)⟩;have hu':(b.map NV)[t]?=some (NV u):=by simp[hu]
      have hrj:(rowA nx cs b s)[j+1]?=some u:=by simp[rowA,hcj,e3,hu]
      have hfs2:=Bn hrl2 hPl hrj;have hfl2:=CG hrl2 hPl (i:=j+1) (by omega);rw[<- hfs2];generalize (rowA nx cs b s).take (j+1)++W1.drop (j+1)=A at *;obtain⟨y,hy⟩:∃ y,A[j+1]?=some y:=⟨_,zga (by omega)⟩;have hy':(A.map NV)[j+1]?=some (NV y):=by simp[hy]
      have hset:(A.map NV).set (j+1) (NV u)=(A.set (j+1) u).map NV:=by rw[map_set]
      simp +contextual (disch:=omega) only[Tryz.f110,DK,go_sem,simprocAttr,DC,hcj',e1',e2',hbl,hu',hfl2,hy',hset];exact(by first|rfl|(refine AO rfl (by rfl) (by rfl) (by rfl) ?_ ?_<;>simp[AV.underL,AV.under,MB.under,AG,AJ,AF,AH,AK,AM,-map_take,AR,AU,AN,AP]))
     ·intro _;rw[CH hrl2 hPl];generalize rowA nx cs b s=RW at *;have hth:=fun(b0 b1 b2 b3:MB)=>Hf (f:=56) (z:=0) (H:=[b0,b1,b2,b3,.row 1 (RW.map NV) 0]) (id:=4) (k:=1) (n:=cs.length+1) (els:=RW.map NV) (r:=.str (keyS RW)) rfl (by simp[hrl2]) (h56 []) rfl (LP _);obtain⟨y,hy⟩:∃ y,K1[i]?=some y:=⟨_,zga (by omega)⟩;have hy':(K1.map sAV)[i]?=some (sAV y):=by simp[hy]
      have hset:(K1.map sAV).set i (.str (keyS RW))=(K1.set i RW).map sAV:=by rw[map_set]
      simp +contextual (disch:=omega) only[Tryz.f110,DK,go_sem,simprocAttr,DC,hth,hfl,hy',hset];rfl
     ·rw[map_append];exact(by first|rfl|(refine AO rfl (by rfl) (by rfl) (by rfl) ?_ ?_<;>simp[AV.underL,AV.under,MB.under,AG,AJ,AF,AH,AK,AM,-map_take,AR,AU,AN,AP]))
    ·intro _;rw[CH hRl hKl];have hPl:(rowP W (states.map (rowA nx cs b)) states.length).length=cs.length+1:=by
      cases hsl2:states.length with
      | zero=>exact hWl
      | succ i=>
        obtain⟨s2,hs2⟩:∃ s,states[i]?=some s:=⟨_,zga (by omega)⟩;simp[rowP,hs2,rowA]
     generalize rowP W (states.map (rowA nx cs b)) states.length=W1 at *;have hnl:(numA (states.map (rowA nx cs b))).length=states.length:=by rw[Af,hRl]
     have hnb:∀ y∈numA (states.map (rowA nx cs b)),y<n:=fun y hy=>by have:=C9 hy;omega
     generalize states.map (rowA nx cs b)=RS2 at *;have h165:=fun(b0 b1 b2 b4:MB)=>f165 RS2 hRb states.length hRl (by omega) 3 0 [b0,b1,b2,.row 1 (RS2.map sAV) 0,b4] rfl;simp +contextual (disch:=omega) only[Tryz.f110,DK,go_sem,simprocAttr,DC,h165];generalize hNM:numA RS2=nums at *;refine AS (M:=(Ms 110 33)) rfl states.length (fun i=>(⟨148,[(130,I i),(129,I states.length),(128,nsAV states),(20,NV (onces RS2).length),(19,nsAV nums),(14,NV before),(13,.ms 4 1 (cs.length+1) 0 (cs.length+1)),(12,.ms 3 1 states.length 0 states.length),(9,.ms 2 1 n 0 n),(8,nsAV states),(7,nsAV cs),(1,.rf 0 1 0 0)],[.row 3 [autoN cl nx ac] 0,.row 1 ((List.range n).map NV) n,.row 1 ((putAll b (states.take i) (nums.take i)).map NV) 0,.row 1 (RS2.map sAV) 0,.row 1 (W1.map NV) 0]⟩:St)) (fun i=>True) ?_ ?_ trivial _ rfl
     ·intro i hi _;obtain⟨s,hsi⟩:∃ s,states[i]?=some s:=⟨_,zga hi⟩;have hsi':(states.map NV)[i]?=some (NV s):=by simp[hsi]
      have hsl:=hstlt s (zgc hsi);obtain⟨v,hv⟩:∃ v,nums[i]?=some v:=⟨_,zga (by omega)⟩;have hv':(nums.map NV)[i]?=some (NV v):=by simp[hv]
      have hst:putAll b (states.take (i+1)) (nums.take (i+1))=(putAll b (states.take i) (nums.take i)).set s v:=by
       rw[AZ hsi,AZ hv,EO _ _ _ _ _ (by simp;omega)]
      have hpl:=BE (states.take i) (nums.take i) b;rw[hst];rw[hbl]at hpl;generalize putAll b (states.take i) (nums.take i)=A at *;obtain⟨y,hy⟩:∃ y,A[s]?=some y:=⟨_,zga (by omega)⟩;have hy':(A.map NV)[s]?=some (NV y):=by simp[hy]
      have hset:(A.map NV).set s (NV v)=(A.set s v).map NV:=by rw[map_set]
      simp +contextual (disch:=omega) only[Tryz.f110,DK,go_sem,simprocAttr,DC,hsi',hv',hpl,hy',hset];rfl
     ·intro _;rw[take_length,show nums.take states.length=nums from List.take_of_length_le (by omega)];have hpl:=BE states nums b;rw[hbl]at hpl;by_cases hb:(onces RS2).length=before
      ·rw[if_pos hb]at hgo;rw[<- hgo,hb];simp +contextual (disch:=omega) only[Tryz.f110,DK,go_sem,simprocAttr,DC];exact⟨_,Av (z:=0) rfl (by simp[hpl]) (AR _)⟩
      ·rw[if_neg hb]at hgo;have hb2:¬ ((onces RS2).length:Int)=(before:Int):=by omega
       simp +contextual (disch:=omega) only[Tryz.f110,DK,go_sem,simprocAttr,DC,hb2];refine⟨⟨k',(onces RS2).length,putAll b states nums,RS2,W1⟩,⟨hnext,hgo,by rw[hAn];simp only;omega,fun y hy=>?_,hRl,hPl⟩,by simp only;omega,rfl⟩;rw[hAn];rcases D3 _ _ _ y hy with h|h
       ·exact hsmall y h
       ·have:=hnb y h;omega
    ·exact(by first|rfl|(refine AO rfl (by rfl) (by rfl) (by rfl) ?_ ?_<;>simp[AV.underL,AV.under,MB.under,AG,AJ,AF,AH,AK,AM,-map_take,AR,AU,AN,AP]))
   ·obtain⟨s,_,rfl⟩:=mem_map.1 hy;split<;>omega
   ·rw[map_replicate,map_replicate];exact(by first|rfl|(refine AO rfl (by rfl) (by rfl) (by rfl) ?_ ?_<;>simp[AV.underL,AV.under,MB.under,AG,AJ,AF,AH,AK,AM,-map_take,AR,AU,AN,AP]))
  ·rw[show ((List.range n).map fun s=>if s∈states.take 0/\ac[s]?.getD false=true then 1 else 0)=List.replicate n 0 by
    apply List.ext_getElem (by simp);intro i h1 h2;simp,map_replicate]
   exact(by first|rfl|(refine AO rfl (by rfl) (by rfl) (by rfl) ?_ ?_<;>simp[AV.underL,AV.under,MB.under,AG,AJ,AF,AH,AK,AM,-map_take,AR,AU,AN,AP]))
 ·rw[show (List.range n).take 0++List.replicate (n-0) 0=List.replicate n 0 from rfl,map_replicate];exact(by first|rfl|(refine AO rfl (by rfl) (by rfl) (by rfl) ?_ ?_<;>simp[AV.underL,AV.under,MB.under,AG,AJ,AF,AH,AK,AM,-map_take,AR,AU,AN,AP]))
end
end Go.Ev
