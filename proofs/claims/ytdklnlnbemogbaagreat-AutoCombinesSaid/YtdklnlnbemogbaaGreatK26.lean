/- What functions of the program compute; no further conditions. -/
import Derived.Test.YtdklnlnbemogbaaGreatK25
set_option linter.unusedVariables false
set_option linter.unusedSimpArgs false
open List (append_assoc cons_append drop_zero length_append length_cons length_map map_append map_cons map_replicate map_set map_take mem_map nil_append set_cons_succ take_of_length_le)
open Option (getD_some)
open Nat (lt_or_ge zero_le)
open Go.Proofs Go.RowKit Go.IntWalk
set_option maxHeartbeats 8000000
set_option maxRecDepth 100000
namespace Go.Ev
attribute [local go_sem] evBin AV.cells strOf An As bndO bnd evEq eqCells not_false_eq_true not_true_eq_false toList_some Array.size_empty length_append tySzE List.head?_drop Nat.mul_one Ac Aj Aa Ad Ae AW
section
abbrev bsAV (l:List Bool):AV:=.sl false (l.map AV.bool)
abbrev ksAV (l:List Bool):AV:=.str (bitsS l)
theorem UK (n:Nat):KeyOk ksAV (fun l=>l.length=n):=by
 refine⟨fun x y hx hy h=>?_,fun x y _ _=>HX⟩;have:bitsS x=bitsS y:=by injection h
 exact P4 (hx.trans hy.symm) this
theorem Bw (L:List (List Bool)):AV.plainL (L.map bsAV)=true:=by
 induction L with
 | nil=>rfl
 | cons a l ih=>simp[AV.plainL,AV.plain,AN,ih]
theorem EI (n:Nat):∀(i:Nat) (l:List (List Bool)),MB.underE n (entK i (l.map ksAV))=true
 | _,[]=>rfl
 | i,p::l=>by
   simp only[map_cons,entK,MB.underE,EI n (i+1) l,AV.under,AV.underL,Bool.and_self]
theorem c75 {H:List MB}{id n z:Nat}{bs:List Bool} (hr:getRow H id=some (1,bs.map AV.bool,z)) (hn:bs.length=n) (hl:n<=1000000) :
  call Pg pol1 75 [.ms id 1 n 0 n] H=some (bsAV bs,H):=by
 rw[BL];unfold evStep;have ha:((bs.map AV.bool).all fun y=>decide (y.cells.length=1)&&y.cells.all AV.ok)=true:=by
  rw[List.all_eq_true];intro y hy;obtain⟨i,_,rfl⟩:=mem_map.1 hy;rfl
 have he:elemsOf H (.ms id 1 n 0 n)=some (bs.map AV.bool):=by
  simp only[elemsOf,hr,length_map,hn,drop_zero];rw[take_of_length_le (by simp;omega)];simp
 have hx:cloneExt 1 1 [.ms id 1 n 0 n] H=some (bsAV bs,H):=by
  simp only[cloneExt,he];rw[if_pos ⟨ha,AW (by rw[length_map];omega) (by omega),AN _⟩];cases H with
  | nil=>simp[getRow]at hr
  | cons b H=>rfl
 rw[if_neg (show ¬ pol1.pure 75=true by decide)];exact hx
theorem TP {H:List MB}{i n z:Nat}{rs:List AV}{x:AV}{t:Bool} (hi:getRow H i=some (1,rs,z)) (hz:z<=n) (hn:rs.length=n) (hr:n+1<=4000000000) (hx:x.cells=[x]) (ho:x.ok=true) :
  evAppend Pg H 131 131 (.ms i 1 n 0 n) (.sl t [x])=some (.ms i 1 (n+1) 0 (n+1),H.set i (.row 1 (rs++[x]) z)):=by
 have hs:srcElems Pg H 40 (.sl t [x])=some [x]:=rfl;rw[Ag (e:=40) (by kernel_rfl) (by kernel_rfl) (k:=1) (by kernel_rfl) (by_:=24) (by kernel_rfl) (ze:=.sl true []) (by kernel_rfl) rfl (by omega) hs (by simp[hx,ho]) hi hn hz (AW (by simp;omega) (by omega))];rfl
theorem f30e (a:AutoL) (hb:AutoB a) (hv:¬ validW (dividesA a.cl) a=0) (H:List MB):call Pg pol1 30 [autoAV a] H=some (pairAV (zA,validW (dividesA a.cl) a),H):=by
 have hpl:=AX a;have h18:=f18 a hb;refine AQ Tryz.func30 rfl rfl rfl rfl rfl rfl (fun _=>rfl) (by simp only[AV.plainL,hpl];rfl) (Am _) ?_ H;unfold pairAV;obtain⟨cl,nx,ac⟩:=a;simp +contextual (disch:=omega) only[Tryz.f30,dd30,go_sem,simprocAttr,evAppend,map_append,mu30,h18,hv];exact⟨_,rfl⟩
theorem f30v (a:AutoL) (hb:AutoB a) (hg:GoodA a) {top:Int} (hd:DivOk a.cl top) (H:List MB):call Pg pol1 30 [autoAV a] H=some (pairAV (revW a),H):=by
 have h18:=f18 a hb;rw[C6 hg hd]at h18;have hpp:=Am (revW a);have hplA:=AX a;have hacl:=hg.ac;have hnx:=hg.nx;have hncl:=hg.cl;have hpos:=hg.pos;rw[Ck hg]at *;obtain⟨N,hN⟩:∃ N,nxN a.nx=N:=⟨_,rfl⟩;obtain⟨n,hn⟩:∃ n,a.nx.length=n:=⟨_,rfl⟩;obtain⟨m,hm⟩:∃ m,a.cl.length=m:=⟨_,rfl⟩;have hNl:N.length=n:=by rw[<- hN,<- hn];simp[nxN]
 have hrows:=A7 hg;have hst0:∀ s c,nxf N s c=stepC a.nx s c:=fun s c=>by rw[<- hN];exact BT a.nx s c
 rw[hN]at h18 hrows hplA |-;rw[hm]at hrows hncl;rw[hn]at hacl hnx hpos;rw[hNl]at hrows;have hroomN:roomFor (n:Int).toNat 1=true:=AW (by omega) (by omega);have hroomM:roomFor (m:Int).toNat 8=true:=AW (by omega) (by omega);obtain⟨R,hR⟩:∃ R,revR a=R:=⟨_,rfl⟩;obtain⟨RES,hRES⟩:∃ RES,pairAV (revW a)=RES:=⟨_,rfl⟩;have hbad:1024<R.length->RES=.tup [.agg [.sl false [],.sl false [],.sl false []],I 4]:=fun h=>by
  rw[<- hRES];unfold revW;rw[hR,if_neg (by omega)];rfl
 have hok:R.length<=1024->∀ H,call Pg pol1 60 [autoN a.cl (R.map (exRow m (revStep a) R)) (R.map fun x=>x[0]?.getD false)] H=some (RES,H):=fun h H=>by
  have h1:=f60L (a:=revA a) (Cy (Hq hg) rfl hg.cl (by rw[hR];exact h)) hd H;have h2:revW a=lstW (revA a):=by unfold revW;rw[hR,if_pos h]
  rw[<- hRES,h2,<- h1];unfold revA exA;rw[Es,hR,hm]
 rw[hRES]at hpp |-;unfold revR at hR;rw[hm,hn]at hR;refine AQ Tryz.func30 rfl rfl rfl rfl rfl rfl (fun _=>rfl) (by simp[AV.plainL,AV.plain,AP,AU,AN]) hpp ?_ H;have h74:=f74 a.ac (by omega);simp +contextual (disch:=omega) only[Tryz.f30,dd30,go_sem,simprocAttr,evAppend,map_append,mu30,h18,h74,hNl,hroomN];obtain⟨rowF,hrowF⟩:∃ f,exRow m (revStep a) R=f:=⟨_,rfl⟩;obtain⟨acF,hacF⟩:∃ f:List Bool->Bool,(fun x=>x[0]?.getD false)=f:=⟨_,rfl⟩;rw[hrowF,hacF]at hok;have hU0:=QT hg;have hUf:=S3 a;have hUn:∀ x∈boolsU n,x.length=n:=fun x hx=>BA.1 hx;have hstl:∀ x c,(revStep a x c).length=n:=fun x c=>by rw[CV];exact hn
 have hstg:∀ x c s,s<n->(revStep a x c)[s]?=some (x[stepC a.nx s c]?.getD false):=fun x c s hs=>by simp[revStep,hn,hs]
 rw[hn]at hU0 hUf;rw[hm]at hUf;have hnx0:∀ s c,s<n->c<m->∃ r t,N[s]?=some r/\r[c]?=some t/\stepC a.nx s c=t/\t<n:=fun s c hs hc=>by
  obtain⟨r,t,a1,a2,a3,a4⟩:=hrows.nxf_lt (s:=s) (by omega) hc;exact⟨r,t,a1,a2,by rw[<- hst0];exact a3,a4⟩
 generalize revStep a=st at *;generalize boolsU n=U at *;have hS0:ExI (fun x=>(List.range m).map (st x)) U R 0 [a.ac]:=by rw[<- hR];exact ExI.start hU0
 clear hR hst0;have hEp:=fun(n:Nat) (X:List (List Bool))=>EI n 0 X;refine BR (σ:=Nat×List (List Bool)×List Bool) (M:=(Ms 30 9)) rfl (fun x=>(⟨125,[(9,I x.1),(8,.ms 7 1 n 0 n),(7,.rf 4 1 0 0),(6,.mpr 3),(5,.ms 2 1 x.2.1.length 0 x.2.1.length),(2,.rf 1 1 0 0),(1,.rf 0 1 0 0)],[.row 3 [autoN a.cl N a.ac] 0,.row 3 [E3] 0,.row 1 (x.2.1.map bsAV) 0,.mp .str (entK 0 (x.2.1.map ksAV)),.row 3 [.agg [.sl false (a.cl.map setAV9),.ms 5 1 x.1 0 x.1,.ms 6 1 x.1 0 x.1]] 0,.row 1 (((x.2.1.take x.1).map rowF).map nsAV) 0,.row 1 (((x.2.1.take x.1).map acF).map AV.bool) 0,.row 1 (x.2.2.map AV.bool) 0]⟩:St)) (fun x=>ExI (fun x=>(List.range m).map (st x)) U R x.1 x.2.1/\x.2.1.length<=1024/\x.2.2.length=n) (fun x=>U.length-x.1) (0,[a.ac],List.replicate n false) ?_ ⟨hS0,by simp,by simp⟩ _ ?_
 ·rintro⟨i,l,S0⟩ ⟨hI,hl1,hS0l⟩;simp only at hI hl1 hS0l;by_cases hi:i<l.length
  ·obtain⟨p,hp⟩:∃ p,l[i]?=some p:=⟨_,zga hi⟩;have hpU:=hI.inU p (zgc hp);have hpn:=hUn p hpU;have hst:=hI.step hUf hp;obtain⟨mR,hmR⟩:=hst.pre;simp +contextual (disch:=omega) only[Tryz.f30,dd30,go_sem,simprocAttr,evAppend,map_append,mu30,hm,hroomM];have hrl1:(rowF p).length=m:=by rw[<- hrowF];simp[exRow]
   have hrg:∀ c,c<m->(rowF p)[c]?=some (ixOf R (st p c)):=fun c hc=>by rw[<- hrowF];exact Gd hc
   have hfg:∀ c,c<m->((List.range m).map (st p))[c]?=some (st p c):=fun c hc=>by simp[hc]
   have hfl:((List.range m).map (st p)).length=m:=by simp
   have hpre:=Ce l ((List.range m).map (st p));have hnd:=hI.nodup;have hlU:=hI.inU;have hdx:=AZ hp;have htl:(l.take i).length=i:=by rw[List.length_take];omega
   have hIl:=hI.le;have hFU:=hUf p hpU;obtain⟨F,hF⟩:∃ F,(List.range m).map (st p)=F:=⟨_,rfl⟩;rw[hF]at hfg hfl hpre;simp only[hF]at hst hmR hFU;generalize hrow1:rowF p=rw1 at *;generalize l.take i=LT at *;have hApre:=BC F l;obtain⟨LR,hLR⟩:∃ LR,LT.map rowF=LR:=⟨_,rfl⟩;obtain⟨LA,hLA⟩:∃ LA,LT.map acF=LA:=⟨_,rfl⟩;rw[hLR,hLA];obtain⟨SJ,hSJ0,hSJs,hSJl⟩:∃ SJ:Nat->List Bool,SJ 0=S0/\(∀ j,SJ (j+1)=st p j)/\∀ j,(SJ j).length=n:=by
    refine⟨fun j=>match j with
     | 0=>S0
     | j+1=>st p j,rfl,fun j=>rfl,fun j=>?_⟩
    cases j with
    | zero=>exact hS0l
    | succ j=>exact hstl p j
   rw[<- hSJ0];refine AS (M:=(Ms 30 13)) rfl m (fun j=>(⟨125,[(49,I j),(48,I m),(10,.ms 8 1 m 0 m),(9,I i),(8,.ms 7 1 n 0 n),(7,.rf 4 1 0 0),(6,.mpr 3),(5,.ms 2 1 (addAll l (F.take j)).length 0 (addAll l (F.take j)).length),(2,.rf 1 1 0 0),(1,.rf 0 1 0 0)],[.row 3 [autoN a.cl N a.ac] 0,.row 3 [E3] 0,.row 1 ((addAll l (F.take j)).map bsAV) 0,.mp .str (entK 0 ((addAll l (F.take j)).map ksAV)),.row 3 [.agg [.sl false (a.cl.map setAV9),.ms 5 1 i 0 i,.ms 6 1 i 0 i]] 0,.row 1 (LR.map nsAV) 0,.row 1 (LA.map AV.bool) 0,.row 1 ((SJ j).map AV.bool) 0,.row 1 ((rw1.take j++List.replicate (m-j) 0).map NV) 0]⟩:St)) (fun j=>(addAll l (F.take j)).length<=1024) ?_ ?_ (by rw[List.take_zero];exact hl1) _ ?_
   ·intro j hj hle;have hFj:=hfg j hj;have hrj:=hrg j hj;have hsn:=DP l (F.take j) (st p j);rw[<- AZ hFj]at hsn;have hp1:=hpre j;have hp2:=hpre (j+1);have hnA:(addAll l (F.take j)).Nodup:=A8 _ _ hnd;have hAi:(addAll l (F.take j))[i]?=some p:=by
     obtain⟨mm,e⟩:=BC (F.take j) l;rw[e,List.getElem?_append_left hi];exact hp
    have hAn:∀ x∈addAll l (F.take j),x.length=n:=fun x hx=>by
     rcases(Bh _ _ _).1 hx with h|h
     ·exact hUn x (hlU x h)
     ·exact hUn x (hFU x (List.mem_of_mem_take h))
    have hTl:=hstl p j;have hTg:=fun s (hs:s<n)=>hstg p j s hs;have hXl:=hSJl j;rw[hSJs j];have hfs:=Bd (z:=0) hrl1 hrj;have hfl2:=Be (A:=rw1) (z:=0) hrl1 (i:=j) (by omega);rw[<- hfs];rw[hsn]at hp2 |-;generalize st p j=T at *;generalize SJ j=X0 at *;generalize addAll l (F.take j)=A at *;generalize rw1.take j++List.replicate (m-j) 0=X at *;have hAi':(A.map bsAV)[i]?=some (bsAV p):=by simp[hAi]
    have hAil:=getElem?_ne_none hAi;simp +contextual (disch:=omega) only[Tryz.f30,dd30,go_sem,simprocAttr,evAppend,map_append,mu30,hNl];refine AS (M:=(Ms 30 16)) rfl n (fun s=>(⟨125,[(54,I s),(53,I n),(49,I j),(48,I m),(11,I j),(10,.ms 8 1 m 0 m),(9,I i),(8,.ms 7 1 n 0 n),(7,.rf 4 1 0 0),(6,.mpr 3),(5,.ms 2 1 A.length 0 A.length),(2,.rf 1 1 0 0),(1,.rf 0 1 0 0)],[.row 3 [autoN a.cl N a.ac] 0,.row 3 [E3] 0,.row 1 (A.map bsAV) 0,.mp .str (entK 0 (A.map ksAV)),.row 3 [.agg [.sl false (a.cl.map setAV9),.ms 5 1 i 0 i,.ms 6 1 i 0 i]] 0,.row 1 (LR.map nsAV) 0,.row 1 (LA.map AV.bool) 0,.row 1 ((T.take s++X0.drop s).map AV.bool) 0,.row 1 (X.map NV) 0]⟩:St)) (fun s=>True) ?_ ?_ trivial _ ?_
    ·intro s hs _;obtain⟨r,t,a1,a2,a3,a4⟩:=hnx0 s j hs hj;have hTs:=hTg s hs;rw[a3]at hTs;obtain⟨v,hv⟩:∃ v,p[t]?=some v:=⟨_,zga (by omega)⟩;rw[hv,getD_some]at hTs;have a1':(N.map nsAV)[s]?=some (nsAV r):=by simp[a1]
     have a2':(r.map NV)[j]?=some (NV t):=by simp[a2]
     have hv':(p.map AV.bool)[t]?=some (.bool v):=by simp[hv]
     have hf2:=Bn hTl hXl hTs;have hf2l:=CG hTl hXl (i:=s) (by omega);rw[<- hf2];generalize T.take s++X0.drop s=Y at *;obtain⟨y,hy⟩:∃ y,Y[s]?=some y:=⟨_,zga (by omega)⟩;have hy':(Y.map AV.bool)[s]?=some (.bool y):=by simp[hy]
     have hset:(Y.map AV.bool).set s (.bool v)=(Y.set s v).map AV.bool:=by rw[map_set]
     simp +contextual (disch:=omega) only[Tryz.f30,dd30,go_sem,simprocAttr,evAppend,map_append,mu30,hAi',a1',a2',hv',hf2l,hy',hset];refine⟨by unfold dOk;kernel_rfl,?_⟩;generalize Y.set s v=Y2;exact(by first|rfl|(refine AO rfl (by rfl) (by rfl) (by rfl) ?_ ?_<;>simp[AV.underL,AV.under,MB.under,AG,AJ,AF,AH,AK,AM,-map_take,AP,AU,AN,AR,hEp,Bw]))
    ·intro _;rw[CH hTl hXl];have hkey:=(UK n).find (os:=A) hAn hnA (x:=T) hTl;have h74T:=f74 T (by omega);have hth:=fun(b0 b1 b2 b3 b4 b5 b6 b8:MB)=>Hf (f:=74) (z:=0) (H:=[b0,b1,b2,b3,b4,b5,b6,.row 1 (T.map AV.bool) 0,b8]) (id:=7) (k:=1) (n:=n) (els:=T.map AV.bool) (r:=.str (bitsS T)) rfl (by simp[hTl]) (h74T []) rfl (QF _);obtain⟨y,hy⟩:∃ y,X[j]?=some y:=⟨_,zga (by omega)⟩;have hy':(X.map NV)[j]?=some (NV y):=by simp[hy]
     obtain⟨m1,hp1⟩:=hp1;have hmR0:=hmR;rw[hp1,append_assoc]at hmR;by_cases hm2:T∈A
     ·rw[if_pos hm2];have hk1:findMp (.str (bitsS T)) (entK 0 (A.map ksAV))=some (NV (ixOf A T)):=hkey.1 hm2;have hix:ixOf R T=ixOf A T:=Kn hmR hm2;rw[hix]at hrj |-;generalize ixOf A T=u at *;have hset:(X.map NV).set j (NV u)=(X.set j u).map NV:=by rw[map_set]
      simp +contextual (disch:=omega) only[Tryz.f30,dd30,go_sem,simprocAttr,evAppend,map_append,mu30,hth,hk1,hfl2,hy',hset];generalize X.set j u=X2;exact(by first|rfl|(refine AO rfl (by rfl) (by rfl) (by rfl) ?_ ?_<;>simp[AV.underL,AV.under,MB.under,AG,AJ,AF,AH,AK,AM,-map_take,AP,AU,AN,AR,hEp,Bw]))
     ·rw[if_neg hm2]at hp2 |-;obtain⟨m2,hp2⟩:=hp2;rw[hp2]at hmR0;rw[append_assoc]at hmR0;have hRl:A.length+1<=R.length:=by rw[hmR0];simp
      have hkk:findMp (.str (bitsS T)) (entK 0 (A.map ksAV))=none/\updMp (.str (bitsS T)) (NV A.length) (entK 0 (A.map ksAV))=entK 0 ((A++[T]).map ksAV):=hkey.2 hm2;obtain⟨hk1,hk2⟩:=hkk;have hix:ixOf R T=A.length:=Ko hmR0 hm2;rw[hix]at hrj |-;by_cases hfull:A.length=1024
      ·have hfi:(A.length:Int)=1024:=by omega
       rw[hbad (by omega)];simp +contextual (disch:=omega) only[Tryz.f30,dd30,go_sem,simprocAttr,evAppend,map_append,mu30,hth,hk1,hfi];exact⟨_,rfl⟩
      ·have hfi:¬ (A.length:Int)=1024:=by omega
       have hset:(X.map NV).set j (NV A.length)=(X.set j A.length).map NV:=by rw[map_set]
       have hlen:(A++[T]).length=A.length+1:=by simp
       have hAm:(A.map bsAV).length=A.length:=by simp
       have a1:=fun(b0 b1 b3 b4 b5 b6 b7 b8:MB) (t:Bool)=>TP (H:=[b0,b1,.row 1 (A.map bsAV) 0,b3,b4,b5,b6,b7,b8]) (i:=2) (n:=A.length) (x:=bsAV T) (t:=t) rfl (zero_le _) hAm (by omega) rfl rfl;simp only[set_cons_succ,List.set_cons_zero]at a1;have h75:=fun(b0 b1 b2 b3 b4 b5 b6 b8:MB)=>c75 (H:=[b0,b1,b2,b3,b4,b5,b6,.row 1 (T.map AV.bool) 0,b8]) (id:=7) (n:=n) (z:=0) (bs:=T) rfl hTl (by omega);rw[hlen];simp +contextual (disch:=omega) only[Tryz.f30,dd30,go_sem,simprocAttr,mu30,hth,hk1,hk2,hfi,h75,a1,hfl2,hy',hset];have e9:A.map bsAV++[bsAV T]=(A++[T]).map bsAV:=by rw[map_append];rfl
       rw[e9];generalize X.set j A.length=X2;generalize hA2:A++[T]=A2;rw[hA2]at hlen;rw[<- hlen];exact(by first|rfl|(refine AO rfl (by rfl) (by rfl) (by rfl) ?_ ?_<;>simp[AV.underL,AV.under,MB.under,AG,AJ,AF,AH,AK,AM,-map_take,AP,AU,AN,AR,hEp,Bw]))
    ·rw[List.take_zero,drop_zero,nil_append];exact(by first|rfl|(refine AO rfl (by rfl) (by rfl) (by rfl) ?_ ?_<;>simp[AV.underL,AV.under,MB.under,AG,AJ,AF,AH,AK,AM,-map_take,AP,AU,AN,AR,hEp,Bw]))
   ·intro hle;rw[show F.take m=F from take_of_length_le (by omega)]at hle |-;rw[show rw1.take m=rw1 from take_of_length_le (by omega),Nat.sub_self,List.replicate_zero,List.append_nil];have hAt:(addAll l F).take (i+1)=LT++[p]:=by
     obtain⟨mm,e⟩:=hApre;rw[e,List.take_append_of_le_length (by omega)];exact hdx
    have hAi:(addAll l F)[i]?=some p:=by
     obtain⟨mm,e⟩:=hApre;rw[e,List.getElem?_append_left hi];exact hp
    have hXl:=hSJl m;generalize addAll l F=A at *;generalize SJ m=X0 at *;have hAil:=getElem?_ne_none hAi;have hAi':(A.map bsAV)[i]?=some (bsAV p):=by simp[hAi]
    have hAm:(LR.map nsAV).length=i:=by rw[length_map,<- hLR,length_map];exact htl
    have hBm:LA.length=i:=by rw[<- hLA,length_map];exact htl
    obtain⟨v,hv⟩:∃ v,p[0]?=some v:=⟨_,zga (by omega)⟩;have hv':(p.map AV.bool)[0]?=some (.bool v):=by simp[hv]
    have hacp:acF p=v:=by rw[<- hacF];simp only[hv,getD_some]
    have hfR:(A.take (i+1)).map rowF=LR++[rw1]:=by rw[hAt,map_append,hLR,map_cons,hrow1];rfl
    have hfA:(A.take (i+1)).map acF=LA++[v]:=by rw[hAt,map_append,hLA,map_cons,hacp];rfl
    have a1:=fun(b0 b1 b2 b3 b4 b6 b7 b8:MB) (t:Bool)=>HD (H:=[b0,b1,b2,b3,b4,.row 1 (LR.map nsAV) 0,b6,b7,b8]) (i:=5) (n:=i) (x:=.ms 8 1 m 0 m) (t:=t) rfl (zero_le _) hAm (by omega) rfl rfl;have a2:=fun(b0 b1 b2 b3 b4 b5 b7 b8:MB) (t:Bool)=>FL (H:=[b0,b1,b2,b3,b4,b5,.row 1 (LA.map AV.bool) 0,b7,b8]) (i:=6) (n:=i) (x:=v) (t:=t) rfl (zero_le _) hBm (by omega);simp only[set_cons_succ,List.set_cons_zero]at a1 a2;have hz:∀ b0 b1 b2 b3 b4 b5 b6 b7:MB,fzs (LR.map nsAV++[.ms 8 1 m 0 m]) [b0,b1,b2,b3,b4,b5,b6,b7,.row 1 (rw1.map NV) 0]=some (LR.map nsAV++[nsAV rw1],[b0,b1,b2,b3,b4,b5,b6,b7,.row 1 (rw1.map NV) m]):=fun b0 b1 b2 b3 b4 b5 b6 b7=>by
     refine Dd ?_ _ (AU LR);have:=D7 (id:=8) (z:=0) (H:=[b0,b1,b2,b3,b4,b5,b6,b7,.row 1 (rw1.map NV) 0]) rfl hrl1;unfold fz at this;rw[this];simp[mark,getRow]
    have hbq:=AV.beqL_refl (LR.map nsAV++[.ms 8 1 m 0 m]);simp +contextual (disch:=omega) only[Tryz.f30,dd30,go_sem,simprocAttr,mu30,a1,hz,hbq,hAi',hv',a2];repeat' (first|intro _|apply And.intro|(unfold dOk;kernel_rfl)|exact St.beq_refl _|exact Ah|(show altO _ _ _ _=true;kernel_rfl)|(show (_||_)=true;kernel_rfl)|(show (_&&_)=true;kernel_rfl))
    refine⟨(i+1,A,X0),⟨hst,hle,hXl⟩,?_,?_⟩
    ·have:=Ay l U hnd hlU;simp only;omega
    ·simp only;rw[hfR,hfA];have e9:LR.map nsAV++[nsAV rw1]=(LR++[rw1]).map nsAV:=by rw[map_append];rfl
     rw[e9];generalize LR++[rw1]=LR2;generalize LA++[v]=LA2;exact(by first|rfl|(refine AO rfl (by rfl) (by rfl) (by rfl) ?_ ?_<;>simp[AV.underL,AV.under,MB.under,AG,AJ,AF,AH,AK,AM,-map_take,AP,AU,AN,AR,hEp,Bw]))
   ·rw[List.take_zero,List.take_zero,Nat.sub_zero,nil_append];have hrp:=AR (List.replicate m 0);rw[map_replicate]at hrp |-;exact(by first|rfl|(refine AO rfl (by rfl) (by rfl) (by rfl) ?_ ?_<;>simp[AV.underL,AV.under,MB.under,AG,AJ,AF,AH,AK,AM,-map_take,AP,AU,AN,AR,hEp,Bw,hrp]))
  ·have hRe:=hI.fin hi;have hok:=hok (by rw[<- hRe];exact hl1);rw[<- hRe]at hok;have hi2:¬ (i:Int)<(l.length:Int):=by omega
   have hil:i=l.length:=by
    have hle2:i<=l.length:=hI.le;omega
   rw[show l.take i=l from take_of_length_le (by omega)];have hAm:(l.map rowF).length=i:=by rw[length_map];omega
   have hBm:(l.map acF).length=i:=by rw[length_map];omega
   generalize l.map rowF=LR at *;generalize l.map acF=LA at *;obtain⟨q,hq⟩:∃ q,revW a=q:=⟨_,rfl⟩;rw[hq]at hRES;obtain⟨r,e⟩:=q;unfold pairAV at hRES;simp only at hRES;rw[<- hRES]at hok hpp |-;have hz:∀ b0 b1 b2 b3 b4 b7:MB,fz (.agg [.sl false (a.cl.map setAV9),.ms 5 1 i 0 i,.ms 6 1 i 0 i]) [b0,b1,b2,b3,b4,.row 1 (LR.map nsAV) 0,.row 1 (LA.map AV.bool) 0,b7]=some (autoN a.cl LR LA,[b0,b1,b2,b3,b4,.row 1 (LR.map nsAV) i,.row 1 (LA.map AV.bool) i,b7]):=fun b0 b1 b2 b3 b4 b7=>by
    have h3:=Av (id:=5) (k:=1) (z:=0) (tot:=i) (H:=[b0,b1,b2,b3,b4,.row 1 (LR.map nsAV) 0,.row 1 (LA.map AV.bool) 0,b7]) rfl (by simp[hAm]) (AU LR);have h4:=Av (id:=6) (k:=1) (z:=0) (tot:=i) (H:=[b0,b1,b2,b3,b4,.row 1 (LR.map nsAV) i,.row 1 (LA.map AV.bool) 0,b7]) rfl (by simp[hBm]) (AN LA);have hm5:mark [b0,b1,b2,b3,b4,.row 1 (LR.map nsAV) 0,.row 1 (LA.map AV.bool) 0,b7] 5 i=[b0,b1,b2,b3,b4,.row 1 (LR.map nsAV) i,.row 1 (LA.map AV.bool) 0,b7]:=by simp[mark,getRow]
    have hm6:mark [b0,b1,b2,b3,b4,.row 1 (LR.map nsAV) i,.row 1 (LA.map AV.bool) 0,b7] 6 i=[b0,b1,b2,b3,b4,.row 1 (LR.map nsAV) i,.row 1 (LA.map AV.bool) i,b7]:=by simp[mark,getRow]
    rw[hm5]at h3;rw[hm6]at h4;exact CR (AY _ (by simp[AV.plain,AP])) h3 h4
   have c60:=fun b0 b1 b2 b3 b4 b7:MB=>A5 (P:=Pg) (pol:=pol1) (f:=60) (args:=[.agg [.sl false (a.cl.map setAV9),.ms 5 1 i 0 i,.ms 6 1 i 0 i]]) (l:=[autoN a.cl LR LA]) (H:=[b0,b1,b2,b3,b4,.row 1 (LR.map nsAV) 0,.row 1 (LA.map AV.bool) 0,b7]) (H1:=[b0,b1,b2,b3,b4,.row 1 (LR.map nsAV) i,.row 1 (LA.map AV.bool) i,b7]) rfl (by simp only[frzArgs,show pol1.byref 60 0=false from rfl,Bool.false_eq_true,if_false,hz]) (by simp[AV.plainL,AV.plain,AP,AU,AN]);simp only[hok]at c60;simp +contextual (disch:=omega) only[Tryz.f30,dd30,go_sem,simprocAttr,evAppend,map_append,mu30,hi2,c60];exact fzEq hpp rfl
 ·rw[show List.map AV.bool (List.replicate n false)=List.replicate n (AV.bool false) from map_replicate];have hrp:=AN (List.replicate n false);rw[map_replicate]at hrp;exact(by first|rfl|(refine AO rfl (by rfl) (by rfl) (by rfl) ?_ ?_<;>simp[AV.underL,AV.under,MB.under,AG,AJ,AF,AH,AK,AM,-map_take,AP,AU,AN,hEp,Bw,hrp,show MB.underE 8 (entK 0 [ksAV a.ac])=true from EI 8 0 [a.ac]]))
theorem f30R (a:AutoL) (hb:AutoB a) (H:List MB):call Pg pol1 30 [autoAV a] H=some (pairAV (ofValid a revW),H):=by
 unfold ofValid;by_cases hv:validW (dividesA a.cl) a=0
 ·rw[if_neg (by simp[hv])];obtain⟨hg,hd⟩:=A0 hv;exact f30v a hb hg (B7 hd) H
 ·rw[if_pos hv];exact f30e a hb hv H
end
section
attribute [local go_sem] evAppend map_append
theorem Msv {cl:Cls}{x:Int}{k:Nat} (h:k<clIx cl x) {s:Spans} (hs:cl[k]?=some s):hasSpan s x=false:=by
 have hk:=getElem?_ne_none hs;have:=List.not_of_lt_findIdx (p:=fun s=>hasSpan s x) (xs:=cl) h;rw[zga hk]at hs;rw[<- Option.some.inj hs]
 simpa using this
theorem f215 (cl:Cls) {top x:Int} (hd:DivOk cl top) (hx:Sy top x) (hl:cl.length<=1000000) (H:List MB):call Pg pol1 215 [.sl false (cl.map setAV9),I x] H=some (.tup [NV (clIx cl x),I 0],H):=by
 have hpl:=AP cl;obtain⟨g1,g2⟩:=hd.clIx_lt hx.1 hx.2;have hb:=fun k (h:k<clIx cl x) s (hs:cl[k]?=some s)=>Msv h hs;have hsz:∀ s∈cl,s.length<=1000000:=fun s hs=>by have:=(Az (hd.set s hs).1).2;omega
 refine AQ Tryz.func215 rfl rfl rfl rfl rfl rfl (fun _=>rfl) (by simp[AV.plain,AV.plainL,hpl]) (by simp[AV.plain,AV.plainL]) ?_ H;simp +contextual (disch:=omega) only[Tryz.f215,RE,go_sem,simprocAttr,Qp];generalize clIx cl x=n at *;refine BR (σ:=Nat) (M:=(Ms 215 2)) rfl (fun i=>(⟨22,[(6,I i),(1,I x),(0,.sl false (cl.map setAV9))],[]⟩:St)) (fun i=>i<=n) (fun i=>n-i) 0 ?_ (zero_le _) _ (by first|rfl|(refine AO rfl (by rfl) (by rfl) (by rfl) ?_ ?_<;>simp[AV.underL,AV.under,MB.under,AG,AJ,AF,AH,AK,AM,-map_take,AP]));intro i hi;obtain⟨s,hs⟩:∃ s,cl[i]?=some s:=⟨_,zga (by omega)⟩;have hs':(cl.map setAV9)[i]?=some (setAV9 s):=by simp[hs]
 have h175:=OY s x (hsz s (zgc hs));by_cases he:i=n
 ·subst he;rw[hs,getD_some]at g2;rw[g2]at h175;simp +contextual (disch:=omega) only[Tryz.f215,RE,go_sem,simprocAttr,Qp,hs',h175];exact fzEq rfl rfl
 ·rw[hb i (by omega) s hs]at h175;simp +contextual (disch:=omega) only[Tryz.f215,RE,go_sem,simprocAttr,Qp,hs',h175];exact⟨i+1,by omega,by omega,(by first|rfl|(refine AO rfl (by rfl) (by rfl) (by rfl) ?_ ?_<;>simp[AV.underL,AV.under,MB.under,AG,AJ,AF,AH,AK,AM,-map_take,AP]))⟩
theorem f177 (a:AutoL) {top x:Int} (hg:GoodA a) (hd:DivOk a.cl top) {s:Nat} (hs:s<a.nx.length) (hx:Sy top x) (H:List MB):call Pg pol1 177 [autoAV a,NV s,I x] H=some (NV (stepC a.nx s (clIx a.cl x)),H):=by
 have hpl:=AX a;have h215:=f215 a.cl hd hx (by have:=hg.cl;omega);have hlt:=(hd.clIx_lt hx.1 hx.2).1;obtain⟨r,t,a1,a2,a3,a4⟩:=(A7 hg).nxf_lt (s:=s) (c:=clIx a.cl x) (by simp[nxN];exact hs) hlt;rw[BT]at a3;rw[Ck hg]at *;generalize nxN a.nx=N at *;have a1':(N.map nsAV)[s]?=some (nsAV r):=by simp[a1]
 have a2':(r.map NV)[clIx a.cl x]?=some (NV t):=by simp[a2]
 refine AQ Tryz.func177 rfl rfl rfl rfl rfl rfl (fun _=>rfl) (by simp[AV.plain,AV.plainL,AP,AU,AN]) (by simp[AV.plain]) ?_ H;rw[a3];generalize clIx a.cl x=c at *;simp +contextual (disch:=omega) only[Tryz.f177,Uo,go_sem,simprocAttr,UA,h215,a1',a2'];exact fzEq rfl rfl
theorem f66 (a b:List Nat) (ha:a.length<=1000000) (hb:b.length<=1000000) (H:List MB):call Pg pol1 66 [nsAV a,nsAV b] H=some (.bool (decide (a=b)),H):=by
 have h69:=UG a b (by omega) (by omega);refine AQ Tryz.func66 rfl rfl rfl rfl rfl rfl (fun _=>rfl) (by simp[AV.plain,AV.plainL,AR]) (by simp[AV.plain]) ?_ H;simp +contextual (disch:=omega) only[Tryz.f66,dd66,go_sem,simprocAttr,mu66,h69];exact fzEq rfl rfl
def alikeC (N:List (List Nat)) (b c:Nat):Bool:=N.all fun r=>r[b]?==r[c]?
theorem f127 (cl:Cls) (N:List (List Nat)) (ac:List Bool) {m b c:Nat} (hl:N.length<=1000000) (hr:∀ r∈N,r.length=m) (hb:b<m) (hc:c<m) (H:List MB):call Pg pol1 127 [autoN cl N ac,NV b,NV c] H=some (.bool (alikeC N b c),H):=by
 refine AQ Tryz.func127 rfl rfl rfl rfl rfl rfl (fun _=>rfl) (by simp[AV.plain,AV.plainL,AP,AU,AN]) (by simp[AV.plain]) ?_ H;simp +contextual (disch:=omega) only[Tryz.f127,Om,go_sem,simprocAttr,OQ];refine AS (M:=(Ms 127 2)) rfl N.length (fun i=>(⟨32,[(7,I i),(3,.rf 0 1 0 0),(2,NV c),(1,NV b)],[.row 3 [autoN cl N ac] 0]⟩:St)) (fun i=>∀ k r,k<i->N[k]?=some r->r[b]?=r[c]?) ?_ ?_ (fun k r h=>by omega) _ (by first|rfl|(refine AO rfl (by rfl) (by rfl) (by rfl) ?_ ?_<;>simp[AV.underL,AV.under,MB.under,AG,AJ,AF,AH,AK,AM,-map_take,AP,AU,AN]))
 ·intro i hi hg;obtain⟨r,hri⟩:∃ r,N[i]?=some r:=⟨_,zga hi⟩;have hri':(N.map nsAV)[i]?=some (nsAV r):=by simp[hri]
  have hrl:=hr r (zgc hri);obtain⟨x,hx⟩:∃ x,r[b]?=some x:=⟨_,zga (by omega)⟩;obtain⟨y,hy⟩:∃ y,r[c]?=some y:=⟨_,zga (by omega)⟩;have hx':(r.map NV)[b]?=some (NV x):=by simp[hx]
  have hy':(r.map NV)[c]?=some (NV y):=by simp[hy]
  by_cases he:x=y
  ·subst he;simp +contextual (disch:=omega) only[Tryz.f127,Om,go_sem,simprocAttr,OQ,hri',hx',hy'];refine⟨by unfold dOk;kernel_rfl,fun k q hk hq=>?_,(by first|rfl|(refine AO rfl (by rfl) (by rfl) (by rfl) ?_ ?_<;>simp[AV.underL,AV.under,MB.under,AG,AJ,AF,AH,AK,AM,-map_take,AP,AU,AN]))⟩;rcases lt_or_ge k i with h|h
   ·exact hg k q h hq
   ·obtain rfl:k=i:=by omega
    rw[hri]at hq;obtain rfl:=Option.some.inj hq;rw[hx,hy]
  ·have hne:(x:Int)≠y:=by omega
   have hd:alikeC N b c=false:=by
    unfold alikeC;rw[List.all_eq_false];exact⟨r,zgc hri,by rw[hx,hy];simp[he]⟩
   rw[hd];simp +contextual (disch:=omega) only[Tryz.f127,Om,go_sem,simprocAttr,OQ,hri',hx',hy',hne];exact⟨by unfold dOk;kernel_rfl,fzEq rfl rfl⟩
 ·intro hg;have hd:alikeC N b c=true:=by
   unfold alikeC;rw[List.all_eq_true];intro r hr;obtain⟨k,hk,e⟩:=List.getElem_of_mem hr;have:=hg k r hk (by rw[<- e];exact zga hk);rw[this];simp
  rw[hd];simp +contextual (disch:=omega) only[Tryz.f127,Om,go_sem,simprocAttr,OQ];exact fzEq rfl rfl
end
section
abbrev mkA (kind:Int) (a b:AutoL) (C:Cls):AV:=.agg [I kind,.sl false [],I 0,.bool false,.sl false (a.cl.map setAV9),.sl false (a.nx.map rowAV),.sl false (a.ac.map AV.bool),.sl false (b.cl.map setAV9),.sl false (b.nx.map rowAV),.sl false (b.ac.map AV.bool),.sl false (C.map setAV9)]
theorem A3 (kind:Int) (a b:AutoL) (C:Cls):AV.plain (mkA kind a b C)=true:=by
 simp[mkA,AV.plain,AV.plainL,AP,AT,AN]
def idxsN (x:List Bool) (n:Nat):List Nat:=(List.range n).filter fun i=>x[i]?.getD false
def idxs (x:List Bool):List Nat:=idxsN x x.length
theorem IP (x:List Bool) (n:Nat):idxsN x (n+1)=if x[n]?.getD false=true then idxsN x n++[n] else idxsN x n:=by
 unfold idxsN;rw[List.range_succ,List.filter_append];split
 ·rename_i h;simp[h]
 ·rename_i h;simp[h]
theorem F3 {x:List Bool}{i:Nat}:i∈idxs x↔x[i]?.getD false=true:=by
 unfold idxs idxsN;rw[List.mem_filter,List.mem_range];refine⟨fun h=>h.2,fun h=>⟨?_,h⟩⟩;rcases lt_or_ge i x.length with g|g
 ·exact g
 ·rw[List.getElem?_eq_none g]at h;cases h
theorem Qz {x y:List Bool} (hl:x.length=y.length) (h:idxs x=idxs y):x=y:=by
 refine List.ext_getElem hl fun i h1 h2=>?_;have a:=@F3 x i;have b:=@F3 y i;rw[h]at a;rw[zga h1,getD_some]at a;rw[zga h2,getD_some]at b;rw[Bool.eq_iff_iff];exact a.symm.trans b
theorem Db (x:List Bool) (n:Nat):(idxsN x n).length<=n:=by
 unfold idxsN;have:=List.length_filter_le (fun i=>x[i]?.getD false) (List.range n)
 simpa using this
theorem HY {H:List MB}{i n z:Nat}{rs:List Nat}{x:Nat}{t:Bool} (hi:getRow H i=some (1,rs.map NV,z)) (hz:z<=n) (hn:rs.length=n) (hr:n+1<=4000000000) :
  evAppend Pg H 22 22 (.ms i 1 n 0 n) (.sl t [NV x])=some (.ms i 1 (n+1) 0 (n+1),H.set i (.row 1 ((rs++[x]).map NV) z)):=by
 have hs:srcElems Pg H 3 (.sl t [NV x])=some [NV x]:=rfl;rw[Ag (e:=3) (by kernel_rfl) (by kernel_rfl) (k:=1) (by kernel_rfl) (by_:=8) (by kernel_rfl) (ze:=I 0) (by kernel_rfl) rfl (by omega) hs (by simp[AV.cells,AV.ok]) hi (by rw[length_map];exact hn) hz (AW (by simp;omega) (by omega))];rw[map_append];rfl
theorem So (a b:AutoL) (C:Cls) (H:List MB):call Pg pol1 123 [mkA 1 a b C] H=some (nsAV [0],H):=by
 refine AQ Tryz.func123 rfl rfl rfl rfl rfl rfl (fun _=>rfl) (by simp only[AV.plainL,A3];simp[AV.plain,AV.plainL]) rfl ?_ H;simp +contextual (disch:=omega) only[Tryz.f123,Ip,go_sem,simprocAttr,evAppend,map_append,ID];exact⟨_,rfl⟩
theorem UW (k:Int) (hk:k=2∨k=3) (a b:AutoL) (C:Cls) (H:List MB):call Pg pol1 123 [mkA k a b C] H=some (nsAV [0,0],H):=by
 refine AQ Tryz.func123 rfl rfl rfl rfl rfl rfl (fun _=>rfl) (by simp only[AV.plainL,A3];simp[AV.plain,AV.plainL]) rfl ?_ H;rcases hk with rfl|rfl
 ·simp +contextual (disch:=omega) only[Tryz.f123,Ip,go_sem,simprocAttr,evAppend,map_append,ID];exact⟨_,rfl⟩
 ·simp +contextual (disch:=omega) only[Tryz.f123,Ip,go_sem,simprocAttr,evAppend,map_append,ID];exact⟨_,rfl⟩
theorem UV (a b:AutoL) (C:Cls) (hl:a.ac.length<=1000000) (H:List MB):call Pg pol1 123 [mkA 5 a b C] H=some (nsAV (idxs a.ac),H):=by
 refine AQ Tryz.func123 rfl rfl rfl rfl rfl rfl (fun _=>rfl) (by simp only[AV.plainL,A3];simp[AV.plain,AV.plainL]) (by simp only[AV.plain,AR];rfl) ?_ H;have hIs:=IP a.ac;have hIl:=Db a.ac;have hI0:idxsN a.ac 0=[]:=rfl;rw[show idxs a.ac=idxsN a.ac a.ac.length from rfl];simp +contextual (disch:=omega) only[Tryz.f123,Ip,go_sem,simprocAttr,evAppend,map_append,ID];refine AS (M:=(Ms 123 10)) rfl a.ac.length (fun i=>(⟨43,[(6,I i),(5,.ms 1 1 (idxsN a.ac i).length 0 (idxsN a.ac i).length),(1,.rf 0 1 0 0)],[.row 11 [mkA 5 a b C] 0,.row 1 ((idxsN a.ac i).map NV) 0]⟩:St)) (fun i=>True) ?_ ?_ trivial _ ?_
 ·intro i hi _;obtain⟨v,hv⟩:∃ v,a.ac[i]?=some v:=⟨_,zga hi⟩;have hv':(a.ac.map AV.bool)[i]?=some (.bool v):=by simp[hv]
  have hIs:=hIs i;have hIl:=hIl i;rw[hv,getD_some]at hIs;rw[hIs];generalize idxsN a.ac i=X at *;cases v with
  | false=>
    rw[if_neg (by simp)];simp +contextual (disch:=omega) only[Tryz.f123,Ip,go_sem,simprocAttr,evAppend,map_append,ID,hv'];exact(by first|rfl|(refine AO rfl (by rfl) (by rfl) (by rfl) ?_ ?_<;>simp[AV.underL,AV.under,MB.under,AG,AJ,AF,AH,AK,AM,-map_take,AP,AT,AN,AR]))
  | true=>
    rw[if_pos rfl];have a1:=fun(b0:MB) (t:Bool)=>HY (H:=[b0,.row 1 (X.map NV) 0]) (i:=1) (n:=X.length) (x:=i) (t:=t) rfl (zero_le _) rfl (by omega);simp only[set_cons_succ,List.set_cons_zero]at a1;have hlen:(X++[i]).length=X.length+1:=by simp
    rw[hlen];simp +contextual (disch:=omega) only[Tryz.f123,Ip,go_sem,simprocAttr,ID,hv',a1];generalize X++[i]=X2;exact(by first|rfl|(refine AO rfl (by rfl) (by rfl) (by rfl) ?_ ?_<;>simp[AV.underL,AV.under,MB.under,AG,AJ,AF,AH,AK,AM,-map_take,AP,AT,AN,AR]))
 ·intro _;generalize idxsN a.ac a.ac.length=X at *;simp +contextual (disch:=omega) only[Tryz.f123,Ip,go_sem,simprocAttr,evAppend,map_append,ID];exact⟨_,Av (z:=0) rfl (by simp) (AR X)⟩
 ·exact(by first|rfl|(refine AO rfl (by rfl) (by rfl) (by rfl) ?_ ?_<;>simp[AV.underL,AV.under,MB.under,AG,AJ,AF,AH,AK,AM,-map_take,AP,AT,AN,AR]))
theorem Sm (a b:AutoL) (C:Cls) {s:Nat}{v:Bool} (h:a.ac[s]?=some v) (H:List MB):call Pg pol1 125 [mkA 1 a b C,nsAV [s]] H=some (.bool v,H):=by
 have h':(a.ac.map AV.bool)[s]?=some (.bool v):=by simp[h]
 refine AQ Tryz.func125 rfl rfl rfl rfl rfl rfl (fun _=>rfl) (by simp only[AV.plainL,A3];simp[AV.plain,AV.plainL]) rfl ?_ H;simp +contextual (disch:=omega) only[Tryz.f125,On,go_sem,simprocAttr,evAppend,map_append,OR,h'];exact⟨by unfold dOk;kernel_rfl,fzEq rfl rfl⟩
theorem US (a b:AutoL) (C:Cls) {s t:Nat}{v w:Bool} (h:a.ac[s]?=some v) (g:b.ac[t]?=some w) (H:List MB):call Pg pol1 125 [mkA 2 a b C,nsAV [s,t]] H=some (.bool (v&&w),H):=by
 have h':(a.ac.map AV.bool)[s]?=some (.bool v):=by simp[h]
 have g':(b.ac.map AV.bool)[t]?=some (.bool w):=by simp[g]
 refine AQ Tryz.func125 rfl rfl rfl rfl rfl rfl (fun _=>rfl) (by simp only[AV.plainL,A3];simp[AV.plain,AV.plainL]) rfl ?_ H;cases v<;>cases w
 all_goals
  simp +contextual (disch:=omega) only[Tryz.f125,On,go_sem,simprocAttr,evAppend,map_append,OR,h',g'];exact⟨by unfold dOk;kernel_rfl,fzEq rfl rfl⟩
theorem UQ (a b:AutoL) (C:Cls) {s t:Nat}{v w:Bool} (h:a.ac[s]?=some v) (g:b.ac[t]?=some w) (H:List MB):call Pg pol1 125 [mkA 3 a b C,nsAV [s,t]] H=some (.bool (v||w),H):=by
 have h':(a.ac.map AV.bool)[s]?=some (.bool v):=by simp[h]
 have g':(b.ac.map AV.bool)[t]?=some (.bool w):=by simp[g]
 refine AQ Tryz.func125 rfl rfl rfl rfl rfl rfl (fun _=>rfl) (by simp only[AV.plainL,A3];simp[AV.plain,AV.plainL]) rfl ?_ H;cases v<;>cases w
 all_goals
  simp +contextual (disch:=omega) only[Tryz.f125,On,go_sem,simprocAttr,evAppend,map_append,OR,h',g'];exact⟨by unfold dOk;kernel_rfl,fzEq rfl rfl⟩
theorem UR (a b:AutoL) (C:Cls) (x:List Bool) (hl:x.length<=1000000) (H:List MB):call Pg pol1 125 [mkA 5 a b C,nsAV (idxs x)] H=some (.bool (x[0]?.getD false),H):=by
 have h106:=Si (idxs x) 0 (by have:=Db x x.length;unfold idxs;omega);have hd:decide (0∈idxs x)=x[0]?.getD false:=by
  rw[Bool.eq_iff_iff,decide_eq_true_iff,F3]
 rw[hd]at h106;generalize idxs x=X at *;refine AQ Tryz.func125 rfl rfl rfl rfl rfl rfl (fun _=>rfl) (by simp only[AV.plainL,A3];simp[AV.plain,AR]) rfl ?_ H;have h106:∀ H,call Pg pol1 106 [nsAV X,I 0] H=some (.bool (x[0]?.getD false),H):=h106;simp +contextual (disch:=omega) only[Tryz.f125,On,go_sem,simprocAttr,evAppend,map_append,OR,h106];exact fzEq rfl rfl
theorem Sn (a b:AutoL) (C:Cls) {top:Int} (hg:GoodA a) (hd:DivOk a.cl top) (hC:DivOk C top) {s c:Nat} (hs:s<a.nx.length) (hc:c<C.length) (H:List MB) :
  call Pg pol1 124 [mkA 1 a b C,nsAV [s],NV c] H=some (nsAV [stepC a.nx s (clIx a.cl (loOf C c))],H):=by
 obtain⟨S,hS⟩:∃ S,C[c]?=some S:=⟨_,zga hc⟩;obtain⟨q0,q1,_⟩:=hC.head hS;have hlo:loOf C c=headLo S:=by rw[loOf,hS];rfl
 rw[hlo];have h177:=f177 a hg hd hs (x:=headLo S) ⟨q0,q1⟩;have hS':(C.map setAV9)[c]?=some (setAV9 S):=by simp[hS]
 have hne:=(hC.set S (zgc hS)).2;cases S with
 | nil=>exact absurd rfl hne
 | cons p S=>
   rw[show headLo (p::S)=p.1 from rfl]at *;generalize stepC a.nx s (clIx a.cl p.1)=t at *;refine AQ Tryz.func124 rfl rfl rfl rfl rfl rfl (fun _=>rfl) (by simp only[AV.plainL,A3];simp[AV.plain,AV.plainL]) rfl ?_ H;simp +contextual (disch:=omega) only[Tryz.f124,KN,go_sem,simprocAttr,evAppend,map_append,Jv,h177,hS',spanAV];exact⟨by unfold dOk;kernel_rfl,_,rfl⟩
theorem UU (k:Int) (hk:k=2∨k=3) (a b:AutoL) (C:Cls) {top:Int} (hg:GoodA a) (hd:DivOk a.cl top) (hgb:GoodA b) (hdb:DivOk b.cl top) (hC:DivOk C top) {s t c:Nat} (hs:s<a.nx.length) (ht:t<b.nx.length) (hc:c<C.length) (H:List MB) :
  call Pg pol1 124 [mkA k a b C,nsAV [s,t],NV c] H=some (nsAV [stepC a.nx s (clIx a.cl (loOf C c)),stepC b.nx t (clIx b.cl (loOf C c))],H):=by
 obtain⟨S,hS⟩:∃ S,C[c]?=some S:=⟨_,zga hc⟩;obtain⟨q0,q1,_⟩:=hC.head hS;have hlo:loOf C c=headLo S:=by rw[loOf,hS];rfl
 rw[hlo];have h177a:=f177 a hg hd hs (x:=headLo S) ⟨q0,q1⟩;have h177b:=f177 b hgb hdb ht (x:=headLo S) ⟨q0,q1⟩;have hS':(C.map setAV9)[c]?=some (setAV9 S):=by simp[hS]
 have hne:=(hC.set S (zgc hS)).2;cases S with
 | nil=>exact absurd rfl hne
 | cons p S=>
   rw[show headLo (p::S)=p.1 from rfl]at *;generalize stepC a.nx s (clIx a.cl p.1)=u at *;generalize stepC b.nx t (clIx b.cl p.1)=v at *;refine AQ Tryz.func124 rfl rfl rfl rfl rfl rfl (fun _=>rfl) (by simp only[AV.plainL,A3];simp[AV.plain,AV.plainL]) rfl ?_ H;rcases hk with rfl|rfl
   all_goals
    simp +contextual (disch:=omega) only[Tryz.f124,KN,go_sem,simprocAttr,evAppend,map_append,Jv,h177a,h177b,hS',spanAV];exact⟨by unfold dOk;kernel_rfl,_,rfl⟩
theorem UT (a b:AutoL) {top:Int} (hg:GoodA a) (hd:DivOk a.cl top) (x:List Bool) (hxl:x.length=a.nx.length) {c:Nat} (hc:c<a.cl.length) (H:List MB) :
  call Pg pol1 124 [mkA 5 a b a.cl,nsAV (idxs x),NV c] H=some (nsAV (idxs (revStep a x c)),H):=by
 obtain⟨S,hS⟩:∃ S,a.cl[c]?=some S:=⟨_,zga hc⟩;obtain⟨q0,q1,q2⟩:=hd.head hS;have h177:=fun s (hs:s<a.nx.length)=>f177 a hg hd hs (x:=headLo S) ⟨q0,q1⟩;rw[q2]at h177;have hS':(a.cl.map setAV9)[c]?=some (setAV9 S):=by simp[hS]
 have hne:=(hd.set S (zgc hS)).2;have hnx:=hg.nx;have h106:=fun t=>Si (idxs x) t (by have:=Db x x.length;unfold idxs;omega);have hRl:=CV a x c;have hRg:∀ s,s<a.nx.length->(revStep a x c)[s]?.getD false=decide (stepC a.nx s c∈idxs x):=fun s hs=>by
  rw[Bool.eq_iff_iff,decide_eq_true_iff,F3];simp only[revStep,List.getElem?_map,List.getElem?_range hs,Option.map_some,getD_some]
 have hIs:=IP (revStep a x c);have hIl:=Db (revStep a x c);rw[show idxs (revStep a x c)=idxsN (revStep a x c) a.nx.length by rw[idxs,hRl]];have hI0:idxsN (revStep a x c) 0=[]:=rfl;generalize hY:revStep a x c=Y at *;generalize idxs x=X at *;cases S with
 | nil=>exact absurd rfl hne
 | cons p S=>
   rw[show headLo (p::S)=p.1 from rfl]at *;refine AQ Tryz.func124 rfl rfl rfl rfl rfl rfl (fun _=>rfl) (by simp only[AV.plainL,A3];simp[AV.plain,AR]) (by simp only[AV.plain,AR];rfl) ?_ H;simp +contextual (disch:=omega) only[Tryz.f124,KN,go_sem,simprocAttr,evAppend,map_append,Jv,hS',spanAV];refine AS (M:=(Ms 124 18)) rfl a.nx.length (fun i=>(⟨114,[(13,I i),(8,.ms 1 1 (idxsN Y i).length 0 (idxsN Y i).length),(7,I p.1),(3,.rf 0 1 0 0),(1,nsAV X)],[.row 11 [mkA 5 a b a.cl] 0,.row 1 ((idxsN Y i).map NV) 0]⟩:St)) (fun i=>True) ?_ ?_ trivial _ ?_
   ·intro i hi _;have hIs:=hIs i;have hIl:=hIl i;have h177:=h177 i hi;have h106:=h106 (stepC a.nx i c);rw[hRg i hi]at hIs;rw[hIs];generalize idxsN Y i=Z at *;generalize stepC a.nx i c=t at *;by_cases hm:t∈X
    ·rw[decide_eq_true hm]at h106 |-;rw[if_pos rfl];have a1:=fun(b0:MB) (u:Bool)=>HY (H:=[b0,.row 1 (Z.map NV) 0]) (i:=1) (n:=Z.length) (x:=i) (t:=u) rfl (zero_le _) rfl (by omega);simp only[set_cons_succ,List.set_cons_zero]at a1;have hlen:(Z++[i]).length=Z.length+1:=by simp
     rw[hlen];simp +contextual (disch:=omega) only[Tryz.f124,KN,go_sem,simprocAttr,Jv,h177,h106,a1];generalize Z++[i]=X2;exact(by first|rfl|(refine AO rfl (by rfl) (by rfl) (by rfl) ?_ ?_<;>simp[AV.underL,AV.under,MB.under,AG,AJ,AF,AH,AK,AM,-map_take,AP,AT,AN,AR]))
    ·rw[decide_eq_false hm]at h106 |-;rw[if_neg (by simp)];simp +contextual (disch:=omega) only[Tryz.f124,KN,go_sem,simprocAttr,evAppend,map_append,Jv,h177,h106];exact(by first|rfl|(refine AO rfl (by rfl) (by rfl) (by rfl) ?_ ?_<;>simp[AV.underL,AV.under,MB.under,AG,AJ,AF,AH,AK,AM,-map_take,AP,AT,AN,AR]))
   ·intro _;generalize idxsN Y a.nx.length=Z at *;simp +contextual (disch:=omega) only[Tryz.f124,KN,go_sem,simprocAttr,evAppend,map_append,Jv];exact⟨_,Av (z:=0) rfl (by simp) (AR Z)⟩
   ·exact(by first|rfl|(refine AO rfl (by rfl) (by rfl) (by rfl) ?_ ?_<;>simp[AV.underL,AV.under,MB.under,AG,AJ,AF,AH,AK,AM,-map_take,AP,AT,AN,AR]))
end
section
def cm (b m:Nat) (n:Nat):List AV:=(List.range n).map fun i=>.ms (b+i) 1 m 0 m
theorem Ef (b m n:Nat):(cm b m n).length=n:=by simp[cm]
theorem Ov (b m n:Nat):cm b m (n+1)=cm b m n++[.ms (b+n) 1 m 0 m]:=by simp[cm,List.range_succ]
theorem K9 {b m n i:Nat} (h:i<n):(cm b m n)[i]?=some (.ms (b+i) 1 m 0 m):=by simp[cm,h]
def rowsV (L:List (List Nat)):List MB:=L.map fun r=>.row 1 (r.map NV) 0
theorem PG (L:List (List Nat)):(rowsV L).length=L.length:=by simp[rowsV]
theorem NI (L:List (List Nat)) (r:List Nat):rowsV (L++[r])=rowsV L++[.row 1 (r.map NV) 0]:=by simp[rowsV]
section
variable {H:List MB}
theorem gA (l:List MB) (k:Nat):(H++l)[H.length+k]?=l[k]?:=by
 rw[List.getElem?_append_right (by omega)];congr 1;omega
theorem gA0 (l:List MB):(H++l)[H.length]?=l[0]?:=gA l 0
theorem sA (l:List MB) (k:Nat) (b:MB):(H++l).set (H.length+k) b=H++l.set k b:=by
 rw[List.set_append_right _ _ (by omega)];congr 2;omega
theorem sA0 (l:List MB) (b:MB):(H++l).set H.length b=H++l.set 0 b:=sA l 0 b
end
theorem Cq {α:Type} [DecidableEq α]:∀(xs l:List α),(addAll l xs).length<=l.length+xs.length
 | [],l=>by simp[addAll]
 | x::xs,l=>by
   rw[addAll];by_cases h:x∈l
   ·rw[if_pos h];have:=Cq xs l;simp only[length_cons];omega
   ·rw[if_neg h];have:=Cq xs (l++[x]);simp only[length_append,length_cons,List.length_nil]at this |-;omega
def ExpOut (C:Cls) (m:Nat) (rows:List (List Nat)) (acs:List Bool) (H:List MB) (r:AV×List MB):Prop:=
 ∃ x0 x1 x2 x3,r=(.tup [.agg [.sl false (C.map setAV9),.ms (H.length+4) 1 rows.length 0 rows.length,.ms (H.length+5) 1 rows.length 0 rows.length],I 0],
   H++(x0::x1::x2::x3::.row 1 (cm (H.length+6) m rows.length) 0::.row 1 (acs.map AV.bool) 0::rowsV rows))
theorem f63 {σ:Type} [DecidableEq σ] (enc:σ->List Nat) (U R:List σ) (m:Nat) (step:σ->Nat->σ) (acc:σ->Bool) (first:σ) (kind:Int) (a b:AutoL) (C:Cls)
  (henc:∀ x∈U,∀ y∈U,enc x=enc y->x=y) (hel:∀ x∈U,(enc x).length<=1000000) (hU:∀ x∈U,∀ c,c<m->step x c∈U) (h0:first∈U) (hCm:C.length=m) (hm:m<=1024)
  (hR:bfs (fun x=>(List.range m).map (step x)) (U.length+1) 0 [first]=R)
  (h123:∀ H,call Pg pol1 123 [mkA kind a b C] H=some (nsAV (enc first),H))
  (h124:∀ x∈U,∀ c,c<m->∀ H,call Pg pol1 124 [mkA kind a b C,nsAV (enc x),NV c] H=some (nsAV (enc (step x c)),H))
  (h125:∀ x∈U,∀ H,call Pg pol1 125 [mkA kind a b C,nsAV (enc x)] H=some (.bool (acc x),H)) (H:List MB) :
  ∃ r,((R.length<=1024->ExpOut C m (R.map (exRow m step R)) (R.map acc) H r)/\(1024<R.length->∃ K,r=(.tup [.agg [.sl true [],.sl true [],.sl true []],I 4],H++K)))/\call Pg pol1 63 [mkA kind a b C] H=some r:=by
 have hpm:=A3 kind a b C;have hfr:frzArgs pol1 63 0 [mkA kind a b C] H=some ([mkA kind a b C],H):=BQ H _ _ (by simp only[mixOk,hpm];rfl);have rp:∀ H1 r H,retPol pol1 63 H1 r H=some (r,H):=fun H1 r H=>rfl;refine I4 (pol:=pol1) Tryz.func63 rfl rfl rfl rfl hfr ?_;have g1:=@gA H;have g2:=@gA0 H;have g3:=@sA H;have g4:=@sA0 H;generalize hmk:mkA kind a b C=MK at *;have hmkd:MK=.agg [I kind,.sl false [],I 0,.bool false,.sl false (a.cl.map setAV9),.sl false (a.nx.map rowAV),.sl false (a.ac.map AV.bool),.sl false (b.cl.map setAV9),.sl false (b.nx.map rowAV),.sl false (b.ac.map AV.bool),.sl false (C.map setAV9)]:=hmk.symm;have hMc:MK.cells=[I kind,.sl false [],I 0,.bool false,.sl false (a.cl.map setAV9),.sl false (a.nx.map rowAV),.sl false (a.ac.map AV.bool),.sl false (b.cl.map setAV9),.sl false (b.nx.map rowAV),.sl false (b.ac.map AV.bool),.sl false (C.map setAV9)]:=by rw[hmkd];rfl
 subst hmkd;simp +contextual (disch:=omega) only[Tryz.f63,dd63,go_sem,simprocAttr,mu63,append_assoc,cons_append,nil_append,h123,g1,g2,g3,g4];obtain⟨rowF,hrowF⟩:∃ f,exRow m step R=f:=⟨_,rfl⟩;rw[hrowF];have hUf:∀ x∈U,∀ y∈(List.range m).map (step x),y∈U:=fun x hx y hy=>by
  obtain⟨c,hc,rfl⟩:=mem_map.1 hy;exact hU x hx c (List.mem_range.1 hc)
 have hS0:ExI (fun x=>(List.range m).map (step x)) U R 0 [first]:=by rw[<- hR];exact ExI.start h0
 obtain⟨sAV,hsAV⟩:∃ f:σ->AV,(fun x=>nsAV (enc x))=f:=⟨_,rfl⟩;have hsp:∀ L:List σ,AV.plainL (L.map sAV)=true:=fun L=>by
  rw[<- hsAV]
  induction L with
  | nil=>rfl
  | cons x L ih=>simp[AV.plainL,AV.plain,AR,ih]
 have hsA:∀ x,nsAV (enc x)=sAV x:=fun x=>by rw[<- hsAV]
 refine BR (σ:=Nat×List σ) (M:=(Ms 63 4)) (by rfl) (fun x=>(⟨86,[(6,I x.1),(5,.rf (H.length+3) 1 0 0),(4,.ms (H.length+2) 1 x.2.length 0 x.2.length),(2,.rf (H.length+1) 1 0 0),(1,.rf H.length 1 0 0)],H++(.row 11 [mkA kind a b C] 0::.row 3 [E3] 0::.row 1 (x.2.map sAV) 0::.row 3 [.agg [.sl false (C.map setAV9),.ms (H.length+4) 1 x.1 0 x.1,.ms (H.length+5) 1 x.1 0 x.1]] 0::.row 1 (cm (H.length+6) m x.1) 0::.row 1 (((x.2.take x.1).map acc).map AV.bool) 0::rowsV ((x.2.take x.1).map rowF))⟩:St)) (fun x=>ExI (fun x=>(List.range m).map (step x)) U R x.1 x.2/\x.1<=1024) (fun x=>U.length-x.1) (0,[first]) ?_ ⟨hS0,by simp⟩ _ ?_
 ·rintro⟨i,l⟩ ⟨hI,hi4⟩;simp only at hI hi4;by_cases hi:i<l.length
  ·by_cases hbig:1024<l.length
   ·have hRb:1024<R.length:=by
     obtain⟨mm,e⟩:=hI.pre;rw[e];simp;omega
    have hi2:(i:Int)<(l.length:Int):=by omega
    have hb2:(1024:Int)<(l.length:Int):=by omega
    simp +contextual (disch:=omega) only[Tryz.f63,dd63,go_sem,simprocAttr,mu63,append_assoc,cons_append,nil_append,g1,g2,g3,g4,hi2,hb2];exact⟨_,⟨fun h=>h.elim,fun _=>⟨_,rfl⟩⟩,rp _ _ _⟩
   ·obtain⟨p,hp⟩:∃ p,l[i]?=some p:=⟨_,zga hi⟩;have hpU:=hI.inU p (zgc hp);have hst:=hI.step hUf hp;obtain⟨mR,hmR⟩:=hst.pre;have hi2:(i:Int)<(l.length:Int):=by omega
    have hb2:¬ (1024:Int)<(l.length:Int):=by omega
    have hRWl:(rowsV ((l.take i).map rowF)).length=i:=by rw[PG,length_map,List.length_take];omega
    have hrl1:(rowF p).length=m:=by rw[<- hrowF];simp[exRow]
    have hrg:∀ c,c<m->(rowF p)[c]?=some (ixOf R (step p c)):=fun c hc=>by rw[<- hrowF];exact Gd hc
    have hfg:∀ c,c<m->((List.range m).map (step p))[c]?=some (step p c):=fun c hc=>by simp[hc]
    have hfl:((List.range m).map (step p)).length=m:=by simp
    have hpre:=Ce l ((List.range m).map (step p));have hnd:=hI.nodup;have hlU:=hI.inU;have hdx:=AZ hp;have htl:(l.take i).length=i:=by rw[List.length_take];omega
    have hFU:=hUf p hpU;have h124p:=h124 p hpU;have hUp:=hU p hpU;obtain⟨F,hF⟩:∃ F,(List.range m).map (step p)=F:=⟨_,rfl⟩;rw[hF]at hfg hfl hpre;simp only[hF]at hst hmR hFU;have hApre:=BC F l;generalize hrow1:rowF p=rw1 at *;obtain⟨RW,hRW⟩:∃ RW,rowsV ((l.take i).map rowF)=RW:=⟨_,rfl⟩;obtain⟨LA,hLA⟩:∃ LA,(l.take i).map acc=LA:=⟨_,rfl⟩;obtain⟨CM,hCM⟩:∃ CM,cm (H.length+6) m i=CM:=⟨_,rfl⟩;have hCMl:CM.length=i:=by rw[<- hCM];exact Ef _ _ _
    rw[hRW]at hRWl;rw[hRW,hLA,hCM];have hRWg:∀ y,(RW++[y])[i]?=some y:=fun y=>by rw[List.getElem?_append_right (by omega),hRWl];simp
    have hRWs:∀ y z,(RW++[y]).set i z=RW++[z]:=fun y z=>by rw[List.set_append_right _ _ (by omega),hRWl];simp
    simp +contextual (disch:=omega) only[Tryz.f63,dd63,go_sem,simprocAttr,mu63,append_assoc,cons_append,nil_append,g1,g2,g3,g4,hi2,hb2,hRWl];refine AS (M:=(Ms 63 10)) (by rfl) m (fun j=>(⟨86,[(8,I j),(7,.ms (H.length+(i+1+1+1+1+1+1)) 1 j 0 j),(6,I i),(5,.rf (H.length+3) 1 0 0),(4,.ms (H.length+2) 1 (addAll l (F.take j)).length 0 (addAll l (F.take j)).length),(2,.rf (H.length+1) 1 0 0),(1,.rf H.length 1 0 0)],H++(.row 11 [mkA kind a b C] 0::.row 3 [E3] 0::.row 1 ((addAll l (F.take j)).map sAV) 0::.row 3 [.agg [.sl false (C.map setAV9),.ms (H.length+4) 1 i 0 i,.ms (H.length+5) 1 i 0 i]] 0::.row 1 CM 0::.row 1 (LA.map AV.bool) 0::(RW++[.row 1 ((rw1.take j).map NV) 0]))⟩:St)) (fun j=>True) ?_ ?_ trivial _ ?_
    ·intro j hj _;have hFj:=hfg j hj;have hrj:=hrg j hj;have hsn:=DP l (F.take j) (step p j);rw[<- AZ hFj]at hsn;have hp1:=hpre j;have hp2:=hpre (j+1);have hnA:(addAll l (F.take j)).Nodup:=A8 _ _ hnd;have hAle:(addAll l (F.take j)).length<=2048:=by
      have:=Cq (F.take j) l;rw[List.length_take]at this;omega
     have hAi:(addAll l (F.take j))[i]?=some p:=by
      obtain⟨mm,e⟩:=BC (F.take j) l;rw[e,List.getElem?_append_left hi];exact hp
     have hAU:∀ x∈addAll l (F.take j),x∈U:=fun x hx=>by
      rcases(Bh _ _ _).1 hx with h|h
      ·exact hlU x h
      ·exact hFU x (List.mem_of_mem_take h)
     have hzU:=hUp j hj;have h124j:=h124p j hj;rw[hsn]at hp2 |-;have hrs:=AZ hrj;rw[hrs];have hXl:(rw1.take j).length=j:=by rw[List.length_take];omega
     generalize step p j=z at *;generalize addAll l (F.take j)=A at *;generalize rw1.take j=XR at *;have hAi':(A.map sAV)[i]?=some (sAV p):=by simp[hAi]
     have hAil:(i:Int)<(A.length:Int):=by have:=getElem?_ne_none hAi;omega
     have hj2:(j:Int)<(m:Int):=by omega
     have hAle:A.length<=2048:=hAle;have hu:ixOf A z<=A.length:=List.idxOf_le_length;have hult:∀ k,k<ixOf A z->∃ x,A[k]?=some x/\x≠z:=fun k hk=>by
      refine⟨_,zga (by omega),fun e=>?_⟩;have:=List.not_of_lt_findIdx (p:=(·== z)) (xs:=A) hk;simp at this;exact this e
     have hueq:ixOf A z<A.length->A[ixOf A z]?=some z:=fun h=>Et (List.idxOf_lt_length_iff.1 h);have hmem:z∈A↔ixOf A z<A.length:=(List.idxOf_lt_length_iff).symm;obtain⟨m1,hp1⟩:=hp1;have hmR0:=hmR;rw[hp1,append_assoc]at hmR;have hix:ixOf R z=ixOf A z:=by
      by_cases hm2:z∈A
      ·exact Kn hmR hm2
      ·rw[if_neg hm2]at hp2;obtain⟨m2,hp2⟩:=hp2;rw[hp2,append_assoc]at hmR0;have e1:ixOf R z=A.length:=Ko hmR0 hm2;have e2:¬ ixOf A z<A.length:=fun h=>hm2 (hmem.2 h);omega
     rw[hix]at hrj hrs |-;clear hp2 hsn hmR hmR0 hix;generalize ixOf A z=u at *;rw[<- hsA p]at hAi';simp +contextual (disch:=omega) only[Tryz.f63,dd63,go_sem,simprocAttr,mu63,append_assoc,cons_append,nil_append,g1,g2,g3,g4,hCm,hj2,hAi',hAil,h124j];refine⟨by unfold dOk;kernel_rfl,?_⟩;refine BR (σ:=Nat) (M:=(Ms 63 14)) (by rfl) (fun k=>(⟨86,[(10,I k),(9,nsAV (enc z)),(8,I j),(7,.ms (H.length+(i+1+1+1+1+1+1)) 1 j 0 j),(6,I i),(5,.rf (H.length+3) 1 0 0),(4,.ms (H.length+2) 1 A.length 0 A.length),(2,.rf (H.length+1) 1 0 0),(1,.rf H.length 1 0 0)],H++(.row 11 [mkA kind a b C] 0::.row 3 [E3] 0::.row 1 (A.map sAV) 0::.row 3 [.agg [.sl false (C.map setAV9),.ms (H.length+4) 1 i 0 i,.ms (H.length+5) 1 i 0 i]] 0::.row 1 CM 0::.row 1 (LA.map AV.bool) 0::(RW++[.row 1 (XR.map NV) 0]))⟩:St)) (fun k=>k<=u) (fun k=>u-k) 0 ?_ (zero_le _) _ (by rfl);intro k hk;have hR5:∀ y,(RW++[y])[i]?=some y:=hRWg;have hXRm:(XR.map NV).length=j:=by rw[length_map];exact hXl
     have hzl:=hel z hzU;have a7:∀(x0 x1 x2 x3 x4 x5:MB) (n:Nat) (t:Bool),evAppend Pg (H++(x0::x1::x2::x3::x4::x5::(RW++[.row 1 (XR.map NV) 0]))) 22 22 (.ms (H.length+(i+1+1+1+1+1+1)) 1 j 0 j) (.sl t [NV n])=some (.ms (H.length+(i+1+1+1+1+1+1)) 1 (j+1) 0 (j+1),H++(x0::x1::x2::x3::x4::x5::(RW++[.row 1 ((XR++[n]).map NV) 0]))):=fun x0 x1 x2 x3 x4 x5 n t=>by
      rw[HY (rs:=XR) (z:=0) (by unfold getRow;rw[gA];simp only[List.getElem?_cons_succ,hRWg]) (zero_le _) hXl (by omega),sA];simp only[set_cons_succ,hRWs]
     have hkn:k<u->∃ x,A[k]?=some x/\enc x≠enc z/\(enc x).length<=1000000:=fun h=>by
      obtain⟨x,hx,hne⟩:=hult k h;have hxU:=hAU x (zgc hx);exact⟨x,hx,fun e=>hne (henc x hxU z hzU e),hel x hxU⟩
     by_cases hku:k<u
     ·obtain⟨x,hx,hne,hxl⟩:=hkn hku;have hx':(A.map sAV)[k]?=some (nsAV (enc x)):=by rw[hsA];simp[hx]
      have h66:=f66 (enc x) (enc z) hxl hzl;rw[decide_eq_false hne]at h66;have hkl:(k:Int)<(A.length:Int):=by omega
      have hkw:IntKind.i64.wrap ((k:Int)+1)=((k+1:Nat):Int):=by rw[i64_in]<;>omega
      simp +contextual (disch:=omega) only[Tryz.f63,dd63,go_sem,simprocAttr,mu63,append_assoc,cons_append,nil_append,g1,g2,g3,g4,hx',h66,hkl,hkw];exact⟨k+1,by omega,by omega,by rfl⟩
     ·obtain rfl:k=u:=by omega
      by_cases hm2:z∈A
      ·rw[if_pos hm2];have hkl':=hmem.1 hm2;have hx:=hueq hkl';have hx':(A.map sAV)[k]?=some (nsAV (enc z)):=by rw[hsA];simp[hx]
       have h66:=f66 (enc z) (enc z) hzl hzl;rw[decide_eq_true rfl]at h66;have hkl:(k:Int)<(A.length:Int):=by omega
       have hkn:¬ (k:Int)=(A.length:Int):=by omega
       simp +contextual (disch:=omega) only[Tryz.f63,dd63,go_sem,simprocAttr,mu63,append_assoc,cons_append,nil_append,g1,g2,g3,g4,hx',h66,hkl,hkn,a7];generalize XR++[k]=XR2;rfl
      ·rw[if_neg hm2];have hkA:k=A.length:=by
        rcases lt_or_ge k A.length with h|h
        ·exact absurd (hmem.2 h) hm2
        ·omega
       subst hkA;have hAm:(A.map sAV).length=A.length:=by simp
       have a4:∀(x0 x1 x3 x4 x5:MB) (T:List MB) (t:Bool),evAppend Pg (H++(x0::x1::.row 1 (A.map sAV) 0::x3::x4::x5::T)) 39 39 (.ms (H.length+2) 1 A.length 0 A.length) (.sl t [nsAV (enc z)])=some (.ms (H.length+2) 1 (A.length+1) 0 (A.length+1),H++(x0::x1::.row 1 (A.map sAV++[sAV z]) 0::x3::x4::x5::T)):=fun x0 x1 x3 x4 x5 T t=>by
        rw[HD (rs:=A.map sAV) (z:=0) (by unfold getRow;rw[gA];rfl) (zero_le _) hAm (by omega) rfl rfl,sA,hsA];rfl
       have hlen:(A++[z]).length=A.length+1:=by simp
       rw[hlen];simp +contextual (disch:=omega) only[Tryz.f63,dd63,go_sem,simprocAttr,mu63,append_assoc,cons_append,nil_append,g1,g2,g3,g4,a4,a7];have e9:A.map sAV++[sAV z]=(A++[z]).map sAV:=by rw[map_append];rfl
       rw[e9];generalize XR++[A.length]=XR2;generalize A++[z]=A2;rfl
    ·intro _;rw[show F.take m=F from take_of_length_le (by omega),show rw1.take m=rw1 from take_of_length_le (by omega)];have hAt:(addAll l F).take (i+1)=l.take i++[p]:=by
      obtain⟨mm,e⟩:=hApre;rw[e,List.take_append_of_le_length (by omega)];exact hdx
     have hAi:(addAll l F)[i]?=some p:=by
      obtain⟨mm,e⟩:=hApre;rw[e,List.getElem?_append_left hi];exact hp
     have hAle:(addAll l F).length<=2048:=by
      have:=Cq F l;omega
     have h125p:=h125 p hpU;have hfR:rowsV (((addAll l F).take (i+1)).map rowF)=RW++[.row 1 (rw1.map NV) 0]:=by
      rw[hAt,map_append,map_cons,List.map_nil,NI,hRW,hrow1]
     have hfA:((addAll l F).take (i+1)).map acc=LA++[acc p]:=by rw[hAt,map_append,hLA];rfl
     have hfC:cm (H.length+6) m (i+1)=CM++[.ms (H.length+(i+1+1+1+1+1+1)) 1 m 0 m]:=by
      rw[Ov,hCM,show H.length+6+i=H.length+(i+1+1+1+1+1+1) by omega]
     have hLAl:LA.length=i:=by rw[<- hLA,length_map];exact htl
     generalize addAll l F=A at *;have hAi':(A.map sAV)[i]?=some (nsAV (enc p)):=by rw[hsA];simp[hAi]
     have hj2:¬ (m:Int)<(m:Int):=by omega
     have a5:∀(x0 x1 x2 x3 x5:MB) (T:List MB) (t:Bool),evAppend Pg (H++(x0::x1::x2::x3::.row 1 CM 0::x5::T)) 39 39 (.ms (H.length+4) 1 i 0 i) (.sl t [.ms (H.length+(i+1+1+1+1+1+1)) 1 m 0 m])=some (.ms (H.length+4) 1 (i+1) 0 (i+1),H++(x0::x1::x2::x3::.row 1 (CM++[.ms (H.length+(i+1+1+1+1+1+1)) 1 m 0 m]) 0::x5::T)):=fun x0 x1 x2 x3 x5 T t=>by
      rw[HD (rs:=CM) (z:=0) (by unfold getRow;rw[gA];rfl) (zero_le _) hCMl (by omega) rfl rfl,sA];rfl
     have a6:∀(x0 x1 x2 x3 x4:MB) (T:List MB) (t:Bool),evAppend Pg (H++(x0::x1::x2::x3::x4::.row 1 (LA.map AV.bool) 0::T)) 40 40 (.ms (H.length+5) 1 i 0 i) (.sl t [.bool (acc p)])=some (.ms (H.length+5) 1 (i+1) 0 (i+1),H++(x0::x1::x2::x3::x4::.row 1 ((LA++[acc p]).map AV.bool) 0::T)):=fun x0 x1 x2 x3 x4 T t=>by
      rw[FL (rs:=LA) (z:=0) (by unfold getRow;rw[gA];rfl) (zero_le _) hLAl (by omega),sA];rfl
     have hiA:(i:Int)<(A.length:Int):=by have:=getElem?_ne_none hAi;omega
     simp +contextual (disch:=omega) only[Tryz.f63,dd63,go_sem,simprocAttr,mu63,append_assoc,cons_append,nil_append,g1,g2,g3,g4,hCm,hj2,a5,a6,hAi',h125p,hiA];repeat' (first|intro _|apply And.intro|(unfold dOk;kernel_rfl)|exact St.beq_refl _|exact Ah|(show altO _ _ _ _=true;kernel_rfl)|(show (_||_)=true;kernel_rfl)|(show (_&&_)=true;kernel_rfl))
     refine⟨(i+1,A),⟨hst,by simp only;omega⟩,?_,?_⟩
     ·have:=Ay l U hnd hlU;simp only;omega
     ·simp only;rw[hfR,hfA,hfC];generalize CM++[AV.ms (H.length+(i+1+1+1+1+1+1)) 1 m 0 m]=CM2;generalize LA++[acc p]=LA2;rfl
    ·rw[List.take_zero,List.take_zero];rfl
  ·have hRe:=hI.fin hi;have hil:i=l.length:=by
    have hle2:i<=l.length:=hI.le;omega
   have hi2:¬ (i:Int)<(l.length:Int):=by omega
   rw[show l.take i=l from take_of_length_le (by omega)];simp +contextual (disch:=omega) only[Tryz.f63,dd63,go_sem,simprocAttr,mu63,append_assoc,cons_append,nil_append,g1,g2,g3,g4,hi2];have hil':i=(l.map rowF).length:=by rw[length_map];exact hil
   rw[<- hRe];refine⟨_,⟨fun _=>?_,fun h=>absurd h (by omega)⟩,rp _ _ _⟩;rw[hil'];exact⟨_,_,_,_,rfl⟩
 ·simp only[<- hsAV];rfl
end
end Go.Ev
namespace Go.Ev
theorem D4 {pre post:List MB}{k z n:Nat}{els:List AV}:mark (pre++.row k els z::post) pre.length n=pre++.row k els (max z n)::post:=by
 have hr:getRow (pre++.row k els z::post) pre.length=some (k,els,z):=by simp[getRow]
 unfold mark;rw[hr];simp
theorem Of (j k:Nat):∀(es:List (List AV)) (pre post:List MB),(∀ e∈es,AV.plainL e=true) ->
  fzL (fzJ (j+1)) (cellsL k pre.length (es.map List.length)) (pre++(es.map (fun e=>MB.row k e 0)++post))=some (es.map (AV.sl false),pre++(es.map (fun e=>MB.row k e e.length)++post))
 | [],pre,post,_=>rfl
 | e::es,pre,post,h=>by
   have hr:getRow (pre++(MB.row k e 0::(es.map (fun e=>MB.row k e 0)++post))) pre.length=some (k,e,0):=by simp[getRow]
   have h1:=D6 (n:=j) hr rfl (h e (by simp));rw[D4]at h1;have ih:=Of j k es (pre++[.row k e (max 0 e.length)]) post (fun x hx=>h x (by simp[hx]));simp only[length_append,length_cons,List.length_nil,append_assoc,cons_append,nil_append,Nat.zero_add]at ih;simp only[map_cons,cellsL,cons_append,fzL,h1,ih];rw[Nat.max_eq_right (zero_le _)]
theorem RK (b m:Nat):∀(ns:List Nat),(∀ n∈ns,n=m)->cm b m ns.length=cellsL 1 b ns:=by
 intro ns h;apply List.ext_getElem?;intro i;by_cases hi:i<ns.length
 ·rw[K9 hi,Bg 1 b ns i ns[i] (zga hi),h _ (List.getElem_mem hi)]
 ·rw[List.getElem?_eq_none (by rw[Ef];omega),List.getElem?_eq_none (by rw[Ax];omega)]
theorem Q2 {j m n:Nat}{es:List (List AV)}{H pre post:List MB}{id z:Nat} (hn:es.length=n) (hm:∀ e∈es,e.length=m) (hp:∀ e∈es,AV.plainL e=true)
  (hr:getRow H id=some (1,cm pre.length m n,z)) (hH:mark H id n=pre++(es.map (fun e=>MB.row 1 e 0)++post)) :
  fzA (fzJ (j+2)) (.ms id 1 n 0 n) H=some (.sl false (es.map (AV.sl false)),pre++(es.map (fun e=>MB.row 1 e e.length)++post)):=by
 have hc:cm pre.length m n=cellsL 1 pre.length (es.map List.length):=by
  have:=RK pre.length m (es.map List.length) (fun x hx=>by
   obtain⟨e,he,rfl⟩:=mem_map.1 hx;exact hm e he)
  rw[length_map,hn]at this;exact this
 refine IU (n:=j+1) (off:=0) (len:=n) hr (Ef _ _ _) (by omega) ?_;rw[drop_zero,take_of_length_le (by rw[Ef];omega),Nat.zero_add,hH,hc];exact Of j 1 es pre post hp
section
def get2 (D:List (List Bool)) (i k:Nat):Bool:=(D[i]?.getD [])[k]?.getD false
def set2 (D:List (List Bool)) (i k:Nat):List (List Bool):=D.set i ((D[i]?.getD []).set k true)
structure Sq (n:Nat) (D:List (List Bool)):Prop where
 len:D.length=n
 row:∀ d∈D,d.length=n
variable {n i k:Nat}{D:List (List Bool)}
theorem Sq.at (h:Sq n D) (hi:i<n):∃ d,D[i]?=some d/\d.length=n:=⟨_,zga (by rw[h.len];exact hi),h.row _ (List.getElem_mem _)⟩
theorem Sq.set (h:Sq n D) (hi:i<n):Sq n (set2 D i k):=by
 obtain⟨d,e,hd⟩:=h.at hi;refine⟨by simp[set2,h.len],fun x hx=>?_⟩;rcases List.mem_or_eq_of_mem_set hx with g|g
 ·exact h.row x g
 ·rw[g,e];simp[hd]
theorem ML (h:Sq n D) (hi:i<n) (hk:k<n) (i' k':Nat):get2 (set2 D i k) i' k' = if i' = i/\k' = k then true else get2 D i' k':=by
 obtain⟨d,e,hd⟩:=h.at hi;have hl:=h.len;unfold get2 set2;by_cases h1:i=i'
 ·subst h1;rw[List.getElem?_set_self (by omega),e];simp only[getD_some,true_and];by_cases h2:k=k'
  ·subst h2;rw[List.getElem?_set_self (by omega)];simp
  ·rw[List.getElem?_set_ne h2,if_neg (by intro g;exact h2 g.symm)]
 ·rw[List.getElem?_set_ne h1,if_neg (by intro g;exact h1 g.1.symm)]
def fls (D:List (List Bool)):Nat:=(D.map fun d=>d.countP fun b=>!b).sum
theorem Nu {d:List Bool} (hk:d[k]?=some false):(d.set k true).countP (fun b=>!b)+1=d.countP fun b=>!b:=by
 induction d generalizing k with
 | nil=>simp at hk
 | cons b d ih=>
   cases k with
   | zero=>simp at hk;subst hk;simp[List.countP_cons]
   | succ k=>
     have:=ih (k:=k) (by simpa using hk);simp only[set_cons_succ,List.countP_cons];omega
theorem OF:∀ {l:List Nat}{i x y:Nat},l[i]?=some x->(l.set i y).sum+x=l.sum+y
 | [],i,x,y,h=>by simp at h
 | a::l,0,x,y,h=>by simp at h;subst h;simp;omega
 | a::l,i+1,x,y,h=>by
   have:=OF (l:=l) (i:=i) (x:=x) (y:=y) (by simpa using h);simp only[set_cons_succ,List.sum_cons];omega
theorem SH (h:Sq n D) (hi:i<n) (hk:k<n) (hf:get2 D i k=false):fls (set2 D i k)+1=fls D:=by
 obtain⟨d,e,hd⟩:=h.at hi;have hdk:d[k]?=some false:=by
  unfold get2 at hf;rw[e,getD_some,zga (by omega),getD_some]at hf;rw[zga (by omega),hf]
 have h1:=Nu hdk;unfold fls set2;rw[e,getD_some,map_set];have h2:=OF (l:=D.map fun d=>d.countP fun b=>!b) (i:=i) (x:=d.countP fun b=>!b) (y:=(d.set k true).countP fun b=>!b) (by rw[List.getElem?_map,e];rfl);omega
structure AI (n m:Nat) (nx:Nat->Nat->Nat) (P:List (List Bool)->Prop) (D:List (List Bool)) (i k c:Nat) (E:List (List Bool)) (ch:Bool):Prop where
 inv:P E
 sq:Sq n E
 le:fls E<=fls D
 lt:ch=true->fls E<fls D
 same:ch=false->E=D/\∀ i' k' c',(i'<i∨i' = i/\(k'<k∨k' = k/\c'<c))->i'<n->k'<n->c'<m->get2 D (nx i' c') (nx k' c')=true->get2 D i' k' = true
variable {m c:Nat}{nx:Nat->Nat->Nat}{P:List (List Bool)->Prop}{E:List (List Bool)}{ch:Bool}
theorem AI.start (hP:P D) (hs:Sq n D):AI n m nx P D 0 0 0 D false:=⟨hP,hs,Nat.le_refl _,fun h=>(by cases h),fun _=>⟨rfl,fun i' k' c' h=>by omega⟩⟩
theorem AI.put (h:AI n m nx P D i k c E ch) (hp:∀ E i k c,P E->Sq n E->i<n->k<n->c<m->get2 E (nx i c) (nx k c)=true->P (set2 E i k)) (hi:i<n) (hk:k<n) (hc:c<m) (hf:get2 E i k=false) (ht:get2 E (nx i c) (nx k c)=true):AI n m nx P D i k (c+1) (set2 E i k) true:=by
 have:=SH h.sq hi hk hf;have:=h.le;exact⟨hp E i k c h.inv h.sq hi hk hc ht,h.sq.set hi,by omega,fun _=>by omega,fun h=>by cases h⟩
theorem AI.skip (h:AI n m nx P D i k c E ch) (ht:get2 E (nx i c) (nx k c)=false):AI n m nx P D i k (c+1) E ch:=by
 refine⟨h.inv,h.sq,h.le,h.lt,fun g=>?_⟩;obtain⟨e,h1⟩:=h.same g;refine⟨e,fun i' k' c' h2 a b d t=>?_⟩;by_cases g2:i' = i/\k' = k/\c' = c
 ·obtain⟨rfl,rfl,rfl⟩:=g2;rw[<- e,ht]at t;cases t
 ·exact h1 i' k' c' (by omega) a b d t
theorem AI.nextK (h:AI n m nx P D i k c E ch) (hd:c=m∨get2 E i k=true):AI n m nx P D i (k+1) 0 E ch:=by
 refine⟨h.inv,h.sq,h.le,h.lt,fun g=>?_⟩;obtain⟨e,h1⟩:=h.same g;refine⟨e,fun i' k' c' h2 a b d t=>?_⟩;by_cases g2:i' = i/\k' = k
 ·obtain⟨rfl,rfl⟩:=g2;rcases hd with rfl|hd
  ·exact h1 i' k' c' (by omega) a b d t
  ·rw[<- e];exact hd
 ·exact h1 i' k' c' (by omega) a b d t
theorem AI.nextI (h:AI n m nx P D i n 0 E ch):AI n m nx P D (i+1) 0 0 E ch:=by
 refine⟨h.inv,h.sq,h.le,h.lt,fun g=>?_⟩;obtain⟨e,h1⟩:=h.same g;exact⟨e,fun i' k' c' h2 a b d t=>h1 i' k' c' (by omega) a b d t⟩
def Clsd (n m:Nat) (nx:Nat->Nat->Nat) (D:List (List Bool)):Prop:=∀ i k c,i<n->k<n->c<m->get2 D (nx i c) (nx k c)=true->get2 D i k=true
theorem AI.done (h:AI n m nx P D n 0 0 E false):Clsd n m nx E:=fun i k c a b d t=>by
 obtain⟨e,h1⟩:=h.same rfl;rw[e]at t |-;exact h1 i k c (by omega) a b d t
end
end Go.Ev
