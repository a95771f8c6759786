/- slices.SortFunc on trees (111), by a comparison that answers as the order of trees does. -/
import Derived.Test.YtkolcijbdendhaaGreatF20
import Derived.Test.YtkolcijbdendhaaGreatF19
import Derived.Shelf.SlSortCmp.NoneTotal
set_option linter.unusedVariables false
set_option linter.unusedSimpArgs false
open List (append_assoc append_nil cons_append ext_getElem? getElem?_eq_getElem length_append length_eq_zero_iff length_map map_append map_cons map_nil map_take mem_map nil_append)
open Nat (le_refl zero_le)
open Go.Proofs Go.RowKit Go.IntWalk
set_option maxHeartbeats 4000000
set_option maxRecDepth 100000
namespace Go.Ev
open Go.Proofs Go.Shelf Go.RowKit Go.Lib Go.Sort
theorem Se:∀ args w,(callFunc 111 args).run Pg w=.ok (.enter 111 args) w:=enters_of Tryz.func111 (by kernel_rfl) rfl
theorem Sd:∀ args w,(callFunc 112 args).run Pg w=.ok (.enter 112 args) w:=enters_of Tryz.func112 (by kernel_rfl) rfl
theorem Rr:SortCon Pg 111 8:=fun α _ enc hk h1 cf hO g cb blk off cap d w eg hcmp hH hblk hsz=>
 AnyQ.slices_SortFunc_eq Tryz.sortR 8 Tryz.isAgg26 Tryz.sizeOf26 enc hk h1 cf hO g cb blk off cap d w eg hcmp hH hblk hsz
structure TV (l:List Re) (I:Imm) (L:List Lay) where
 r:Re
 mem:r∈l
 vs:List Value
 len:vs.length=8
 at_:∀(j:Nat) (y:AV),(reC r)[j]?=some y->∃ v,vs[j]?=some v/\scal v=true/\Rep I L y v
variable {l:List Re}{B0:Nat}{w0:Base}{w:World}{I:Imm}{H:List MB}{L:List Lay}
def TV.cf (x y:TV l I L):Int:=cmpR x.r y.r
theorem Ma {x y:TV l I L}:ltOf TV.cf x y=decide (cmpR x.r y.r<0):=rfl
theorem swoR:SWO (ltOf (TV.cf (l:=l) (I:=I) (L:=L))) where
 irrefl x:=by rw[Ma,Cg];rfl
 trans x y z h1 h2:=by
  rw[Ma,decide_eq_true_eq]at *;have a1:=CB x.r y.r;have a2:=CB y.r z.r;have:=CJ (a:=x.r) (b:=y.r) (c:=z.r) (by omega) (by omega);omega
 ntrans x y z h1 h2:=by
  rw[Ma,decide_eq_false_iff_not]at *;have b1:=Bv x.r y.r;have b2:=Bv y.r z.r;have b3:=Bv x.r z.r;have h3:=Ii z.r y.r x.r (by simp only[leR,decide_eq_true_eq];omega) (by simp only[leR,decide_eq_true_eq];omega);simp only[leR,decide_eq_true_eq]at h3;omega
theorem TV.rep (x:TV l I L):Rep I L (reAV x.r) (.agg x.vs.toArray):=by
 obtain⟨r,_,vs,h1,h2⟩:=x;refine .agg (reC r) vs.toArray (by simp[h1,AK]) (fun i hi=>?_) (fun i y hy=>?_)
 ·have hi':i<(reC r).length:=by rw[AK];simpa [h1] using hi
  obtain⟨v,e1,e2,_⟩:=h2 i _ (getElem?_eq_getElem hi');have:vs.toArray.getD i undef=v:=by simp[Array.getD_eq_getD_getElem?,e1]
  rw[this];exact e2
 ·obtain⟨v,e1,_,e3⟩:=h2 i y hy;have:vs.toArray.getD i undef=v:=by simp[Array.getD_eq_getD_getElem?,e1]
  rw[this];exact e3
theorem Gd (r:Re):AV.under 0 (reAV r)=true:=by
 have:=AD 0 [reAV r] (by simp only[AV.plainL,AV.plain,AO,Bool.and_self])
 simpa [AV.underL] using this
theorem JT {id n:Nat} (hr:getRow H id=some (8,l.map reAV,0)) (hn:n=l.length) (hlt:n<4611686018427387904)
  (hcmp:∀ x∈l,∀ y∈l,∃ K,CallSound Pg 112 [reAV x,reAV y] [] (.int .i64 (cmpR x y)) K) :
  CallSound Pg 111 [.ms id 8 n 0 n,.clo 112 []] H (.tup []) (H.set id (.row 8 ((sortR l).map reAV) 0)):=by
 subst hn;refine⟨fun vs w=>Se vs w,fun B0 w0 w I L vs hinv hargs=>?_⟩;obtain⟨hsz,hat⟩:=hargs;have r0:=hat 0 _ rfl;have r1:=hat 1 _ rfl;simp at hsz;have hvs:vs = #[vs.getD 0 undef,vs.getD 1 undef]:=by
  apply Array.ext (by simpa using hsz);intro i h1 h2
  match i with
  | 0=>simp[Array.getD,show 0<vs.size by omega]
  | 1=>simp[Array.getD,show 1<vs.size by omega]
  | k+2=>simp at h2;omega
 obtain⟨q,hl,hb⟩:=hinv.row hr;have hm:=BF hr;have htot:q.tot=l.length:=by rw[hb.ht,length_map]
 generalize hv0:vs.getD 0 undef=v0 at *;generalize hv1:vs.getD 1 undef=v1 at *;subst hvs;have e1:v1=.func (.func 112) #[] #[]:=by
  generalize ha:AV.clo 112 []=a at r1;cases r1 with
  | clo f cs ws hn hR=>
    simp at ha;obtain⟨rfl,rfl⟩:=ha;have:ws = #[]:=by apply Array.ext (by simpa using hn);intro i h1 h2;simp at h2
    rw[this]
  | _=>cases ha
 subst e1;by_cases hnz:l.length=0
 ·have hle:l=[]:=length_eq_zero_iff.1 hnz;subst hle;have e0:∃ p c,v0=.slice p 0 c:=by
   generalize ha:AV.ms id 8 ([]:List Re).length 0 ([]:List Re).length=a at r0;cases r0 with
   | ms id' k tot off len l' b o c hL ht hk hl' hc hv=>
     simp at ha;obtain⟨_,_,_,_,rfl⟩:=ha;exact⟨_,_,rfl⟩
   | msn id' k l' hL hk=>exact⟨_,_,rfl⟩
   | _=>cases ha
  obtain⟨p,c,rfl⟩:=e0;refine(AnyF.slices_SortFunc_none Tryz.sortR p c _ w).mono ?_;rintro e w' ⟨rfl,rfl⟩;have hs:H.set id (.row 8 ((sortR []).map reAV) 0)=H:=by
   rw[show sortR []=[] from length_eq_zero_iff.1 (by rw[C8];rfl)];apply ext_getElem?;intro q;by_cases e:id=q
   ·subst e;rw[List.getElem?_set_self (List.getElem?_eq_some_iff.1 hm).1,hm]
   ·rw[List.getElem?_set_ne e]
  rw[hs];exact⟨_,I,L,rfl,hinv,Ext.refl _ _,.tup [] #[] rfl (fun i y h=>by simp at h)⟩
 have hpos:0<l.length:=Nat.pos_of_ne_zero hnz;have e0:∃ c,v0=.slice (some ⟨q.b,q.o,none⟩) l.length c/\q.sh=0/\q.o+l.length*8<=q.n:=by
  generalize ha:AV.ms id 8 l.length 0 l.length=a at r0;cases r0 with
  | ms id' k tot off len l' b o c hL ht hk hl' hc hv=>
    simp at ha;obtain⟨rfl,rfl,rfl,rfl,rfl⟩:=ha;rw[hl]at hL;obtain rfl:=Option.some.inj hL;obtain⟨s1,s2,s3,s4,s5⟩:=hv htot.symm;have hsh:q.sh=0:=by omega
    have s6:=s3 (by omega);refine⟨c,?_,hsh,?_⟩
    ·rw[s2,s6,hsh];simp
    ·have:=hb.fit;rw[hsh]at this;simpa using this
  | msn id' k l' hL hk=>
    simp at ha;obtain⟨_,_,h0⟩:=ha;exact absurd (by rw[h0];rfl:l.length=0) hnz
  | _=>cases ha
 obtain⟨c,rfl,hsh,hfit⟩:=e0;have hn0:q.n≠0:=by omega
 obtain⟨bs,T,hcs,hcsz,hcell,hfz⟩:=hb.blk hn0;have hval:∀ i,i<l.length->∃ x:TV l I L,l[i]?=some x.r/\∀ j,j<8->bs[q.o+i*8+j]?=some (x.vs[j]!):=fun i hi=>by
  have hx:(l.map reAV)[i]?=some (reAV l[i]):=by simp[hi]
  have hc:∀ j y,(reC l[i])[j]?=some y->∃ v,bs[q.o+i*8+j]?=some v/\scal v=true/\Rep I L y v:=fun j y hy=>by
   have:=hcell i j _ y hx hy (by rw[hsh];exact zero_le _)
   rwa [hsh,Nat.sub_zero]at this
  refine⟨⟨l[i],List.getElem_mem hi,(List.range 8).map fun j=>(bs[q.o+i*8+j]?).getD undef,by simp,fun j y hy=>?_⟩,by simp[hi],fun j hj=>?_⟩
  ·obtain⟨v,a1,a2,a3⟩:=hc j y hy;have hj:j<8:=by have:=(List.getElem?_eq_some_iff.1 hy).1;rwa [AK]at this
   refine⟨v,?_,a2,a3⟩;simp[hj,a1]
  ·have hj':j<(reC l[i]).length:=by rw[AK];exact hj
   obtain⟨v,a1,_,_⟩:=hc j _ (getElem?_eq_getElem hj');simp[hj,a1]
 obtain⟨x0,_⟩:=hval 0 hpos
 let inh:Inhabited (TV l I L):=⟨x0⟩
 let D:List (TV l I L):=(List.range l.length).map fun i=>if h:i<l.length then(hval i h).choose else x0
 have hDl:D.length=l.length:=by simp[D]
 have hDi:∀ i (h:i<l.length),D[i]?=some ((hval i h).choose):=fun i h=>by simp[D,h]
 have hDm:D.map (fun x=>x.r)=l:=by
  apply ext_getElem?;intro i;rw[List.getElem?_map];by_cases h:i<l.length
  ·rw[hDi i h,Option.map_some];exact((hval i h).choose_spec.1).symm
  ·rw[List.getElem?_eq_none (by omega),List.getElem?_eq_none (by omega)];rfl
 have hrows:∀(dk:Array (TV l I L)) (os:Array Obj) (m:Nat),dk.size=l.length ->
   Inv B0 w0 I (H.set id (.row 8 ((dk.toList.map (fun x=>x.r)).map reAV) 0)) L (sortWorldK (fun x:TV l I L=>x.vs) 8 w q.b q.o m dk os):=by
  intro dk os m hdk;have hrow:putRowK (fun x:TV l I L=>x.vs) 8 (Sort.ahead w m) q.b q.o dk=Sort.ahead (w.setRow q.b (putCells (fun v:Value=>v) q.o (flatK (fun x:TV l I L=>x.vs) 8 dk) bs)) m:=by
   unfold putRowK putRow;rw[FH (Sort.ahead w m) q.b _ (cs:=bs) (T:=T) (fr:=(0,0)) hcs];rfl
  have hself:L.set id q=L:=by
   apply ext_getElem?;intro k;by_cases hk:id=k
   ·subst hk;rw[List.getElem?_set_self (List.getElem?_eq_some_iff.1 hl).1,hl]
   ·rw[List.getElem?_set_ne hk]
  unfold sortWorldK;rw[hrow]
  obtain⟨hi2,hx⟩:=hinv.write hm hl hn0 ((dk.toList.map (fun x=>x.r)).map reAV) q (putCells (fun v:Value=>v) q.o (flatK (fun x:TV l I L=>x.vs) 8 dk) bs) hcs (by simp[putCells])
   hb.hk (by rw[htot];simp[hdk]) rfl rfl rfl rfl (by simp[hdk]) (fun x hx=>by
    obtain⟨y,_,rfl⟩:=mem_map.1 hx;exact AK y) (by simp[hdk,hsh];exact hfit) (fun c hc=>by
    simp only[putCells,Array.getElem?_mapIdx];cases bs[c]? with
    | none=>rfl
    | some y=>rw[Option.map_some,if_neg (by simp at hc;omega)]) (fun i j x y h1 h2 h3=>by
    have hi:i<l.length:=by
     have:=(List.getElem?_eq_some_iff.1 h1).1
     simpa [hdk] using this
    have hx:x=reAV (dk[i]!).r:=by
     rw[List.map_map,List.getElem?_map,Option.map_eq_some_iff]at h1;obtain⟨a,e1,e2⟩:=h1;rw[Array.getElem?_toList]at e1;rw[<- e2,getElem!_pos _ i (by omega)];rw[Array.getElem?_eq_getElem (by omega)]at e1;rw[Option.some.inj e1];rfl
    subst hx;have hj:j<8:=by
     have:=(List.getElem?_eq_some_iff.1 h2).1
     rwa [show (reAV (dk[i]!).r).cells=reC (dk[i]!).r from rfl,AK]at this
    have hij:i*8+j<l.length*8:=by omega
    have hlt2:q.o+(i*8+j)<bs.size:=by omega
    obtain⟨v,c1,c2,c3⟩:=(dk[i]!).at_ j y h2;refine⟨v,?_,c2,by rw[hself];exact c3⟩;rw[hsh,show q.o+(i-0)*8+j=q.o+(i*8+j) by rw[Nat.sub_zero];omega];simp only[putCells,Array.getElem?_mapIdx,Array.getElem?_eq_getElem hlt2,Option.map_some];rw[if_pos ⟨by omega,by simp[hdk];omega⟩,show q.o+(i*8+j)-q.o=i*8+j by omega];rw[get_flatK _ _ _ _ (by rw[hdk];exact hij)];have h1:(i*8+j) / 8=i:=by omega
    have h2:(i*8+j) % 8=j:=by omega
    rw[h1,h2,getElem!_pos _ j (by rw[(dk[i]!).len];exact hj)];rw[getElem?_eq_getElem (by rw[(dk[i]!).len];exact hj)]at c1;exact c1)
  rw[hself]at hi2;refine hi2.same ?_ ?_ ?_
  ·refine hi2.below.step ⟨rfl,rfl,rfl,by simp[grow],fun k hk=>?_⟩ (by simp[grow,Sort.ahead]);have:=hi2.base;simp only[grow,heap_ahead];rw[Array.getElem?_append_left (by omega)]
  ·have:=hi2.base;simp only[grow,heap_ahead,Array.size_append];omega
  ·intro b hb;simp only[grow,heap_ahead];rw[Array.getElem?_append_left hb]
 have hH:HoldsK (fun x:TV l I L=>x.vs) 8 w q.b q.o D.toArray:=by
  intro t ht;simp only[size_flatK,List.size_toArray,hDl]at ht;have hdiv:t / 8<l.length:=by omega
  obtain⟨a1,a2⟩:=(hval (t / 8) hdiv).choose_spec;have a3:=a2 (t % 8) (by omega);refine⟨?_,?_⟩
  ·rw[World.cell_of_heap hcs,get_flatK _ _ _ _ (by simpa [hDl] using ht)];have hg:D.toArray[t / 8]! = (hval (t / 8) hdiv).choose:=by
    rw[getElem!_pos _ _ (by simpa [hDl] using hdiv)];have:=hDi _ hdiv;rw[getElem?_eq_getElem (by omega)]at this
    simpa using Option.some.inj this
   rw[hg];show _=some _;rw[id_eq,<- a3];congr 1;omega
  ·simp[World.frozen?,hcs]
 have hcall:=Rr (TV l I L) inh (fun x=>x.vs) (fun x=>x.len) (fun x v hv=>by
  obtain⟨j,hj,rfl⟩:=List.mem_iff_getElem.1 hv;have hj':j<(reC x.r).length:=by rw[AK,<- x.len];exact hj
  obtain⟨v,a1,a2,_⟩:=x.at_ j _ (getElem?_eq_getElem hj');rw[getElem?_eq_getElem hj]at a1;rw[Option.some.inj a1];exact a2) TV.cf swoR 112 #[] q.b q.o c D.toArray w Sd (fun m os dk hdk x y=>by
  have hdk':dk.size=l.length:=by rw[hdk];simp[hDl]
  have hW:=hrows dk os m hdk';obtain⟨K,c1,c2⟩:=hcmp x.r x.mem y.r y.mem;have rx:=hW.all x.rep (Gd x.r);have ry:=hW.all y.rep (Gd y.r);have hcap:RepL (allIn (sortWorldK (fun x:TV l I L=>x.vs) 8 w q.b q.o m dk os)) [] [reAV x.r,reAV y.r] (#[wrapV 8 x.vs,wrapV 8 y.vs]++#[]):=by
   refine⟨by simp,fun i z hz=>?_⟩
   match i,hz with
   | 0,hz=>simp at hz;subst hz;exact rx
   | 1,hz=>simp at hz;subst hz;exact ry
   | i+2,hz=>simp at hz
  refine(c2 _ _ _ _ [] _ (Hs _) hcap).mono ?_;rintro e w' ⟨v,I',L',rfl,j1,j2,j3⟩;refine⟨?_,PE j1.below⟩;generalize hq:AV.int .i64 (cmpR x.r y.r)=q at j3;cases j3 with
  | int k n=>simp at hq;obtain⟨rfl,rfl⟩:=hq;rfl
  | _=>cases hq) hH (Array.getElem?_eq_some_iff.1 hcs).1 (by simpa [hDl] using hlt)
 have hDs:D.toArray.size=l.length:=by simp[hDl]
 rw[hDs]at hcall;refine hcall.mono ?_;rintro e w' ⟨rfl,n,os,rfl⟩;obtain⟨hS1,hS2⟩:=pdq_sorts (ltOf (TV.cf (l:=l) (I:=I) (L:=L))) swoR D.toArray 0 D.toArray.size (Lib.bitLen D.toArray.size) true true (zero_le _) (le_refl _) (Or.inl rfl);rw[hDs]at hS1 hS2;generalize pdq (ltOf (TV.cf (l:=l) (I:=I) (L:=L))) D.toArray 0 l.length (Lib.bitLen l.length) true true=S at *;obtain⟨p1,_,p3⟩:=hS1;rw[hDs]at p1;have p3':S.toList.Perm D:=by
  have e1:S.extract 0 l.length=S:=by rw[<- p1];exact Array.extract_size
  have e2:D.toArray.extract 0 l.length=D.toArray:=by rw[<- hDs];exact Array.extract_size
  rw[e1,e2]at p3
  simpa using p3
 have hsort:S.toList.map (fun x=>x.r)=sortR l:=by
  refine IN ?_ (Ek l) ?_
  ·rw[List.pairwise_map,List.pairwise_iff_getElem];intro i j hi hj hij;have hi':i<S.size:=by simpa using hi
   have hj':j<S.size:=by simpa using hj
   have h3:=hS2 i j (zero_le _) hij (by omega);rw[getElem!_pos _ i hi',getElem!_pos _ j hj',Ma,decide_eq_false_iff_not]at h3;have:=Bv S[j].r S[i].r;simp only[Array.getElem_toList];omega
  ·have:=p3'.map (fun x=>x.r);rw[hDm]at this;exact this.trans (DL l).symm
 have:=hrows S os n p1;rw[hsort]at this;exact⟨_,I,L,rfl,this,Ext.refl _ _,.tup [] #[] rfl (fun i y h=>by simp at h)⟩
end Go.Ev
namespace Go.Ev
open Go.Proofs Go.Shelf Go.RowKit Go.Lib Go.Sort
theorem eg76:∀ args w,(callFunc 76 args).run Tryz.prog w=.ok (.enter 76 args) w:=enters_of Tryz.func76 (by kernel_rfl) rfl
theorem eg77:∀ args w,(callFunc 77 args).run Tryz.prog w=.ok (.enter 77 args) w:=enters_of Tryz.func77 (by kernel_rfl) rfl
theorem Sc:∀ args w,(callFunc 128 args).run Tryz.prog w=.ok (.enter 128 args) w:=enters_of Tryz.func128 (by kernel_rfl) rfl
theorem Sb:∀ args w,(callFunc 129 args).run Tryz.prog w=.ok (.enter 129 args) w:=enters_of Tryz.func129 (by kernel_rfl) rfl
theorem JS {args:List AV}{H H':List MB}{r:AV} (h:sort2Ext Sml 77 srtE args H=some (r,H')):CallSound Tryz.prog 76 args H r H':=by
 refine Fm Sml FB eg76 (fun p cap fv w=>AnyF.slices_SortFunc_none Tryz.sortL p cap fv w) (fun blk off cap d w hH hblk hsz=>?_) h
 exact AnyQ.slices_SortFunc_eq Tryz.sortL 2 Tryz.isAgg93 Tryz.sizeOf93 Sml.enc (fun _=>rfl) (fun x v hv=>by simp[El.enc,enc2]at hv;rcases hv with rfl|rfl<;>rfl) cfE swoE 77 #[] blk off cap d w eg77
  (fun _ _ _ _ x y=>Nu x y _) hH hblk hsz
theorem Hy {args:List AV}{H H':List MB}{r:AV} (h:sort2Ext Sml 129 srtE args H=some (r,H')):CallSound Tryz.prog 128 args H r H':=by
 refine Fm Sml FB Sc (fun p cap fv w=>AnyF.slices_SortFunc_none Tryz.sortM p cap fv w) (fun blk off cap d w hH hblk hsz=>?_) h
 exact AnyQ.slices_SortFunc_eq Tryz.sortM 2 Tryz.isAgg73 Tryz.sizeOf73 Sml.enc (fun _=>rfl) (fun x v hv=>by simp[El.enc,enc2]at hv;rcases hv with rfl|rfl<;>rfl) cfE swoE 129 #[] blk off cap d w Sb
  (fun _ _ _ _ x y=>MA x y _) hH hblk hsz
end Go.Ev
namespace Go.Ev
open Go.Proofs Go.RowKit
theorem Nc {f:Nat}{g:List AV->List MB->Option (AV×List MB)} (hg:pol1.ext f=some g):(f=78/\g=cloneExt 2 16)∨(f=76/\g=sort2Ext Sml 77 srtE)∨(f=128/\g=sort2Ext Sml 129 srtE)∨(f=111/\g=extSort):=by
 have e:pol1.ext f=if f=78 then some (cloneExt 2 16) else if f=76 then some (sort2Ext Sml 77 srtE) else if f=128 then some (sort2Ext Sml 129 srtE) else if f=111 then some extSort else none:=rfl
 rw[e]at hg;by_cases h:f=78
 ·rw[if_pos h]at hg;exact(.inl ⟨h,(Option.some.inj hg).symm⟩)
 rw[if_neg h]at hg;clear h;by_cases h:f=76
 ·rw[if_pos h]at hg;exact(.inr (.inl ⟨h,(Option.some.inj hg).symm⟩))
 rw[if_neg h]at hg;clear h;by_cases h:f=128
 ·rw[if_pos h]at hg;exact(.inr (.inr (.inl ⟨h,(Option.some.inj hg).symm⟩)))
 rw[if_neg h]at hg;clear h;by_cases h:f=111
 ·rw[if_pos h]at hg;exact(.inr (.inr (.inr ⟨h,(Option.some.inj hg).symm⟩)))
 rw[if_neg h]at hg;clear h;cases hg
theorem ext1:ExtOk Pg pol1:=by
 intro f g hg args H r H' h;rcases Nc hg with ⟨rfl,rfl⟩|⟨rfl,rfl⟩|⟨rfl,rfl⟩|⟨rfl,rfl⟩
 ·exact K7 (T:=23) (B:=4) (e:=73) (k:=2) (by_:=16) (ze:=.agg [.int .i64 0,.int .i64 0])
   Tryz.func78 rfl rfl rfl rfl (by kernel_rfl) (by kernel_rfl) (by omega) (by kernel_rfl) (by kernel_rfl) rfl rfl h
 ·exact JS h
 ·exact Hy h
 ·exact H5 h
theorem PL:Pg.follows .mixedOrders=true:=by kernel_rfl
theorem ok1:CfOk Pg (call Pg pol1):=Q7 ext1 PL
end Go.Ev
namespace Go.Ev
attribute [local go_sem] evBin AV.cells Ax A8 bndO bnd evEq eqCells not_false_eq_true not_true_eq_false toList_some Array.size_empty length_append tySzE List.head?_drop Nat.mul_one Aj Aq Ag Ak Al Ae
section
attribute [local go_sem] evAppend map_append
theorem d111 (l:List Re) {H:List MB}{id n:Nat} (hr:getRow H id=some (8,l.map reAV,0)) (hn:n=l.length) (hw:Re.wtL l<=1000000000) :
  call Pg pol1 111 [.ms id 8 n 0 n,.clo 112 []] H=some (.tup [],H.set id (.row 8 ((sortR l).map reAV) 0)):=by
 rw[BR];unfold evStep;rw[if_neg (show ¬ pol1.pure 111=true by decide)];have hll:=Re.wtL_len l;exact Lw hr hn (JT hr hn (by omega) fun x hx y hy=>⟨[],ok1.1 112 _ _ _ _ (by decide) (d112 x y (by have:=Re.wtL_mem hx;omega) [])⟩)
end
section
attribute [local go_sem] evAppend map_append
def norA (s:List (Int×Int)):AV:=if 64<(normL s).length then .tup [.sl false [],I 4] else .tup [.sl false ((normL s).map spanAV),I 0]
theorem CG:normL []=[]:=by
 have:=(Cl (s:=[]) (fun p hp=>by cases hp)).2.2;exact length_eq_zero_iff.1 (by simpa using this)
theorem d110 (s:List (Int×Int)) (hg:∀ p∈s,goodS p) (hl:s.length<=400000000) (H:List MB):call Pg pol1 110 [.sl false (s.map spanAV)] H=some (norA s,H):=by
 rcases Nat.eq_zero_or_pos s.length with h0|h0
 ·obtain rfl:s=[]:=length_eq_zero_iff.1 h0;have e:norA []=.tup [.sl false [],I 0]:=by unfold norA;rw[CG];rfl
  rw[e];have h78:call Pg pol1 78 [.sl false []] []=some (.sl false [],[]):=by
   rw[BR];unfold evStep;rw[if_neg (show ¬ pol1.pure 78=true by decide)];have hx:cloneExt 2 16 [.sl false []] []=some (.sl false [],[]):=by
    simp only[cloneExt,elemsOf];rw[if_pos ⟨rfl,Ae (by simp) (by omega),rfl⟩]
   exact hx
  have h128:call Pg pol1 128 [.sl false [],.clo 129 []] []=some (.tup [],[]):=by
   rw[BR];unfold evStep;rw[if_neg (show ¬ pol1.pure 128=true by decide)];have hx:sort2Ext Sml 129 srtE [.sl false [],.clo 129 []] []=some (.tup [],[]):=rfl;exact hx
  have h130:=RV;have h168:call Pg pol1 130 [.ms 0 2 0 0 0] [.row 2 [] 0]=some (.tup [.sl false [],I 0],[.row 2 [] 0]):=by
   rw[BB (P:=Pg) (pol:=pol1) (f:=130) (l:=[.sl false []]) (H1:=[.row 2 [] 0]) rfl rfl rfl];exact f168 [] (by simp) _
  refine AR Tryz.func110 rfl rfl rfl rfl rfl rfl (fun _=>rfl) rfl rfl ?_ H;simp +contextual (disch:=omega) only[Tryz.f110,E7,go_sem,simprocAttr,Ey,↓AE,↓AC,↓AB,↓AA];refine AY (M:=(mskOf (pol1.mask 110) (pol1.gc 110) (pol1.acts 110) 0 2)) rfl 0 (fun i=>(⟨38,[(12,I i),(11,I 0),(10,.sl false []),(0,.sl false [])],[]⟩:St)) (fun i=>True) ?_ ?_ trivial _ (by first|rfl|(refine AN rfl (by rfl) (by rfl) (by rfl) ?_ ?_<;>simp[AV.underL,AV.under,MB.under,AD,AI,AG,AF,AL,AM,-map_take]))
  ·intro i hi;omega
  ·intro _;simp +contextual (disch:=omega) only[Tryz.f110,E7,go_sem,simprocAttr,Ey,↓AE,↓AC,↓AB,↓AA,h78,h128];refine AY (M:=(mskOf (pol1.mask 110) (pol1.gc 110) (pol1.acts 110) 0 11)) rfl 0 (fun i=>(⟨38,[(26,I i),(25,I 0),(24,.sl false []),(7,.ms 0 2 0 0 0)],[.row 2 [] 0]⟩:St)) (fun i=>True) ?_ ?_ trivial _ ?_
   ·intro i hi;omega
   ·intro _;simp +contextual (disch:=omega) only[Tryz.f110,E7,go_sem,simprocAttr,Ey,↓AE,↓AC,↓AB,↓AA,h168];exact fzEq rfl rfl
   ·exact(by first|rfl|(refine AN rfl (by rfl) (by rfl) (by rfl) ?_ ?_<;>simp[AV.underL,AV.under,MB.under,AD,AI,AG,AF,AL,AM,-map_take]))
 ·exact f115 s hg h0 hl H
end
section
section
variable {H:List MB}
theorem gA (l:List MB) (k:Nat):(H++l)[H.length+k]?=l[k]?:=by
 rw[List.getElem?_append_right (by omega)];congr 1;omega
theorem gA0 (l:List MB):(H++l)[H.length]?=l[0]?:=gA l 0
theorem sA (l:List MB) (k:Nat) (b:MB):(H++l).set (H.length+k) b=H++l.set k b:=by
 rw[List.set_append_right _ _ (by omega)];congr 2;omega
theorem sA0 (l:List MB) (b:MB):(H++l).set H.length b=H++l.set 0 b:=sA l 0 b
end
theorem BL {m:Msk}{H l l':List MB}{c k:Nat}{t t':Tm} (hz:m.acts=[]) (hg:m.gc=some (H.length+c)) (hc:keepT m.k t=t') (he:l.take c=l') (ht:AV.underL (H.length+c) (t'.map (·.2))=true) (hH:HP H) (hl:HP l') :
  prep m ⟨k,t,H++l⟩=⟨k,t',H++l'⟩:=by
 refine AN hz hg hc ?_ ht ?_
 ·rw[List.take_length_add_append,he]
 ·rw[List.all_append,hH.all,hl.all];rfl
theorem HP.app {H K:List MB} (h:HP H) (k:HP K):HP (H++K):=fun b hb=>by
 rcases List.mem_append.1 hb with g|g
 ·exact h b g
 ·exact k b g
theorem OI:∀ {l m:List Re},l.Perm m->Re.wtL l=Re.wtL m:=fun h=>by
 induction h with
 | nil=>rfl
 | cons x _ ih=>simp only[Re.wtL,ih]
 | swap x y l=>simp only[Re.wtL];omega
 | trans _ _ h1 h2=>exact h1.trans h2
theorem Ko {y y':AV}:∀ {l:List Re}{G:List MB},(∀ G,fz y G=some (y',G))->fzs (l.map reAV++[y]) G=some (l.map reAV++[y'],G)
 | [],G,h=>by
   have:=h G;unfold fz at this;simp only[map_nil,nil_append,fzs,fzL,this]
 | x::l,G,h=>by
   have ih:=Ko (l:=l) (G:=G) h;have hx:=Ac G (AU x);unfold fzs at ih;unfold fz at hx;simp only[map_cons,cons_append,fzs,fzL,hx,ih]
theorem Bb (n:Nat) {b:MB} (hb:MB.under n b=true) (K:List MB):∀(H:List MB) (i:Nat),keptOk n H (H.set i b++K)=true
 | [],i=>by cases K<;>rfl
 | x::H,0=>by
   have:=BO n K H;simp[keptOk,hb,this]
 | x::H,i+1=>by
   have:=Bb n hb K H i;simp[keptOk,MB.beq_refl,this]
theorem Mz {H:List MB}{i n z:Nat}{rs xs:List (Int×Int)}{t:Bool} (hi:getRow H i=some (2,rs.map spanAV,z)) (hz:z<=n) (hn:rs.length=n) (hr:n+xs.length<=4000000000) :
  evAppend Pg H 23 23 (.ms i 2 n 0 n) (.sl t (xs.map spanAV))=some (.ms i 2 (n+xs.length) 0 (n+xs.length),H.set i (.row 2 ((rs++xs).map spanAV) z)):=by
 have hs:srcElems Pg H 73 (.sl t (xs.map spanAV))=some (xs.map spanAV):=rfl;have ha:((xs.map spanAV).all fun y=>decide (y.cells.length=2)&&y.cells.all AV.ok)=true:=by
  rw[List.all_eq_true];intro y hy;obtain⟨i,_,rfl⟩:=mem_map.1 hy;rfl
 rw[Ai (e:=73) (by kernel_rfl) (by kernel_rfl) (k:=2) (by kernel_rfl) (by_:=16) (by kernel_rfl) (ze:=.agg [I 0,I 0]) (by kernel_rfl) rfl (by omega) hs ha hi (by rw[length_map];exact hn) hz (Ae (by simp;omega) (by omega))];rw[map_append,length_map]
abbrev frmB (b:Bool):MB:=.row 1 [.agg [.bool b]] 0
theorem d80 (kids:List Re) {H:List MB}{fid:Nat}{b:Bool} (hf:H[fid]?=some (frmB b)) (hH:HP H) (hw:Re.wtL kids<=400000000) (hg:∀ k∈kids,gsR k) :
  call Pg pol1 80 [.rf fid 1 0 0,.sl false (kids.map reAV)] H=some (reAV (altR (flatR 3 kids)),H.set fid (frmB (b||altBad (flatR 3 kids)))):=by
 have hfid:=(List.getElem?_eq_some_iff.1 hf).1;have hfr:frzArgs pol1 80 0 [.rf fid 1 0 0,.sl false (kids.map reAV)] H=some ([.rf fid 1 0 0,.sl false (kids.map reAV)],H):=AT _ _ _ (by simp[mixOk,show pol1.byref 80 0=true from rfl,AV.plain,AV.plainL,AH]);have h107:=d107 3 kids (by omega);have hgf:=E4 (op:=3) hg;have hwf:=B9 3 kids;refine AX (pol:=pol1) Tryz.func80 rfl rfl rfl rfl hfr ?_;generalize flatR 3 kids=F at *;have hFl:=Re.wtL_len F;have g1:=@gA H;have g2:=@gA0 H;have g3:=@sA H;have g4:=@sA0 H;simp +contextual (disch:=omega) only[Tryz.f80,dd80,go_sem,simprocAttr,evAppend,map_append,mu80,↓AE,↓AC,↓AB,↓AA,h107,append_assoc,cons_append,nil_append,g1,g2,g3,g4];have hO:∀ i,(othersOf (F.take i)).length<=400000000:=fun i=>by
  have h1:=List.length_filter_le (fun k:Re=>!decide (k.op=1)) (F.take i);have h2:=List.length_take_le i F;unfold othersOf;have h3:(F.take i).length<=F.length:=by rw[List.length_take];omega
  omega
 have hS:∀ i,(spansOf (F.take i)).length<=400000000:=fun i=>by
  have h1:=Dx (F.take i);have h3:Re.wtL (F.take i)<=Re.wtL F:=by
   conv=>rhs;rw[<- List.take_append_drop i F,Re.wtL_app]
   omega
  by_cases h:spansOf (F.take i)=[]
  ·rw[h];simp
  ·rw[if_neg h]at h1;omega
 refine AY (M:=mskOf (pol1.mask 80) (pol1.gc 80) (pol1.acts 80) H.length 4) (by rfl) F.length (fun i=>(⟨61,[(14,I i),(13,I F.length),(12,.ms (H.length+3) 8 F.length 0 F.length),(6,.ms (H.length+2) 2 (spansOf (F.take i)).length 0 (spansOf (F.take i)).length),(5,.ms (H.length+1) 8 (othersOf (F.take i)).length 0 (othersOf (F.take i)).length),(4,.rf H.length 1 0 0),(0,.rf fid 1 0 0)],
  H++[.row 8 [zeR] 0,.row 8 ((othersOf (F.take i)).map reAV) 0,.row 2 ((spansOf (F.take i)).map spanAV) 0,.row 8 (F.map reAV) 0]⟩:St)) (fun _=>True) ?_ ?_ trivial _ ?_
 ·intro i hi _;obtain⟨k,hk⟩:∃ k,F[i]?=some k:=⟨_,getElem?_eq_getElem hi⟩;have hk':=At hk;have hlt:(i:Int)<(F.length:Int):=by omega
  have o1:=hO i;have o2:=hO (i+1);have s1:=hS i;have s2:=hS (i+1);have hot:=EE hk;have hst:=Ei hk;rw[hot]at o2 |-;rw[hst]at s2 |-;have hlenF:(F.map reAV).length=F.length:=by simp
  have hpF:=AH F;generalize F.map reAV=E at *;generalize othersOf (F.take i)=X at *;generalize spansOf (F.take i)=Y at *;obtain⟨kop,set,ks,mn,mx,md,n,neg⟩:=k;have e8:reAV (.mk kop set ks mn mx md n neg)=.agg (nodeL kop set ks mn mx md n neg):=congrArg AV.agg Ab;rw[show (Re.mk kop set ks mn mx md n neg).op=kop from rfl,show (Re.mk kop set ks mn mx md n neg).set=set from rfl]at *;rw[e8]at hk';by_cases hop:kop=1
  ·subst hop;simp only[if_true,append_nil]at o2 s2 |-;rw[length_append]at s2;have a1:=fun b0 b1 (K:List MB)=>Mz (H:=H++(b0::b1::.row 2 (Y.map spanAV) 0::K)) (i:=H.length+2) (n:=Y.length) (xs:=set) (t:=false) (rs:=Y) (z:=0) (by unfold getRow;rw[gA];rfl) (zero_le _) rfl (by omega);simp only[sA,List.set_cons_succ,List.set_cons_zero]at a1;simp +contextual (disch:=omega) only[Tryz.f80,dd80,go_sem,simprocAttr,mu80,↓AE,↓AC,↓AB,↓AA,hk',hlt,append_assoc,cons_append,nil_append,g1,g2,g3,g4,a1,hlenF];exact BL rfl rfl (by rfl) rfl (by simp[AV.underL,AV.under];omega) hH ((((HP.nil.cons (Aa hpF)).cons (Aa (AF _))).cons (Aa (AH _))).cons fun _=>rfl)
  ·simp only[if_neg hop,append_nil]at o2 s2 |-;rw[length_append]at o2;have a1:=fun b0 (K:List MB)=>BY (H:=H++(b0::.row 8 (X.map reAV) 0::K)) (i:=H.length+1) (n:=X.length) (x:=.mk kop set ks mn mx md n neg) (t:=true) (rs:=X) (z:=0) (by unfold getRow;rw[gA];rfl) (zero_le _) rfl (by simp at o2;omega);simp only[sA,List.set_cons_succ,List.set_cons_zero,e8]at a1;simp +contextual (disch:=omega) only[Tryz.f80,dd80,go_sem,simprocAttr,mu80,↓AE,↓AC,↓AB,↓AA,hk',hlt,append_assoc,cons_append,nil_append,g1,g2,g3,g4,a1,hlenF,hop];exact BL rfl rfl (by rfl) rfl (by simp[AV.underL,AV.under];omega) hH ((((HP.nil.cons (Aa hpF)).cons (Aa (AF _))).cons (Aa (AH _))).cons fun _=>rfl)
 ·intro _;rw[List.take_length];have hb:altR F=joinR 3 (putAll [] (altL F)) nothR:=rfl;have hbad:altBad F=decide (64<(normL (spansOf F)).length):=rfl;have hLd:altL F=othersOf F++(if altBad F=true∨normL (spansOf F)=[] then [] else [setR (normL (spansOf F))]):=rfl;have hLw:=M1 hgf;have o1:=hO F.length;have s1:=hS F.length;rw[List.take_length]at o1 s1;rw[hb,<- J0];have h110:=d110 (spansOf F) (Cj hgf) s1;have hpF:=AH F;generalize F.map reAV=E at *;generalize othersOf F=X at *;generalize spansOf F=Y at *;have hz:∀ b0 b1 b3:MB,fz (.ms (H.length+2) 2 Y.length 0 Y.length) (H++[b0,b1,.row 2 (Y.map spanAV) 0,b3])=some (.sl false (Y.map spanAV),H++[b0,b1,.row 2 (Y.map spanAV) Y.length,b3]):=fun b0 b1 b3=>by
   have hr:getRow (H++[b0,b1,.row 2 (Y.map spanAV) 0,b3]) (H.length+2)=some (2,Y.map spanAV,0):=by unfold getRow;rw[gA];rfl
   rw[Az hr (by simp) (AF Y)];unfold mark;rw[hr];simp only[sA];simp
  have c110:=fun b0 b1 b3=>(BB (P:=Pg) (pol:=pol1) (f:=110) (args:=[.ms (H.length+2) 2 Y.length 0 Y.length]) (l:=[.sl false (Y.map spanAV)]) (H:=H++[b0,b1,.row 2 (Y.map spanAV) 0,b3]) (H1:=H++[b0,b1,.row 2 (Y.map spanAV) Y.length,b3]) rfl (by
   simp only[frzArgs,show pol1.byref 110 0=false from rfl,Bool.false_eq_true,if_false,hz]) (by simp[AV.plainL,AV.plain,AF])).trans (h110 _)
  have g5:∀ l:List MB,(H++l)[fid]?=some (frmB b):=fun l=>(List.getElem?_append_left hfid).trans hf;have g6:∀(l:List MB) (x:MB),(H++l).set fid x=H.set fid x++l:=fun l x=>List.set_append_left _ _ hfid;have g1':∀(x:MB) (l:List MB) (k:Nat),(H.set fid x++l)[H.length+k]?=l[k]?:=fun x l k=>by
   have:=gA (H:=H.set fid x) l k
   rwa [List.length_set]at this
  have g3':∀(x:MB) (l:List MB) (k:Nat) (y:MB),(H.set fid x++l).set (H.length+k) y=H.set fid x++l.set k y:=fun x l k y=>by
   have:=sA (H:=H.set fid x) l k y
   rwa [List.length_set]at this
  have g2':∀(x:MB) (l:List MB),(H.set fid x++l)[H.length]?=l[0]?:=fun x l=>g1' x l 0;have g4':∀(x:MB) (l:List MB) (y:MB),(H.set fid x++l).set H.length y=H.set fid x++l.set 0 y:=fun x l y=>g3' x l 0 y;have h111:∀(L:List Re) (x b0 b2 b3:MB),Re.wtL L<=1000000000->call Pg pol1 111 [.ms (H.length+1) 8 L.length 0 L.length,.clo 112 []] (H.set fid x++[b0,.row 8 (L.map reAV) 0,b2,b3])=some (.tup [],H.set fid x++[b0,.row 8 ((sortR L).map reAV) 0,b2,b3]):=fun L x b0 b2 b3 hL=>by
   rw[d111 L (by unfold getRow;rw[g1'];rfl) rfl hL,g3'];rfl
  have hx:∀ c:Bool,HP (H.set fid (frmB c)):=fun c=>hH.set rfl;have h113:∀(L:List Re) (c:Bool),Re.wtL L<=1000000000->call Pg pol1 113 [.ms (H.length+1) 8 L.length 0 L.length,.clo 114 []] (H.set fid (frmB c)++[.row 8 [zeR] 0,.row 8 ((sortR L).map reAV) 0,.row 2 (Y.map spanAV) Y.length,.row 8 E 0])=some (.ms (H.length+1) 8 L.length 0 (compactR (sortR L)).length,H.set fid (frmB c)++[.row 8 [zeR] 0,.row 8 ((compactR (sortR L)).map reAV++zerosR (L.length-(compactR (sortR L)).length)) 0,.row 2 (Y.map spanAV) Y.length,.row 8 E 0]):=fun L c hL=>by
   have hsl:=C8 L;have hwp:Re.wtL (sortR L)=Re.wtL L:=OI (DL L);rw[d113 (sortR L) (H:=H.set fid (frmB c)++[.row 8 [zeR] 0,.row 8 ((sortR L).map reAV) 0,.row 2 (Y.map spanAV) Y.length,.row 8 E 0]) (g1' _ _ 1) hsl (by omega) (HP.app (hx c) ((((HP.nil.cons (Aa hpF)).cons (Aa (AF _))).cons (Aa (AH _))).cons fun _=>rfl)),g3'];rfl
  have c90:∀(L C:List Re) (c:Bool),C.length<=L.length->call Pg pol1 90 [I 3,.ms (H.length+1) 8 L.length 0 C.length,reAV nothR] (H.set fid (frmB c)++[.row 8 [zeR] 0,.row 8 (C.map reAV++zerosR (L.length-C.length)) 0,.row 2 (Y.map spanAV) Y.length,.row 8 E 0])=some (reAV (joinR 3 C nothR),H.set fid (frmB c)++[.row 8 [zeR] 0,.row 8 (C.map reAV++zerosR (L.length-C.length)) C.length,.row 2 (Y.map spanAV) Y.length,.row 8 E 0]):=fun L C c hC=>by
   have hr:getRow (H.set fid (frmB c)++[.row 8 [zeR] 0,.row 8 (C.map reAV++zerosR (L.length-C.length)) 0,.row 2 (Y.map spanAV) Y.length,.row 8 E 0]) (H.length+1)=some (8,C.map reAV++zerosR (L.length-C.length),0):=by unfold getRow;rw[g1'];rfl
   have hz:=PG (m:=C.length) (n:=L.length) hr rfl (by simp[zerosR];omega);have hm:mark (H.set fid (frmB c)++[.row 8 [zeR] 0,.row 8 (C.map reAV++zerosR (L.length-C.length)) 0,.row 2 (Y.map spanAV) Y.length,.row 8 E 0]) (H.length+1) C.length=H.set fid (frmB c)++[.row 8 [zeR] 0,.row 8 (C.map reAV++zerosR (L.length-C.length)) C.length,.row 2 (Y.map spanAV) Y.length,.row 8 E 0]:=by
    unfold mark;rw[hr];simp only[g3'];simp
   rw[hm]at hz;rw[BB (P:=Pg) (pol:=pol1) (f:=90) (l:=[I 3,.sl false (C.map reAV),reAV nothR]) (H1:=H.set fid (frmB c)++[.row 8 [zeR] 0,.row 8 (C.map reAV++zerosR (L.length-C.length)) C.length,.row 2 (Y.map spanAV) Y.length,.row 8 E 0]) rfl (by
    simp only[frzArgs,show pol1.byref 90 0=false from rfl,show pol1.byref 90 (0+1)=false from rfl,show pol1.byref 90 (0+1+1)=false from rfl,Bool.false_eq_true,if_false,hz,Ac _ (show AV.plain (I 3)=true from rfl),Ac _ (AU nothR)]) (by simp[AV.plainL,AV.plain,AH,AO])]
   exact d90 3 C nothR _
  have rp:∀(r:Re) (c:Bool) (l:List MB),retPol pol1 80 H (reAV r) (H.set fid (frmB c)++l)=some (reAV r,H.set fid (frmB c)):=fun r c l=>
   Am rfl rfl (AU r) (Bb _ rfl _ _ _) (by rw[List.take_append_of_le_length (by simp),List.take_of_length_le (by simp)])
  rw[hbad];have c110':=c110 (.row 8 [zeR] 0) (.row 8 (X.map reAV) 0) (.row 8 E 0);by_cases cb:64<(normL Y).length
  ·have eN:norA Y=.tup [.sl false [],I 4]:=by unfold norA;rw[if_pos cb]
   have hb1:altBad F=true:=by rw[hbad,decide_eq_true cb]
   have hLX:altL F=X:=by rw[hLd,if_pos (.inl hb1),append_nil]
   rw[hLX]at hLw |-;rw[eN]at c110';rw[decide_eq_true cb,Bool.or_true];have a1:=h111 X (frmB true) (.row 8 [zeR] 0) (.row 2 (Y.map spanAV) Y.length) (.row 8 E 0) (by omega);have a2:=h113 X true (by omega);have hCl:(compactR (sortR X)).length<=X.length:=by rw[<- C8 X];exact Bu _ _ (le_refl _)
   have a3:=c90 X (compactR (sortR X)) true hCl;generalize compactR (sortR X)=C at *;cases b
   all_goals
    simp +contextual (disch:=omega) only[Tryz.f80,dd80,go_sem,simprocAttr,evAppend,map_append,mu80,↓AE,↓AC,↓AB,↓AA,append_assoc,cons_append,nil_append,g1,g2,g3,g4,g5,g6,g1',g2',g3',g4',c110',a1,a2,a3,d91,AK,AJ,AP];exact rp _ _ _
  ·have eN:norA Y=.tup [.sl false ((normL Y).map spanAV),I 0]:=by unfold norA;rw[if_neg cb]
   have hb1:altBad F=false:=by rw[hbad,decide_eq_false cb]
   rw[eN]at c110';rw[decide_eq_false cb,Bool.or_false];rw[hb1]at hLd;by_cases cu:normL Y=[]
   ·have hLX:altL F=X:=by rw[hLd,if_pos (.inr cu),append_nil]
    rw[hLX]at hLw |-;rw[cu]at c110';have a1:=h111 X (frmB b) (.row 8 [zeR] 0) (.row 2 (Y.map spanAV) Y.length) (.row 8 E 0) (by omega);have a2:=h113 X b (by omega);have hCl:(compactR (sortR X)).length<=X.length:=by rw[<- C8 X];exact Bu _ _ (le_refl _)
    have a3:=c90 X (compactR (sortR X)) b hCl;generalize compactR (sortR X)=C at *;simp only[map_nil]at c110';cases b
    all_goals
     simp +contextual (disch:=omega) only[Tryz.f80,dd80,go_sem,simprocAttr,evAppend,map_append,mu80,↓AE,↓AC,↓AB,↓AA,append_assoc,cons_append,nil_append,g1,g2,g3,g4,g5,g6,g1',g2',g3',g4',c110',a1,a2,a3,d91,AK,AJ,AP];exact rp _ _ _
   ·have hLX:altL F=X++[setR (normL Y)]:=by rw[hLd,if_neg (by simp[cu])]
    rw[hLX]at hLw |-;have hul:0<(normL Y).length:=by
     rcases Nat.eq_zero_or_pos (normL Y).length with h|h
     ·exact absurd (length_eq_zero_iff.1 h) cu
     ·exact h
    generalize normL Y=u at *;have a1:=h111 (X++[setR u]) (frmB b) (.row 8 [zeR] 0) (.row 2 (Y.map spanAV) Y.length) (.row 8 E 0) (by omega);have a2:=h113 (X++[setR u]) b (by omega);have hCl:(compactR (sortR (X++[setR u]))).length<=(X++[setR u]).length:=by rw[<- C8 (X++[setR u])];exact Bu _ _ (le_refl _)
    have a3:=c90 (X++[setR u]) (compactR (sortR (X++[setR u]))) b hCl;generalize compactR (sortR (X++[setR u]))=C at *;have htk:(X.map reAV).take X.length=X.map reAV:=List.take_of_length_le (by simp);have hfz:=fun G:List MB=>Ko (l:=X) (y:=.agg [I 1,.sl false (u.map spanAV),.sl true [],I 0,I 0,I 0,I 0,.bool false]) (y':=reAV (setR u)) (G:=G) fun G=>by
     have:=AF u;simp only[fz,fzA,fzL,A9 _ _ _ this];rfl
    simp only[map_append,map_cons,map_nil,length_append,List.length_cons,List.length_nil]at a1 a2 a3;cases b
    all_goals
     simp +contextual (disch:=omega) only[Tryz.f80,dd80,go_sem,simprocAttr,evAppend,map_append,mu80,↓AE,↓AC,↓AB,↓AA,append_assoc,cons_append,nil_append,g1,g2,g3,g4,g5,g6,g1',g2',g3',g4',c110',d91,hul,AK,AJ,AP,htk,hfz,AV.beqL_refl,a1,a2,a3];exact rp _ _ _
 ·rw[show othersOf (F.take 0)=[] from rfl,show spansOf (F.take 0)=[] from rfl];exact BL rfl rfl (by rfl) rfl (by simp[AV.underL,AV.under];omega) hH ((((HP.nil.cons (Aa (AH F))).cons (Aa rfl)).cons (Aa rfl)).cons fun _=>rfl)
end
end Go.Ev
