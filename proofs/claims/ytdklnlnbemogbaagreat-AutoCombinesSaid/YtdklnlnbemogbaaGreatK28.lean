/- What functions of the program compute; no further conditions. -/
import Derived.Test.YtdklnlnbemogbaaGreatK27
set_option linter.unusedVariables false
set_option linter.unusedSimpArgs false
open List (cons_append getElem?_append_right getElem?_drop length_append length_cons length_map map_append map_map map_set map_take mem_map mem_range nil_append set_cons_succ take_of_length_le)
open Bool (false_eq_true)
open Nat (add_zero le_refl sub_self zero_le)
open Go.Proofs Go.RowKit Go.IntWalk
set_option maxHeartbeats 16000000
set_option maxRecDepth 100000
namespace Go.Ev
attribute [local go_sem] evBin AV.cells strOf An As bndO bnd evEq eqCells not_false_eq_true not_true_eq_false toList_some Array.size_empty length_append tySzE List.head?_drop Nat.mul_one Ac Aj Aa Ad Ae AW
section
theorem Sp (a:AutoL) {top:Int} (hg:GoodA a) (hd:DivOk a.cl top) (H:List MB) :
  ∃ x0 x1 x2 x3,call Pg pol1 63 [mkA 1 a zA a.cl] H=some (.tup [.agg [.sl false (a.cl.map setAV9),.ms (H.length+4) 1 (expR a).length 0 (expR a).length,.ms (H.length+5) 1 (expR a).length 0 (expR a).length],I 0],
    H++(x0::x1::x2::x3::.row 1 (cm (H.length+6) a.cl.length (expR a).length) 0::.row 1 ((expl a).ac.map AV.bool) 0::rowsV (nxN (expl a).nx))):=by
 have hlen:=MW hg;have hnx:=hg.nx
 obtain⟨r,⟨h1,_⟩,h2⟩:=f63 (fun s:Nat=>[s]) (List.range a.nx.length) (expR a) a.cl.length (stepC a.nx) (fun s=>a.ac[s]?.getD false) 0 1 a zA a.cl (fun x _ y _ h=>by simpa using h) (fun x _=>by simp) (Nl hg) (mem_range.2 hg.pos) rfl hg.cl rfl
  (fun H=>So a zA a.cl H) (fun s hs c hc H=>by
    have:=Sn a zA a.cl hg hd hd (mem_range.1 hs) hc H;rw[(Jz hd hc).2]at this;exact this) (fun s hs H=>by
    obtain⟨v,hv⟩:∃ v,a.ac[s]?=some v:=⟨_,zga (by rw[hg.ac];exact mem_range.1 hs)⟩;have:=Sm a zA a.cl hv H;rw[hv];exact this) H
 obtain⟨x0,x1,x2,x3,e⟩:=h1 (by omega);refine⟨x0,x1,x2,x3,?_⟩;rw[h2,e];have e1:nxN (expl a).nx=(expR a).map (exRow a.cl.length (stepC a.nx) (expR a)):=by
  simp only[expl,exA,natA,nxN,map_map];refine List.map_congr_left fun x _=>?_;simp[Function.comp_def]
 rw[e1];simp only[length_map];rfl
theorem TG (b:AutoL) (C:Cls) {top:Int} (hg:GoodA b) (hd:DivOk b.cl top) (hC:DivOk C top) (hCl:C.length<=1024) (H:List MB) :
  ∃ x0 x1 x2 x3,call Pg pol1 63 [mkA 1 b zA C] H=some (.tup [.agg [.sl false (C.map setAV9),.ms (H.length+4) 1 (lastR b C).length 0 (lastR b C).length,.ms (H.length+5) 1 (lastR b C).length 0 (lastR b C).length],I 0],
    H++(x0::x1::x2::x3::.row 1 (cm (H.length+6) C.length (lastR b C).length) 0::.row 1 ((lastA b C).ac.map AV.bool) 0::rowsV (nxN (lastA b C).nx))):=by
 have hlen:=IJ hg hd hC;have hnx:=hg.nx
 obtain⟨r,⟨h1,_⟩,h2⟩:=f63 (fun s:Nat=>[s]) (List.range b.nx.length) (lastR b C) C.length (step3 b C) (fun s=>b.ac[s]?.getD false) 0 1 b zA C (fun x _ y _ h=>by simpa using h) (fun x _=>by simp) (NY hg hd hC) (mem_range.2 hg.pos) rfl hCl rfl
  (fun H=>So b zA C H) (fun s hs c hc H=>Sn b zA C hg hd hC (mem_range.1 hs) hc H) (fun s hs H=>by
    obtain⟨v,hv⟩:∃ v,b.ac[s]?=some v:=⟨_,zga (by rw[hg.ac];exact mem_range.1 hs)⟩;have:=Sm b zA C hv H;rw[hv];exact this) H
 obtain⟨x0,x1,x2,x3,e⟩:=h1 (by omega);refine⟨x0,x1,x2,x3,?_⟩;rw[h2,e];have e1:nxN (lastA b C).nx=(lastR b C).map (exRow C.length (step3 b C) (lastR b C)):=by
  simp only[lastA,exA,natA,nxN,map_map];refine List.map_congr_left fun x _=>?_;simp[Function.comp_def]
 rw[e1];simp only[length_map];rfl
theorem PF (L:List (List Nat)) (i:Nat) (r:List Nat):rowsV (L.set i r)=(rowsV L).set i (.row 1 (r.map NV) 0):=by
 unfold rowsV;rw[map_set]
theorem PH {L:List (List Nat)}{i:Nat}{r:List Nat} (h:L[i]?=some r):(rowsV L)[i]?=some (.row 1 (r.map NV) 0):=by simp[rowsV,h]
theorem Ob {X Y Z W X' Y' Z' W':AV}{H H1 H2 H3 H4:List MB} (k:Int) (hX:fz X H=some (X',H1)) (hY:fz Y H1=some (Y',H2)) (hZ:fz Z H2=some (Z',H3)) (hW:fz W H3=some (W',H4)) :
  fz (.agg [I k,.sl true [],I 0,.bool false,X,Y,Z,.sl true [],.sl true [],.sl true [],W]) H=some (.agg [I k,.sl false [],I 0,.bool false,X',Y',Z',.sl false [],.sl false [],.sl false [],W'],H4):=by
 have hn:∀ H,fzA (fzJ 6) (.sl true []) H=some (.sl false [],H):=fun H=>rfl;have hi:∀ k H,fzA (fzJ 6) (I k) H=some (I k,H):=fun k H=>rfl;have hb:∀ b H,fzA (fzJ 6) (.bool b) H=some (.bool b,H):=fun b H=>rfl;unfold fz at *;rw[Oh];simp only[fzL,hi,hb,hn,hX,hY,hZ,hW]
theorem Nh {X Y Z W:AV}{H H1:List MB}{b:AutoL}{C:Cls} (h:fz (.agg [I 1,.sl true [],I 0,.bool false,X,Y,Z,.sl true [],.sl true [],.sl true [],W]) H=some (mkA 1 b zA C,H1)) :
  frzArgs pol1 63 0 [.agg [I 1,.sl true [],I 0,.bool false,X,Y,Z,.sl true [],.sl true [],.sl true [],W]] H=some ([mkA 1 b zA C],H1):=by
 simp only[frzArgs,show pol1.byref 63 0=false from rfl,false_eq_true,if_false,h]
theorem DS (cl:Cls) (H:List MB):fz (.sl false (cl.map setAV9)) H=some (.sl false (cl.map setAV9),H):=AY H (by simp[AV.plain,AP])
theorem Ql (cl:Cls) (N:List (List Nat)) (ac:List Bool):nxN (natA cl N ac).nx=N:=by
 simp only[natA,nxN,map_map];have:∀ r:List Nat,List.map Int.toNat (List.map (fun n:Nat=>(n:Int)) r)=r:=fun r=>by
  rw[map_map];simp[Function.comp_def]
 simp[Function.comp_def]
theorem QR (c:AutoL) {top:Int} (hg:GoodA c) (hd:DivOk c.cl top) {m n:Nat} (hm:c.cl.length=m) (hn:c.nx.length=n) (b0 b1 x0 x1 x2 x3:MB) :
  ∃ p q n2 HT HT',call Pg pol1 63 [.agg [I 1,.sl true [],I 0,.bool false,.sl false (c.cl.map setAV9),.ms 6 1 n 0 n,.ms 7 1 n 0 n,.sl true [],.sl true [],.sl true [],.sl false (c.cl.map setAV9)]] (b0::b1::x0::x1::x2::x3::.row 1 (cm 8 m n) 0::.row 1 (c.ac.map AV.bool) 0::rowsV (nxN c.nx))=some (.tup [.agg [.sl false (c.cl.map setAV9),.ms p 1 n2 0 n2,.ms q 1 n2 0 n2],I 0],b0::b1::HT) /\
    ∀ y,fzs [.agg [.sl false (c.cl.map setAV9),.ms p 1 n2 0 n2,.ms q 1 n2 0 n2]] (y::b1::HT)=some ([autoAV (expl c)],y::b1::HT'):=by
 have hNl:(nxN c.nx).length=n:=by simp[nxN,hn]
 have hrw:=A7 hg;have hzY:=Ku (H:=[b0,b1]) (x0:=x0) (x1:=x1) (x2:=x2) (x3:=x3) (x5:=.row 1 (c.ac.map AV.bool) 0) (rows:=nxN c.nx) (m:=m) (n:=n) (j:=4) hNl (fun r hr=>by rw[<- hm];exact hrw.len r hr);have hzZ:=HN (H:=[b0,b1]) (x0:=x0) (x1:=x1) (x2:=x2) (x3:=x3) (x4:=.row 1 (cm ([b0,b1].length+6) m n) n) (T:=rowsVz (nxN c.nx)) (acs:=c.ac) (n:=n) (j:=5) (by rw[hg.ac,hn]);have hmk:mkA 1 c zA c.cl=.agg [I 1,.sl false [],I 0,.bool false,.sl false (c.cl.map setAV9),.sl false ((nxN c.nx).map nsAV),.sl false (c.ac.map AV.bool),.sl false [],.sl false [],.sl false [],.sl false (c.cl.map setAV9)]:=by
  have:=Ck hg;simp only[autoAV,autoN,AV.agg.injEq,List.cons.injEq,true_and,and_true]at this;simp only[mkA,this];rfl
 obtain⟨T1,hT1⟩:∃ T,(x0::x1::x2::x3::.row 1 (cm 8 m n) n::.row 1 (c.ac.map AV.bool) n::rowsVz (nxN c.nx):List MB)=T:=⟨_,rfl⟩;have hz:=Ob 1 (DS c.cl _) hzY hzZ (DS c.cl _);rw[<- hmk]at hz;simp only[length_cons,List.length_nil,cons_append,nil_append,Nat.zero_add,Nat.reduceAdd]at hz;rw[hT1]at hz;obtain⟨y0,y1,y2,y3,c1⟩:=Sp c hg hd (b0::b1::T1);have c2:=(Dm (P:=Pg) (pol:=pol1) (f:=63) rfl rfl (by decide) (Nh hz) (by simp only[AV.plainL,A3];rfl)).trans c1;have hge:=Gc hg;have hne:=Kw (a:=c);have hrw2:=A7 hge;have hNl2:(nxN (expl c).nx).length=(expR c).length:=by rw[<- hne];simp[nxN]
 generalize (expR c).length=n2 at *;refine⟨(b0::b1::T1).length+4,(b0::b1::T1).length+5,n2,T1++(y0::y1::y2::y3::.row 1 (cm (T1.length+1+1+6) c.cl.length n2) 0::.row 1 ((expl c).ac.map AV.bool) 0::rowsV (nxN (expl c).nx)),T1++(y0::y1::y2::y3::.row 1 (cm (T1.length+1+1+6) c.cl.length n2) n2::.row 1 ((expl c).ac.map AV.bool) n2::rowsVz (nxN (expl c).nx)),c2,fun y=>?_⟩;have hzY2:=Ku (H:=y::b1::T1) (x0:=y0) (x1:=y1) (x2:=y2) (x3:=y3) (x5:=.row 1 ((expl c).ac.map AV.bool) 0) (rows:=nxN (expl c).nx) (m:=c.cl.length) (n:=n2) (j:=4) hNl2 (fun r hr=>hrw2.len r hr);have hzZ2:=HN (H:=y::b1::T1) (x0:=y0) (x1:=y1) (x2:=y2) (x3:=y3) (x4:=.row 1 (cm ((y::b1::T1).length+6) c.cl.length n2) n2) (T:=rowsVz (nxN (expl c).nx)) (acs:=(expl c).ac) (n:=n2) (j:=5) (by rw[hge.ac,hne]);have h3:=CR (DS c.cl _) hzY2 hzZ2;have e1:autoAV (expl c)=.agg [.sl false (c.cl.map setAV9),.sl false ((nxN (expl c).nx).map nsAV),.sl false ((expl c).ac.map AV.bool)]:=Ck hge;rw[e1];unfold fzs;unfold fz at h3;simp only[fzL];simp only[cons_append,length_cons]at h3 |-;rw[h3]
theorem Oc {j:List AV->List MB->Option (List AV×List MB)}{x y:AV}{H H':List MB} (hx:fzA j x H=some (y,H')):∀(L:List AV) (u:Nat),AV.plainL L=true->u<L.length->fzL j (L.set u x) H=some (L.set u y,H')
 | [],u,_,h=>by simp at h
 | z::L,0,hp,_=>by
   simp only[AV.plainL,Bool.and_eq_true]at hp;simp only[List.set_cons_zero,fzL,hx,BH j L H' hp.2]
 | z::L,u+1,hp,h=>by
   simp only[AV.plainL,Bool.and_eq_true]at hp;simp only[set_cons_succ,fzL,De j z H hp.1,Oc hx L u hp.2 (by simpa using h)]
theorem QC (b:AutoL) (o c:Nat):alikeC (nxN b.nx) o c=decide (colR b o=colR b c):=by
 rw[Bool.eq_iff_iff,decide_eq_true_iff];unfold alikeC colR;rw[List.all_eq_true,List.map_inj_left];exact⟨fun h r hr=>by simpa using h r hr,fun h r hr=>by simpa using h r hr⟩
theorem Oz (H:List MB) (t:Bool):evAppend Pg H 23 23 (.sl true []) (.sl t [])=some (.sl true [],H):=by
 have h1:tyElem Pg 23=some 33:=by kernel_rfl
 have h2:tyNotInt Pg 23=true:=by kernel_rfl
 have h3:tySz Pg 33=some 2:=by kernel_rfl
 have h4:tyBytes Pg 33=some 16:=by kernel_rfl
 have h5:tyZero Pg 33=some (.agg [I 0,I 0]):=by kernel_rfl
 have hs:srcElems Pg H 33 (.sl t [])=some []:=rfl;unfold evAppend;simp only[h1,h2,h3,h4,h5,hs];rfl
theorem MN {H3 G:List MB}{x8 x9:MB}{Y:Spans}{n:Nat}:fzA (fzJ (n+1)) (.ms (H3.length+(G.length+1+1)) 2 Y.length 0 Y.length) (H3++(x8::x9::(G++[.row 2 (Y.map spanAV) 0])))=some (setAV9 Y,H3++(x8::x9::(G++[.row 2 (Y.map spanAV) Y.length]))):=by
 have e1:H3++(x8::x9::(G++[.row 2 (Y.map spanAV) 0]))=(H3++(x8::x9::G))++.row 2 (Y.map spanAV) 0::[]:=by simp
 have hl:(H3++(x8::x9::G)).length=H3.length+(G.length+1+1):=by simp
 have hr:getRow (H3++(x8::x9::(G++[.row 2 (Y.map spanAV) 0]))) (H3.length+(G.length+1+1))=some (2,Y.map spanAV,0):=by
  unfold getRow;rw[gA];simp
 have hmk:=D4 (pre:=H3++(x8::x9::G)) (post:=[]) (k:=2) (z:=0) (n:=Y.length) (els:=Y.map spanAV);rw[<- e1,hl,Nat.max_eq_right (zero_le _)]at hmk;have:=D6 (n:=n) (tot:=Y.length) hr (by simp) (AH Y);rw[this,hmk];simp
theorem JD {H3 G:List MB}{x8 x9:MB}{X:Spans} (h0:X≠[]) (h:X.length<=4000000000):evAppend Pg (H3++(x8::x9::G)) 23 23 (.sl true []) (setAV9 X)=some (.ms (H3.length+(G.length+1+1)) 2 X.length 0 X.length,H3++(x8::x9::(G++[.row 2 (X.map spanAV) 0]))):=by
 rw[O0 (n:=H3.length+(G.length+1+1)) (by simp) h0 h];simp
theorem RY {H3 G:List MB}{x8 x9:MB}{X S:Spans} (h:X.length+S.length<=4000000000):evAppend Pg (H3++(x8::x9::(G++[.row 2 (X.map spanAV) 0]))) 23 23 (.ms (H3.length+(G.length+1+1)) 2 X.length 0 X.length) (setAV9 S)=some (.ms (H3.length+(G.length+1+1)) 2 (X++S).length 0 (X++S).length,H3++(x8::x9::(G++[.row 2 ((X++S).map spanAV) 0]))):=by
 rw[Oy (l:=X) (by rw[gA];simp) rfl h,sA,length_append];simp
theorem Rj (b:AutoL) (C:Cls) {top:Int} (hg:GoodA b) (hd:DivOk b.cl top) (hC:DivOk C top) (hCl:C.length<=1024) {H3:List MB} (x9:MB) (G:List MB) (h1:H3[1]?=some (.row 3 [E3] 0)) :
  ∃ p q n3 HT,call Pg pol1 63 [.agg [I 1,.sl true [],I 0,.bool false,.sl false (b.cl.map setAV9),.sl false (b.nx.map rowAV),.sl false (b.ac.map AV.bool),.sl true [],.sl true [],.sl true [],.ms H3.length 1 C.length 0 C.length]] (H3++(.row 1 (C.map setAV9) 0::x9::G))=some (.tup [.agg [.sl false (C.map setAV9),.ms p 1 n3 0 n3,.ms q 1 n3 0 n3],I 0],HT) /\
    HT[1]?=some (.row 3 [E3] 0)/\∀ y,∃ H',fz (.tup [.agg [.sl false (C.map setAV9),.ms p 1 n3 0 n3,.ms q 1 n3 0 n3],I 0]) (HT.set 1 y)=some (.tup [autoAV (lastA b C),I 0],H'):=by
 have hr:getRow (H3++(.row 1 (C.map setAV9) 0::x9::G)) H3.length=some (1,C.map setAV9,0):=by
  unfold getRow;rw[gA0];rfl
 have hmk:=D4 (pre:=H3) (post:=x9::G) (k:=1) (z:=0) (n:=C.length) (els:=C.map setAV9);rw[Nat.max_eq_right (zero_le _)]at hmk;have hW:fz (.ms H3.length 1 C.length 0 C.length) (H3++(.row 1 (C.map setAV9) 0::x9::G))=some (.sl false (C.map setAV9),H3++(.row 1 (C.map setAV9) C.length::x9::G)):=by
  rw[Av hr (by simp) (AP C),hmk]
 have hz:=Ob 1 (DS b.cl _) (AY _ (show AV.plain (.sl false (b.nx.map rowAV))=true by simp[AV.plain,AT])) (AY _ (show AV.plain (.sl false (b.ac.map AV.bool))=true by simp[AV.plain,AN])) hW;obtain⟨y0,y1,y2,y3,c1⟩:=TG b C hg hd hC hCl (H3++(.row 1 (C.map setAV9) C.length::x9::G));have c2:=(Dm (P:=Pg) (pol:=pol1) (f:=63) rfl rfl (by decide) (Nh (b:=b) (C:=C) hz) (by simp only[AV.plainL,A3];rfl)).trans c1;have hge:GoodA (lastA b C):=Cy (J0 hg hd hC) rfl hCl (by have:=IJ hg hd hC;have:=hg.nx;omega);have hne:(lastA b C).nx.length=(lastR b C).length:=by simp[lastA,exA,natA]
 have hrw2:=A7 hge;have hNl2:(nxN (lastA b C).nx).length=(lastR b C).length:=by rw[<- hne];simp[nxN]
 have h1l:=getElem?_ne_none h1;obtain⟨H4,hH4⟩:∃ H4,H3++(MB.row 1 (C.map setAV9) C.length::x9::G)=H4:=⟨_,rfl⟩;rw[hH4]at c2;have h41:H4[1]?=some (.row 3 [E3] 0):=by rw[<- hH4];exact gL h1 _
 have h4l:=getElem?_ne_none h41;generalize (lastR b C).length=n3 at *;refine⟨H4.length+4,H4.length+5,n3,_,c2,gL h41 _,fun y=>?_⟩;rw[List.set_append_left _ _ h4l];have hl4:(H4.set 1 y).length=H4.length:=List.length_set;have hzY2:=Ku (H:=H4.set 1 y) (x0:=y0) (x1:=y1) (x2:=y2) (x3:=y3) (x5:=.row 1 ((lastA b C).ac.map AV.bool) 0) (rows:=nxN (lastA b C).nx) (m:=C.length) (n:=n3) (j:=4) hNl2 (fun r hr=>hrw2.len r hr);have hzZ2:=HN (H:=H4.set 1 y) (x0:=y0) (x1:=y1) (x2:=y2) (x3:=y3) (x4:=.row 1 (cm (H4.length+6) C.length n3) n3) (T:=rowsVz (nxN (lastA b C).nx)) (acs:=(lastA b C).ac) (n:=n3) (j:=5) (by rw[hge.ac,hne]);rw[hl4]at hzY2 hzZ2;have h3:=CR (DS C _) hzY2 hzZ2;have e1:autoAV (lastA b C)=.agg [.sl false (C.map setAV9),.sl false ((nxN (lastA b C).nx).map nsAV),.sl false ((lastA b C).ac.map AV.bool)]:=Ck hge;rw[e1];exact⟨_,Ew h3 (AY _ rfl)⟩
theorem f64L (a:AutoL) {top:Int} (hg:GoodA a) (hd:DivOk a.cl top) (H:List MB):call Pg pol1 64 [autoAV a] H=some (pairAV (lstW a),H):=by
 have hpp:=Am (lstW a);have hpl:=AX a;refine AQ Tryz.func64 rfl rfl rfl rfl rfl rfl (fun _=>rfl) (by simp only[AV.plainL,hpl];rfl) hpp ?_ H;obtain⟨x0,x1,x2,x3,c1⟩:=Sp a hg hd [.row 3 [autoAV a] 0,.row 3 [E3] 0];have hfr1:=Nh (H:=[.row 3 [autoAV a] 0,.row 3 [E3] 0]) (b:=a) (C:=a.cl) (Ob 1 (DS a.cl _) (AY _ (show AV.plain (.sl false (a.nx.map rowAV))=true by simp[AV.plain,AT])) (AY _ (show AV.plain (.sl false (a.ac.map AV.bool))=true by simp[AV.plain,AN])) (DS a.cl _));have c1':=(Dm (P:=Pg) (pol:=pol1) (f:=63) rfl rfl (by decide) hfr1 (by simp only[AV.plainL,A3];rfl)).trans c1;simp only[length_cons,List.length_nil,cons_append,nil_append]at c1';have hge:=Gc hg;have hne:=Kw (a:=a);have hcle:(expl a).cl=a.cl:=rfl;have hde:DivOk (expl a).cl top:=hd;obtain⟨n1,hn1⟩:∃ n,(expR a).length=n:=⟨_,rfl⟩;obtain⟨m,hm⟩:∃ m,a.cl.length=m:=⟨_,rfl⟩;obtain⟨e1,he1⟩:∃ e,expl a=e:=⟨_,rfl⟩;have hsame:=KF hg hd;rw[he1]at hge hne hcle hde c1' hsame;rw[hn1]at hne c1';rw[hm]at c1';have hNl:(nxN e1.nx).length=n1:=by rw[<- hne];simp[nxN]
 have hrw:=A7 hge;rw[hcle,hm,hNl]at hrw;have hm1:m<=1024:=by have:=hg.cl;omega
 have hn1024:n1<=1024:=by rw[<- hne];exact hge.nx
 have hacl:e1.ac.length=n1:=by rw[<- hne];exact hge.ac
 have hput:=fun E i k c (h:TabP e1 top E) (hs:Sq e1.nx.length E) hi hk hc ht=>QI (c:=c) (i:=i) (k:=k) hge hde h hs hi hk hc ht;have htab:=fun D h hc=>Sz (D:=D) hge hde h hc;rw[hcle,hm,hne]at htab;rw[hne,hcle,hm]at hput;have hst:=NB (b:=e1) (top:=top);rw[hne]at hst;obtain⟨_,⟨D,hD1,hD2,hD3,rfl⟩,c2⟩:=f126 a.cl (nxN e1.nx) e1.ac (.row 3 [.agg [.sl false (a.cl.map setAV9),.ms 6 1 n1 0 n1,.ms 7 1 n1 0 n1]] 0::.row 3 [E3] 0::x0::x1::x2::x3::.row 1 (cm 8 m n1) 0::.row 1 (e1.ac.map AV.bool) 0::rowsV (nxN e1.nx)) 6 7 8 n1 m hNl hn1024 hacl hm hm1 hrw rfl rfl (fun i r h=>by
  rw[show 8+i=i+1+1+1+1+1+1+1+1 by omega];unfold getRow;simp only[List.getElem?_cons_succ];simp[rowsV,h]) (TabP e1 top) hst hput
 have hT:=htab D hD1 hD3;clear hD1 hD3 hst hput htab;simp +contextual (disch:=omega) only[Tryz.f64,dd64,go_sem,simprocAttr,evAppend,map_append,mu64,c1',c2];obtain⟨N,hN⟩:∃ N,nxN e1.nx=N:=⟨_,rfl⟩;rw[hN]at hNl hrw |-;have hrep:=fun t (h:t<e1.nx.length)=>EN hT h;rw[hne]at hrep;obtain⟨N',hN'⟩:∃ N',N.map (fun r=>r.map (repD D n1))=N':=⟨_,rfl⟩;have hN'l:N'.length=n1:=by rw[<- hN',length_map];exact hNl
 have hCM:∀ i,i<n1->(cm 8 m n1)[i]?=some (.ms (i+1+1+1+1+1+1+1+1) 1 m 0 m):=fun i hi=>by
  rw[K9 hi,show 8+i=i+1+1+1+1+1+1+1+1 by omega]
 have hCMl:(cm 8 m n1).length=n1:=Ef _ _ _;refine AS (M:=(Ms 64 4)) (by rfl) n1 (fun i=>(⟨148,[(5,I i),(4,.sl false (D.map bsAV)),(2,.rf 1 1 0 0),(1,.rf 0 1 0 0)],.row 3 [.agg [.sl false (a.cl.map setAV9),.ms 6 1 n1 0 n1,.ms 7 1 n1 0 n1]] 0::.row 3 [E3] 0::x0::x1::x2::x3::.row 1 (cm 8 m n1) 0::.row 1 (e1.ac.map AV.bool) 0::rowsV (N'.take i++N.drop i)⟩:St)) (fun i=>True) ?_ ?_ trivial _ (by rfl)
 ·intro i hi _;obtain⟨r,hr⟩:∃ r,N[i]?=some r:=⟨_,zga (by omega)⟩;have hr':N'[i]?=some (r.map (repD D n1)):=by rw[<- hN'];simp[hr]
  have hst:=Bn hN'l hNl hr';have hrl:r.length=m:=hrw.len r (zgc hr);have hrlt:=hrw.lt r (zgc hr);have hLl:=CG hN'l hNl (i:=i) (by omega);have hLi:(N'.take i++N.drop i)[i]?=some r:=by
   rw[getElem?_append_right (by rw[List.length_take];omega),List.length_take,Nat.min_eq_left (by omega),sub_self,getElem?_drop,add_zero];exact hr
  rw[<- hst];generalize N'.take i++N.drop i=L at *;have hs0:L=L.set i ((r.map (repD D n1)).take 0++r.drop 0):=by
   rw[List.take_zero,List.drop_zero,nil_append];exact(set_self hLi).symm
  have hr'l:(r.map (repD D n1)).length=m:=by rw[length_map];exact hrl
  have hr'g:∀(c t:Nat),r[c]?=some t->(r.map (repD D n1))[c]?=some (repD D n1 t):=fun c t h=>by simp[h]
  have hgL:∀ y,(rowsV (L.set i y))[i]?=some (.row 1 (y.map NV) 0):=fun y=>PH (List.getElem?_set_self (by omega));have hsL:∀ y z:List Nat,(rowsV (L.set i y)).set i (.row 1 (z.map NV) 0)=rowsV (L.set i z):=fun y z=>by rw[<- PF,List.set_set]
  have hCi:=hCM i hi;have hi2:(i:Int)<(n1:Int):=by omega
  generalize r.map (repD D n1)=r' at *;simp +contextual (disch:=omega) only[Tryz.f64,dd64,go_sem,simprocAttr,evAppend,map_append,mu64,hi2];refine AS (M:=(Ms 64 7)) (by rfl) m (fun c=>(⟨148,[(6,I c),(5,I i),(4,.sl false (D.map bsAV)),(2,.rf 1 1 0 0),(1,.rf 0 1 0 0)],.row 3 [.agg [.sl false (a.cl.map setAV9),.ms 6 1 n1 0 n1,.ms 7 1 n1 0 n1]] 0::.row 3 [E3] 0::x0::x1::x2::x3::.row 1 (cm 8 m n1) 0::.row 1 (e1.ac.map AV.bool) 0::rowsV (L.set i (r'.take c++r.drop c))⟩:St)) (fun i=>True) ?_ ?_ trivial _ (by rw[<- hs0];rfl)
  ·intro c hc _;obtain⟨t,ht⟩:∃ t,r[c]?=some t:=⟨_,zga (by omega)⟩;have htn:=hrlt t (zgc ht);have hys:=Bn hr'l hrl (hr'g c t ht);have hyl:=CG hr'l hrl (i:=c) (by omega);have hyc:(r'.take c++r.drop c)[c]?=some t:=by
    rw[getElem?_append_right (by rw[List.length_take];omega),List.length_take,Nat.min_eq_left (by omega),sub_self,getElem?_drop,add_zero];exact ht
   rw[<- hys];generalize r'.take c++r.drop c=y at *;have hyc':(y.map NV)[c]?=some (NV t):=by simp[hyc]
   obtain⟨p1,p2,p3⟩:=hrep t htn;have hu0:get2 D (repD D n1 t) t=false:=by
    cases hv:get2 D (repD D n1 t) t with
    | false=>rfl
    | true=>exact absurd p2 ((hT _ _ (by rw[hne];exact p1) (by rw[hne];exact htn)).1 hv)
   have hyset:∀ k,(y.map NV).set c (NV k)=(y.set c k).map NV:=fun k=>by rw[map_set]
   have hc2:(c:Int)<(m:Int):=by omega
   generalize repD D n1 t=u at *;simp +contextual (disch:=omega) only[Tryz.f64,dd64,go_sem,simprocAttr,evAppend,map_append,mu64,hm,hc2];refine BR (σ:=Nat) (M:=(Ms 64 10)) (by rfl) (fun k=>(⟨148,[(7,I k),(6,I c),(5,I i),(4,.sl false (D.map bsAV)),(2,.rf 1 1 0 0),(1,.rf 0 1 0 0)],.row 3 [.agg [.sl false (a.cl.map setAV9),.ms 6 1 n1 0 n1,.ms 7 1 n1 0 n1]] 0::.row 3 [E3] 0::x0::x1::x2::x3::.row 1 (cm 8 m n1) 0::.row 1 (e1.ac.map AV.bool) 0::rowsV (L.set i y)⟩:St)) (fun k=>k<=u) (fun k=>u-k) 0 ?_ (zero_le _) _ (by rfl);intro k hk;obtain⟨d,hd1,hdl⟩:=hD2.at (i:=k) (by omega);have hd1':(D.map bsAV)[k]?=some (bsAV d):=by simp[hd1]
   obtain⟨v,hv⟩:∃ v,d[t]?=some v:=⟨_,zga (by omega)⟩;have hv':(d.map AV.bool)[t]?=some (.bool v):=by simp[hv]
   have hgv:get2 D k t=v:=by unfold get2;rw[hd1,Option.getD_some,hv];rfl
   by_cases hku:k<u
   ·have:=p3 k hku;rw[hgv]at this;subst this;simp +contextual (disch:=omega) only[Tryz.f64,dd64,go_sem,simprocAttr,evAppend,map_append,mu64,hd1',hv',hgL,hCi,hCMl,hyc',hyl,hdl];refine⟨by unfold dOk;kernel_rfl,k+1,by omega,by omega,?_⟩;rfl
   ·obtain rfl:k=u:=by omega
    rw[hu0]at hgv;subst hgv;simp +contextual (disch:=omega) only[Tryz.f64,dd64,go_sem,simprocAttr,evAppend,map_append,mu64,hd1',hv',hgL,hCi,hCMl,hyc',hyl,hdl,hyset,hsL];refine⟨by unfold dOk;kernel_rfl,?_⟩;generalize y.set c k=y2;rfl
  ·intro _;rw[CH hr'l hrl];have hc2:¬ (m:Int)<(m:Int):=by omega
   simp +contextual (disch:=omega) only[Tryz.f64,dd64,go_sem,simprocAttr,evAppend,map_append,mu64,hm,hc2];rfl
 ·intro _;have hn2:¬ (n1:Int)<(n1:Int):=by omega
  rw[CH hN'l hNl];have hgc:=Iv hge hT;have hdc:DivOk (clpA e1 D).cl top:=hde;have hcN:nxN (clpA e1 D).nx=N':=by
   unfold clpA;rw[Ql,hN,hne];exact hN'
  have hcc:(clpA e1 D).cl=a.cl:=hcle;have hca:(clpA e1 D).ac=e1.ac:=rfl;obtain⟨p,q,n2,HT,HT',c3,z3⟩:=QR (clpA e1 D) hgc hdc (m:=m) (n:=n1) (by rw[hcc];exact hm) (by rw[Mq];exact hne) (.row 3 [.agg [.sl false (a.cl.map setAV9),.ms 6 1 n1 0 n1,.ms 7 1 n1 0 n1]] 0) (.row 3 [E3] 0) x0 x1 x2 x3;have hhalf:=SE hge hde hT hsame;rw[hcN,hcc,hca]at c3;rw[hcc]at z3;obtain⟨b2,hb2⟩:∃ b,expl (clpA e1 D)=b:=⟨_,rfl⟩;have hb2c:b2.cl=a.cl:=by rw[<- hb2];exact hcc
  rw[hb2]at z3 hhalf;clear hCM hCMl hrep hrw;have hbq:=AV.beqL_refl [AV.agg [.sl false (a.cl.map setAV9),.ms p 1 n2 0 n2,.ms q 1 n2 0 n2]];simp +contextual (disch:=omega) only[Tryz.f64,dd64,go_sem,simprocAttr,evAppend,map_append,mu64,hn2,c3,z3,hbq];obtain⟨K,hK⟩:∃ K,colsR b2=K:=⟨_,rfl⟩;have hKl:K.length=m:=by rw[<- hK];simp[colsR,hb2c,hm]
  have hKg:∀ c,c<m->K[c]?=some (colR b2 c):=fun c hc=>by rw[<- hK];simp[colsR,hb2c,hm,hc]
  have hg2:=hhalf.good;have hN2l:(nxN b2.nx).length<=1000000:=by have:=hg2.nx;simp[nxN];omega
  have hrw2:=A7 hg2;rw[hb2c,hm]at hrw2;have h127:=fun o c (ho:o<m) (hc:c<m)=>f127 a.cl (nxN b2.nx) b2.ac hN2l (fun r hr=>hrw2.len r hr) ho hc;have e2:autoN a.cl (nxN b2.nx) b2.ac=autoAV b2:=by rw[<- hb2c];exact(Ck hg2).symm
  simp only[e2,QC]at h127;refine BR (σ:=Nat×List Nat×List MB) (M:=(Ms 64 17)) (by rfl) (fun x=>(⟨148,[(10,I x.1),(9,.ms ((.row 3 [autoAV b2] 0::.row 3 [E3] 0::HT').length+1) 1 x.2.1.length 0 x.2.1.length),(8,.ms (.row 3 [autoAV b2] 0::.row 3 [E3] 0::HT').length 1 x.2.1.length 0 x.2.1.length),(2,.rf 1 1 0 0),(1,.rf 0 1 0 0)],(.row 3 [autoAV b2] 0::.row 3 [E3] 0::HT')++(.row 1 ((spansUp a.cl (numA K) x.1 x.2.1.length).map setAV9) 0::.row 1 (x.2.1.map NV) 0::x.2.2)⟩:St)) (fun x=>x.1<=m/\x.2.1.length=(onces (K.take x.1)).length/\∀ k o,x.2.1[k]?=some o->o<m/\(numA K)[o]?=some k) (fun x=>m-x.1) (0,[],[]) ?_ ⟨zero_le _,rfl,fun k o h=>by simp at h⟩ _ (by simp only[List.append_assoc];rfl);rintro⟨c,O,G⟩ ⟨hc,hOl,hO⟩;simp only at hc hOl hO;have g0:(MB.row 3 [autoAV b2] 0::.row 3 [E3] 0::HT')[0]?=some (.row 3 [autoAV b2] 0):=rfl;have g0':(MB.row 3 [autoAV b2] 0::.row 3 [E3] 0::HT')[1]?=some (.row 3 [E3] 0):=rfl;generalize hH3:(MB.row 3 [autoAV b2] 0::.row 3 [E3] 0::HT':List MB)=H3 at *;have q0:=gL g0;have q1:=gL g0';have g1:=@gA H3;have g2:=@gA0 H3;have g3:=@sA H3;have g4:=@sA0 H3;by_cases hcm:c<m
  ·have hc2:(c:Int)<(m:Int):=by omega
   have hb2m:b2.cl.length=m:=by rw[hb2c];exact hm
   simp +contextual (disch:=omega) only[Tryz.f64,dd64,go_sem,simprocAttr,evAppend,map_append,mu64,hb2m,hc2,q0];obtain⟨j,hj⟩:∃ j,(numA K)[c]?=some j:=⟨_,zga (by rw[Af];omega)⟩;obtain⟨S,hS⟩:∃ S,a.cl[c]?=some S:=⟨_,zga (by omega)⟩;have hS':(b2.cl.map setAV9)[c]?=some (setAV9 S):=by rw[hb2c];simp[hS]
   have hSv:=hd.set S (zgc hS);have hSl:=(Az hSv.1).2;have hkc:=IL hj;have hKc:=hKg c hcm;have hal:∀ k o,O[k]?=some o->o<m/\(colR b2 o=colR b2 c↔k=j):=fun k o h=>by
    obtain⟨h1,h2⟩:=hO k o h;exact⟨h1,Qn (hKg o h1) hKc h2 hj⟩
   rw[<- hOl]at hkc;have hw1024:O.length<=m:=by
    have:=B9 K c;obtain⟨mm,e⟩:=this;have h1:=congrArg List.length e;rw[length_append,<- hOl]at h1;have h2:(onces K).length<=K.length:=by
     have:=Cq K ([]:List (List (Option Nat)))
     simpa [onces] using this
    omega
   have hXl:(spansK (a.cl.take c) ((numA K).take c) j).length<=64*1024:=by
    have:=Dq j (a.cl.take c) ((numA K).take c) (fun s hs=>(Az (hd.set s (List.mem_of_mem_take hs)).1).2);have h2:=List.length_take_le c a.cl;omega
   refine BR (σ:=Nat) (M:=(Ms 64 20)) (by rfl) (fun k=>(⟨148,[(11,I k),(10,I c),(9,.ms (H3.length+1) 1 O.length 0 O.length),(8,.ms H3.length 1 O.length 0 O.length),(2,.rf 1 1 0 0),(1,.rf 0 1 0 0)],H3++(.row 1 ((spansUp a.cl (numA K) c O.length).map setAV9) 0::.row 1 (O.map NV) 0::G)⟩:St)) (fun k=>k<=j) (fun k=>j-k) 0 ?_ (zero_le _) _ (by rfl);intro k hk;have hSUl:(spansUp a.cl (numA K) c O.length).length=O.length:=A6 _ _ _ _;have hjO:j<=O.length:=by
    obtain⟨_,⟨h1,_⟩|⟨h1,_⟩⟩:=hkc<;>omega
   by_cases hkj:k<j
   ·have hkl:(k:Int)<(O.length:Int):=by omega
    obtain⟨o,ho⟩:∃ o,O[k]?=some o:=⟨_,zga (by omega)⟩;have ho':(O.map NV)[k]?=some (NV o):=by simp[ho]
    obtain⟨h1,h2⟩:=hal k o ho;have h127o:=h127 o c h1 hcm;rw[decide_eq_false (fun e=>by have:=h2.1 e;omega)]at h127o;simp +contextual (disch:=omega) only[Tryz.f64,dd64,go_sem,simprocAttr,evAppend,map_append,mu64,q0,q1,g1,g2,g3,g4,hkl,ho',h127o,hSUl];refine⟨by unfold dOk;kernel_rfl,k+1,by omega,by omega,by rfl⟩
   ·obtain rfl:k=j:=by omega
    obtain⟨_,⟨hjw,hw'⟩|⟨hjw,hw',_⟩⟩:=hkc
    ·have hkl:(k:Int)<(O.length:Int):=by omega
     have hkn:¬ (k:Int)=(O.length:Int):=by omega
     obtain⟨o,ho⟩:∃ o,O[k]?=some o:=⟨_,zga (by omega)⟩;have ho':(O.map NV)[k]?=some (NV o):=by simp[ho]
     obtain⟨h1,h2⟩:=hal k o ho;have h127o:=h127 o c h1 hcm;rw[decide_eq_true (h2.2 rfl)]at h127o;have hup:=Gr hS hj hjw;have hXg:(spansUp a.cl (numA K) c O.length)[k]?=some (spansK (a.cl.take c) ((numA K).take c) k):=BI hjw;generalize spansK (a.cl.take c) ((numA K).take c) k=X at *;generalize spansUp a.cl (numA K) c O.length=SU at *;have hXg':(SU.map setAV9)[k]?=some (setAV9 X):=by simp[hXg]
     have hSUm:(SU.map setAV9).length=O.length:=by rw[length_map];exact hSUl
     have hz:∀(Y:Spans) (n:Nat),Y.length=n->∀ x9:MB,fzs ((SU.map setAV9).set k (.ms (H3.length+(G.length+1+1)) 2 n 0 n)) (H3++(.row 1 ((SU.map setAV9).set k (.ms (H3.length+(G.length+1+1)) 2 n 0 n)) 0::x9::(G++[.row 2 (Y.map spanAV) 0])))=some ((SU.map setAV9).set k (setAV9 Y),H3++(.row 1 ((SU.map setAV9).set k (.ms (H3.length+(G.length+1+1)) 2 n 0 n)) 0::x9::(G++[.row 2 (Y.map spanAV) n]))):=fun Y n hn x9=>by
      subst hn;exact Oc MN (SU.map setAV9) k (AP SU) (by omega)
     have hbq:=fun L:List AV=>AV.beqL_refl L;have hs0:∀ L L':List MB,sameAt 0 (H3++L) (H3++L')=true:=fun L L'=>by simp[sameAt,q0,MB.beq_refl]
     have hms:∀ Y:Spans,(SU.map setAV9).set k (setAV9 Y)=(SU.set k Y).map setAV9:=fun Y=>by rw[map_set]
     have a0:∀(x8 x9:MB),evAppend Pg (H3++(x8::x9::G)) 23 23 (.sl true []) (setAV9 [])=some (.sl true [],H3++(x8::x9::G)):=fun x8 x9=>Oz (H3++(x8::x9::G)) false;have aS:=fun(x8 x9:MB)=>JD (H3:=H3) (G:=G) (x8:=x8) (x9:=x9) hSv.2 (by omega);have aO:=fun(x8 x9:MB)=>RY (H3:=H3) (G:=G) (x8:=x8) (x9:=x9) (X:=X) (S:=S) (by omega);cases hX:X with
     | nil=>
       subst hX;simp only[List.map_nil,nil_append]at hXg' hup;simp +contextual (disch:=omega) only[Tryz.f64,dd64,go_sem,simprocAttr,mu64,q0,q1,g1,g2,g3,g4,hkl,hkn,ho',h127o,hSUl,hXg',hSUm,hS',a0,aS,hz S S.length rfl,hbq,hms];refine⟨by unfold dOk;kernel_rfl,by unfold dOk;kernel_rfl,?_,?_⟩
       ·kernel_rfl
       refine⟨(c+1,O,G++[.row 2 (S.map spanAV) S.length]),⟨by simp only;omega,by simp only;rw[hw',hOl],hO⟩,by simp only;omega,?_⟩;simp only;rw[hup];rfl
     | cons p0 X0=>
       have aX:=fun(x8 x9:MB)=>JD (H3:=H3) (G:=G) (x8:=x8) (x9:=x9) (X:=X) (by rw[hX];simp) (by omega);clear hX;simp +contextual (disch:=omega) only[Tryz.f64,dd64,go_sem,simprocAttr,mu64,q0,q1,g1,g2,g3,g4,hkl,hkn,ho',h127o,hSUl,hXg',hSUm,hS',hs0,aX,aO,hz (X++S) (X.length+S.length) (by simp),hbq,hms];refine⟨by unfold dOk;kernel_rfl,by unfold dOk;kernel_rfl,?_,?_⟩
       ·kernel_rfl
       refine⟨(c+1,O,G++[.row 2 ((X++S).map spanAV) (X.length+S.length)]),⟨by simp only;omega,by simp only;rw[hw',hOl],hO⟩,by simp only;omega,?_⟩;simp only;rw[hup];rfl
    ·obtain rfl:k=O.length:=hjw;have hkn:¬ (O.length:Int)<(O.length:Int):=by omega
     have hup:=Gs hS hj (fun i hi=>by rw[hOl];exact Fz i hi);generalize spansUp a.cl (numA K) c O.length=SU at *;have hSUm:(SU.map setAV9).length=O.length:=by rw[length_map];exact hSUl
     have hgn:∀ y,(SU.map setAV9++[y])[O.length]?=some y:=fun y=>by rw[getElem?_append_right (by omega),hSUm];simp
     have hsn:∀ x y,(SU.map setAV9++[x]).set O.length y=SU.map setAV9++[y]:=fun x y=>by rw[List.set_append_right _ _ (by omega),hSUm];simp
     have hln:∀ y:AV,(SU.map setAV9++[y]).length=O.length+1:=fun y=>by simp[hSUl]
     have hz:∀ x9:MB,fzs (SU.map setAV9++[.ms (H3.length+(G.length+1+1)) 2 S.length 0 S.length]) (H3++(.row 1 (SU.map setAV9++[.ms (H3.length+(G.length+1+1)) 2 S.length 0 S.length]) 0::x9::(G++[.row 2 (S.map spanAV) 0])))=some (SU.map setAV9++[setAV9 S],H3++(.row 1 (SU.map setAV9++[.ms (H3.length+(G.length+1+1)) 2 S.length 0 S.length]) 0::x9::(G++[.row 2 (S.map spanAV) S.length]))):=fun x9=>Dd MN (SU.map setAV9) (AP SU);have hbq:=fun L:List AV=>AV.beqL_refl L;have hs0:∀ L L':List MB,sameAt 0 (H3++L) (H3++L')=true:=fun L L'=>by simp[sameAt,q0,MB.beq_refl]
     have hms:SU.map setAV9++[setAV9 S]=(SU++[S]).map setAV9:=by rw[map_append];rfl
     have a0:=fun(x8 x9:MB)=>Oz (H3++(x8::x9::G)) true;have aS:=fun(x8 x9:MB)=>JD (H3:=H3) (G:=G) (x8:=x8) (x9:=x9) hSv.2 (by omega);have aC:∀(x9:MB) (t:Bool),evAppend Pg (H3++(.row 1 (SU.map setAV9) 0::x9::G)) 38 38 (.ms H3.length 1 O.length 0 O.length) (.sl t [.sl true []])=some (.ms H3.length 1 (O.length+1) 0 (O.length+1),H3++(.row 1 (SU.map setAV9++[.sl true []]) 0::x9::G)):=fun x9 t=>by
      rw[LK (rs:=SU.map setAV9) (z:=0) (by unfold getRow;rw[gA0];rfl) (zero_le _) hSUm (by omega) rfl rfl,sA0];rfl
     have aO:∀(x8:MB) (t:Bool),evAppend Pg (H3++(x8::.row 1 (O.map NV) 0::G)) 22 22 (.ms (H3.length+1) 1 O.length 0 O.length) (.sl t [NV c])=some (.ms (H3.length+1) 1 (O.length+1) 0 (O.length+1),H3++(x8::.row 1 ((O++[c]).map NV) 0::G)):=fun x8 t=>by
      rw[HY (rs:=O) (z:=0) (by unfold getRow;rw[gA];rfl) (zero_le _) rfl (by omega),sA];rfl
     simp +contextual (disch:=omega) only[Tryz.f64,dd64,go_sem,simprocAttr,mu64,q0,q1,g1,g2,g3,g4,hkn,hSUl,hSUm,hS',hs0,hgn,hsn,hln,a0,aS,aC,aO,hz,hbq];refine⟨by unfold dOk;kernel_rfl,by unfold dOk;kernel_rfl,by kernel_rfl,?_⟩;have hlO:(O++[c]).length=O.length+1:=by simp
     refine⟨(c+1,O++[c],G++[.row 2 (S.map spanAV) S.length]),⟨by simp only;omega,by simp only;rw[hlO,hw',hOl],fun k o h=>?_⟩,by simp only;omega,?_⟩
     ·simp only at h;rcases Nat.lt_trichotomy k O.length with g|g|g
      ·rw[List.getElem?_append_left g]at h;exact hO k o h
      ·subst g;rw[getElem?_append_right (le_refl _)]at h;simp at h;subst h;exact⟨hcm,hj⟩
      ·rw[List.getElem?_eq_none (by rw[hlO];omega)]at h;cases h
     ·simp only;rw[hlO,hup,<- hms];rfl
  ·have hc2:¬ (c:Int)<(m:Int):=by omega
   obtain rfl:c=m:=by omega
   have hb2m:b2.cl.length=c:=by rw[hb2c];exact hm
   have hks:=IK hg hd hhalf hb2c;rw[hK]at hks;have hsm0:=NX hg hd hhalf hb2c;have hlw:lstW a=if(clsL a.cl (nxN a.nx) a.ac).any (fun s=>decide (64<s.length)) then(zA,4) else(lstA a,0):=rfl
   have hwid:O.length=widthL (nxN a.nx) a.ac a.cl.length:=by
    rw[hOl,take_of_length_le (by omega),<- B4 K,hks,<- EV a];rfl
   have hSUg:∀ k,k<O.length->(spansUp a.cl (numA K) c O.length)[k]?=some (spansK a.cl (kindsA (nxN a.nx) a.ac a.cl.length) k):=fun k hk=>by
    rw[BI hk,hks,take_of_length_le (by omega),take_of_length_le (by rw[GU];omega)]
   have hCg:∀ k,k<O.length->(clsL a.cl (nxN a.nx) a.ac)[k]?=some (normL (spansK a.cl (kindsA (nxN a.nx) a.ac a.cl.length) k)):=fun k hk=>by
    have:k<widthL (nxN a.nx) a.ac a.cl.length:=by omega
    simp[clsL,classL,this]
   have hCl:(clsL a.cl (nxN a.nx) a.ac).length=O.length:=by rw[Dl,hwid]
   have hXgood:=fun k=>C7 hd k;have hXlen:∀ k,(spansK a.cl (kindsA (nxN a.nx) a.ac a.cl.length) k).length<=65536:=fun k=>by
    have:=Dq k a.cl (kindsA (nxN a.nx) a.ac a.cl.length) (fun s hs=>(Az (hd.set s hs).1).2);omega
   have hdiv:=fun h=>(HL hg hd h).1;have hSUl:(spansUp a.cl (numA K) c O.length).length=O.length:=A6 _ _ _ _;have hO1024:O.length<=1024:=by
    rw[hwid,<- Dl,Dl];have:=B9 K c;obtain⟨mm,e⟩:=this;have h1:=congrArg List.length e;rw[length_append,<- hOl]at h1;have h2:(onces K).length<=K.length:=by
     have:=Cq K ([]:List (List (Option Nat)))
     simpa [onces] using this
    rw[<- hwid];omega
   generalize spansUp a.cl (numA K) c O.length=SU at *;generalize clsL a.cl (nxN a.nx) a.ac=C at *;generalize kindsA (nxN a.nx) a.ac a.cl.length=ks at *;have hSUm:(SU.map setAV9).length=O.length:=by rw[length_map];exact hSUl
   have hp1:∀(l:List MB) (b:MB),((H3++l).set 1 b)[1]?=some b:=fun l b=>List.getElem?_set_self (by have:=getElem?_ne_none g0';rw[length_append];omega);simp +contextual (disch:=omega) only[Tryz.f64,dd64,go_sem,simprocAttr,evAppend,map_append,mu64,q0,q1,hb2m,hc2];refine AS (M:=(Ms 64 28)) (by rfl) O.length (fun k=>(⟨148,[(13,I k),(8,.ms H3.length 1 O.length 0 O.length),(2,.rf 1 1 0 0),(1,.rf 0 1 0 0)],H3++(.row 1 ((C.take k++SU.drop k).map setAV9) 0::.row 1 (O.map NV) 0::G)⟩:St)) (fun k=>∀ s∈C.take k,s.length<=64) ?_ ?_ (fun s h=>by simp at h) _ (by rfl)
   ·intro k hk hinv;have hkl:(k:Int)<(O.length:Int):=by omega
    have hXg:=hSUg k hk;have hCk:=hCg k hk;have hXgd:=hXgood k;have hXl:=hXlen k;have hst:=Bn hCl hSUl hCk;have hLl:=CG hCl hSUl (i:=k) (by omega);have hLk:(C.take k++SU.drop k)[k]?=some (spansK a.cl ks k):=by
     rw[getElem?_append_right (by rw[List.length_take];omega),List.length_take,Nat.min_eq_left (by omega),sub_self,getElem?_drop,add_zero];exact hXg
    have hCt:=AZ hCk;have h128:=f128 _ hXgd (by omega);rw[<- hst];generalize spansK a.cl ks k=X at *;generalize C.take k++SU.drop k=L at *;have hLk':(L.map setAV9)[k]?=some (setAV9 X):=by simp[hLk]
    have hLm:(L.map setAV9).length=O.length:=by rw[length_map];exact hLl
    have hms:∀ Y:Spans,(L.map setAV9).set k (setAV9 Y)=(L.set k Y).map setAV9:=fun Y=>by rw[map_set]
    unfold normR at h128;by_cases h64:64<(normL X).length
    ·rw[if_pos h64]at h128;have hbad:lstW a=(zA,4):=by
      rw[hlw,if_pos];rw[List.any_eq_true];exact⟨_,zgc hCk,by simpa using h64⟩
     rw[hbad];unfold pairAV;simp +contextual (disch:=omega) only[Tryz.f64,dd64,go_sem,simprocAttr,evAppend,map_append,mu64,q0,q1,g1,g2,g3,g4,hkl,hLl,hLm,hLk',h128,hp1];exact⟨_,rfl⟩
    ·rw[if_neg h64]at h128;generalize normL X=Y at *;simp +contextual (disch:=omega) only[Tryz.f64,dd64,go_sem,simprocAttr,evAppend,map_append,mu64,q0,q1,g1,g2,g3,g4,hkl,hLl,hLm,hLk',h128,hms];refine⟨fun s hs=>?_,by rfl⟩;rw[hCt]at hs;rcases List.mem_append.1 hs with h|h
     ·exact hinv s h
     ·simp at h;subst h;omega
   ·intro hinv;have hkl:¬ (O.length:Int)<(O.length:Int):=by omega
    rw[CH hCl hSUl];have hCt:C.take O.length=C:=take_of_length_le (by omega);rw[hCt]at hinv;have hok:lstW a=(lastA b2 C,0):=by
     rw[hlw,if_neg,hsm0 hinv];rw[List.any_eq_true];rintro⟨s,hs,h⟩;have:=hinv s hs;simp at h;omega
    rw[hok];unfold pairAV;obtain⟨p,q,n3,HT,c4,t1,z4⟩:=Rj b2 C hg2 hhalf.div (hdiv hinv) (by omega) (.row 1 (O.map NV) 0) G g0';rw[hCl]at c4;have hCm:(C.map setAV9).length=O.length:=by rw[length_map];exact hCl
    have hq1:∀ b,(HT.set 1 b)[1]?=some b:=fun b=>List.getElem?_set_self (getElem?_ne_none t1);simp +contextual (disch:=omega) only[Tryz.f64,dd64,go_sem,simprocAttr,evAppend,map_append,mu64,q0,q1,g1,g2,g3,g4,hkl,hCl,hCm,c4,t1,hq1];exact z4 _
end
section
theorem f32d (a:AutoL) (hb:AutoB a) (H:List MB):call Pg pol1 32 [autoAV a] H=some (I (validW (dividesA a.cl) a),H):=by
 rw[Il];exact f32 a hb H
theorem f17 (a:AutoL) (H:List MB):call Pg pol1 17 [autoAV a] H=some (autoAV a,H):=by
 have hpl:=AX a;obtain⟨cl,nx,ac⟩:=a;refine AQ Tryz.func17 rfl rfl rfl rfl rfl rfl (fun _=>rfl) (by simp only[AV.plainL,hpl];rfl) hpl ?_ H;simp +contextual (disch:=omega) only[Tryz.f17,dd17,go_sem,simprocAttr,evAppend,map_append,mu17];exact fzEq hpl rfl
theorem f27 (a:AutoL) (hb:AutoB a) (H:List MB):call Pg pol1 27 [autoAV a] H=some (pairAV (ofValid a lstW),H):=by
 have hpl:=AX a;have h32:=f32d a hb;have hpp:=Am (ofValid a lstW);refine AQ Tryz.func27 rfl rfl rfl rfl rfl rfl (fun _=>rfl) (by simp only[AV.plainL,hpl];rfl) hpp ?_ H;unfold ofValid;by_cases hv:validW (dividesA a.cl) a=0
 ·rw[if_neg (by simp[hv])];obtain⟨hg,hd⟩:=A0 hv;have h64:=f64L a hg (B7 hd);rw[hv]at h32;have hpw:=Am (lstW a);unfold pairAV at h64 hpw |-;generalize lstW a=r at *;obtain⟨r,e⟩:=r;simp only at h64 hpw |-;obtain⟨cl,nx,ac⟩:=a;simp +contextual (disch:=omega) only[Tryz.f27,dd27,go_sem,simprocAttr,evAppend,map_append,mu27,h32,h64];exact fzEq hpw rfl
 ·rw[if_pos hv];unfold pairAV;obtain⟨cl,nx,ac⟩:=a;simp +contextual (disch:=omega) only[Tryz.f27,dd27,go_sem,simprocAttr,evAppend,map_append,mu27,h32,hv];exact⟨_,rfl⟩
theorem f29 (a:AutoL) (hb:AutoB a) (H:List MB):call Pg pol1 29 [autoAV a] H=some (pairAV (ofValid a fun a=>lstW (notA a)),H):=by
 have hpl:=AX a;have h32:=f32d a hb;have hpp:=Am (ofValid a fun a=>lstW (notA a));have hb3:=hb.ac;refine AQ Tryz.func29 rfl rfl rfl rfl rfl rfl (fun _=>rfl) (by simp only[AV.plainL,hpl];rfl) hpp ?_ H;unfold ofValid;by_cases hv:validW (dividesA a.cl) a=0
 ·rw[if_neg (by simp[hv])];obtain⟨hg,hd⟩:=A0 hv;have h64:=f64L (notA a) (Er hg) (B7 hd);rw[hv]at h32;have hpw:=Am (lstW (notA a))
  dsimp only
  unfold pairAV at h64 hpw |-;generalize lstW (notA a)=r at *;obtain⟨r,e⟩:=r;simp only at h64 hpw |-;obtain⟨cl,nx,ac⟩:=a;unfold notA at h64;simp only at h64 hb3;have hnl:(ac.map fun b=>!b).length=ac.length:=by simp
  have hng:∀(i:Nat) (b:Bool),ac[i]?=some b->(ac.map fun b=>!b)[i]?=some (!b):=fun i b h=>by simp[h]
  generalize ac.map (fun b=>!b)=nac at *;simp +contextual (disch:=omega) only[Tryz.f29,dd29,go_sem,simprocAttr,evAppend,map_append,mu29,h32];refine AS (M:=(Ms 29 6)) rfl ac.length (fun i=>(⟨38,[(6,I i),(5,.ms 2 1 i 0 i),(2,.rf 1 1 0 0),(1,.rf 0 1 0 0)],[.row 3 [autoAV ⟨cl,nx,ac⟩] 0,.row 3 [E3] 0,.row 1 ((nac.take i).map AV.bool) 0]⟩:St)) (fun i=>True) ?_ ?_ trivial _ (by first|rfl|(refine AO rfl (by rfl) (by rfl) (by rfl) ?_ ?_<;>simp[AV.underL,AV.under,MB.under,AG,AJ,AF,AH,AK,AM,-map_take,AP,AT,AN]))
  ·intro i hi _;obtain⟨b,hbi⟩:∃ b,ac[i]?=some b:=⟨_,zga hi⟩;have hbi':(ac.map AV.bool)[i]?=some (.bool b):=by simp[hbi]
   have hst:=AZ (hng i b hbi);have hl:(nac.take i).length=i:=by rw[List.length_take];omega
   rw[hst];generalize nac.take i=A at *;have a1:=fun(b0 b1:MB) (t:Bool)=>FL (H:=[b0,b1,.row 1 (A.map AV.bool) 0]) (i:=2) (n:=i) (x:=!b) (t:=t) rfl (zero_le _) hl (by omega);simp only[set_cons_succ,List.set_cons_zero]at a1;simp +contextual (disch:=omega) only[Tryz.f29,dd29,go_sem,simprocAttr,mu29,hbi',a1];generalize A++[!b]=A2;exact(by first|rfl|(refine AO rfl (by rfl) (by rfl) (by rfl) ?_ ?_<;>simp[AV.underL,AV.under,MB.under,AG,AJ,AF,AH,AK,AM,-map_take,AP,AT,AN]))
  ·intro _;rw[show nac.take ac.length=nac from take_of_length_le (by omega)];have hz:∀ b0 b1:MB,fz (.agg [.sl false (cl.map setAV9),.sl false (nx.map rowAV),.ms 2 1 ac.length 0 ac.length]) [b0,b1,.row 1 (nac.map AV.bool) 0]=some (autoAV ⟨cl,nx,nac⟩,[b0,b1,.row 1 (nac.map AV.bool) ac.length]):=fun b0 b1=>by
    have h3:=Av (id:=2) (k:=1) (z:=0) (tot:=ac.length) (H:=[b0,b1,.row 1 (nac.map AV.bool) 0]) rfl (by simp[hnl]) (AN nac);have hm:mark [b0,b1,.row 1 (nac.map AV.bool) 0] 2 ac.length=[b0,b1,.row 1 (nac.map AV.bool) ac.length]:=by simp[mark,getRow]
    rw[hm]at h3;exact CR (AY _ (by simp[AV.plain,AP])) (AY _ (by simp[AV.plain,AT])) h3
   have c64:=fun b0 b1:MB=>A5 (P:=Pg) (pol:=pol1) (f:=64) (args:=[.agg [.sl false (cl.map setAV9),.sl false (nx.map rowAV),.ms 2 1 ac.length 0 ac.length]]) (l:=[autoAV ⟨cl,nx,nac⟩]) (H:=[b0,b1,.row 1 (nac.map AV.bool) 0]) (H1:=[b0,b1,.row 1 (nac.map AV.bool) ac.length]) rfl (by simp only[frzArgs,show pol1.byref 64 0=false from rfl,false_eq_true,if_false,hz]) (by simp[AV.plainL,AV.plain,AP,AT,AN]);simp only[h64]at c64;simp +contextual (disch:=omega) only[Tryz.f29,dd29,go_sem,simprocAttr,evAppend,map_append,mu29,c64];exact fzEq hpw rfl
 ·rw[if_pos hv];unfold pairAV;obtain⟨cl,nx,ac⟩:=a;simp +contextual (disch:=omega) only[Tryz.f29,dd29,go_sem,simprocAttr,evAppend,map_append,mu29,h32,hv];exact⟨_,rfl⟩
theorem Oi {C:Cls}{m:Nat}{rows:List (List Nat)}{acs:List Bool}{H:List MB}{r:AV×List MB} (h:ExpOut C m rows acs H r) (hm:∀ r∈rows,r.length=m) (hn:acs.length=rows.length) :
  ∃ p q K Kz,r=(.tup [.agg [.sl false (C.map setAV9),.ms p 1 rows.length 0 rows.length,.ms q 1 rows.length 0 rows.length],I 0],H++K) /\
    ∀(G T:List MB),G.length=H.length->fz (.agg [.sl false (C.map setAV9),.ms p 1 rows.length 0 rows.length,.ms q 1 rows.length 0 rows.length]) (G++(K++T))=some (.agg [.sl false (C.map setAV9),.sl false (rows.map nsAV),.sl false (acs.map AV.bool)],G++(Kz++T)):=by
 obtain⟨x0,x1,x2,x3,e⟩:=h;refine⟨H.length+4,H.length+5,x0::x1::x2::x3::.row 1 (cm (H.length+6) m rows.length) 0::.row 1 (acs.map AV.bool) 0::rowsV rows,x0::x1::x2::x3::.row 1 (cm (H.length+6) m rows.length) rows.length::.row 1 (acs.map AV.bool) rows.length::rowsVz rows,e,fun G T hG=>?_⟩;rw[<- hG];generalize hnn:rows.length=n at *;have y1:fzA (fzJ 6) (.ms (G.length+4) 1 n 0 n) (G++(x0::x1::x2::x3::.row 1 (cm (G.length+6) m n) 0::.row 1 (acs.map AV.bool) 0::(rowsV rows++T)))=some (.sl false (rows.map nsAV),G++(x0::x1::x2::x3::.row 1 (cm (G.length+6) m n) n::.row 1 (acs.map AV.bool) 0::(rowsVz rows++T))):=by
  have e1:G++(x0::x1::x2::x3::.row 1 (cm (G.length+6) m n) 0::.row 1 (acs.map AV.bool) 0::(rowsV rows++T))=(G++[x0,x1,x2,x3])++.row 1 (cm (G.length+6) m n) 0::(.row 1 (acs.map AV.bool) 0::(rowsV rows++T)):=by simp
  have hl:(G++[x0,x1,x2,x3]).length=G.length+4:=by simp
  have hr:getRow (G++(x0::x1::x2::x3::.row 1 (cm (G.length+6) m n) 0::.row 1 (acs.map AV.bool) 0::(rowsV rows++T))) (G.length+4)=some (1,cm (G.length+6) m n,0):=by
   unfold getRow;rw[gA];rfl
  have hmk:=D4 (pre:=G++[x0,x1,x2,x3]) (post:=.row 1 (acs.map AV.bool) 0::(rowsV rows++T)) (k:=1) (z:=0) (n:=n) (els:=cm (G.length+6) m n);rw[<- e1,hl,Nat.max_eq_right (zero_le _)]at hmk;have hpl:(G++[x0,x1,x2,x3,.row 1 (cm (G.length+6) m n) n,.row 1 (acs.map AV.bool) 0]).length=G.length+6:=by simp
  have hz:=Q2 (j:=4) (m:=m) (n:=n) (es:=rows.map fun r=>r.map NV) (pre:=G++[x0,x1,x2,x3,.row 1 (cm (G.length+6) m n) n,.row 1 (acs.map AV.bool) 0]) (post:=T) (z:=0) (by simp[hnn]) (fun e he=>by
   obtain⟨d,hd,rfl⟩:=mem_map.1 he;simp[hm d hd]) (fun e he=>by
   obtain⟨d,hd,rfl⟩:=mem_map.1 he;exact AR d) (by rw[hpl];exact hr) (by rw[hmk];simp[rowsV,Function.comp_def])
  rw[hz];simp[rowsVz,Function.comp_def]
 have y2:=HN (H:=G) (x0:=x0) (x1:=x1) (x2:=x2) (x3:=x3) (x4:=.row 1 (cm (G.length+6) m n) n) (T:=rowsVz rows++T) (acs:=acs) (n:=n) (j:=5) hn;exact CR (DS C _) y1 y2
theorem O4 (L:Cls):(L.map setAV9).all (fun y=>decide (y.cells.length=1)&&y.cells.all AV.ok)=true:=by
 rw[List.all_eq_true];intro y hy;obtain⟨s,_,rfl⟩:=mem_map.1 hy;rfl
theorem RX {H:List MB}{i n z:Nat}{rs L:Cls}{t:Bool} (hi:getRow H i=some (1,rs.map setAV9,z)) (hz:z<=n) (hn:rs.length=n) (hr:n+L.length<=4000000000) :
  evAppend Pg H 38 38 (.ms i 1 n 0 n) (.sl t (L.map setAV9))=some (.ms i 1 (n+L.length) 0 (n+L.length),H.set i (.row 1 ((rs++L).map setAV9) z)):=by
 have hs:srcElems Pg H 23 (.sl t (L.map setAV9))=some (L.map setAV9):=rfl;rw[Ag (e:=23) (by kernel_rfl) (by kernel_rfl) (k:=1) (by kernel_rfl) (by_:=24) (by kernel_rfl) (ze:=.sl true []) (by kernel_rfl) rfl (by omega) hs (O4 L) hi (by rw[length_map];exact hn) hz (AW (by rw[length_map];omega) (by omega))];rw[length_map,map_append]
theorem Oa {cl C:Cls}{c:Nat} (hc:c<C.length):(inC cl C)[c]?.getD 0=clIx cl (loOf C c):=by
 obtain⟨S,hS⟩:∃ S,C[c]?=some S:=⟨_,zga hc⟩;simp[inC,loOf,hS]
theorem OZ {cl C:Cls}{top:Int} (hd:DivOk cl top) (hC:DivOk C top) (c t:Nat) (h:(inC cl C)[c]?=some t):t<cl.length:=by
 have hc:c<C.length:=by have:=getElem?_ne_none h;rwa [show (inC cl C).length=C.length by simp[inC]]at this
 obtain⟨S,hS⟩:∃ S,C[c]?=some S:=⟨_,zga hc⟩;obtain⟨q0,q1,_⟩:=hC.head hS;simp[inC,hS]at h;rw[<- h];exact(hd.clIx_lt q0 q1).1
theorem S4 (k:Int) (op:Bool->Bool->Bool) (hk:(k=2/\op=fun x y=>x&&y)∨(k=3/\op=fun x y=>x||y)) (a b:AutoL) (C:Cls) {top:Int} (hga:GoodA a) (hgb:GoodA b) (hda:DivOk a.cl top) (hdb:DivOk b.cl top) (hC:DivOk C top) (hCl:C.length<=1024) (H:List MB) :
  ∃ r,call Pg pol1 63 [mkA k a b C] H=some r/\((prodR a b C).length<=1024->ExpOut C C.length ((prodR a b C).map (exRow C.length (stepP (nxN a.nx) (nxN b.nx) (inC a.cl C) (inC b.cl C)) (prodR a b C))) ((prodR a b C).map fun p=>op (a.ac[p.1]?.getD false) (b.ac[p.2]?.getD false)) H r) /\
    (1024<(prodR a b C).length->∃ K,r=(.tup [.agg [.sl true [],.sl true [],.sl true []],I 4],H++K)):=by
 have hk':k=2∨k=3:=by rcases hk with h|h;exact Or.inl h.1;exact Or.inr h.1
 have hst:∀(p:Nat×Nat) (c:Nat),c<C.length->stepP (nxN a.nx) (nxN b.nx) (inC a.cl C) (inC b.cl C) p c=(stepC a.nx p.1 (clIx a.cl (loOf C c)),stepC b.nx p.2 (clIx b.cl (loOf C c))):=fun p c hc=>by
  unfold stepP;rw[Oa hc,Oa hc,BT,BT]
 obtain⟨r,⟨h1,h2⟩,h3⟩:=f63 (fun p:Nat×Nat=>[p.1,p.2]) (pairsU a.nx.length b.nx.length) (prodR a b C) C.length (stepP (nxN a.nx) (nxN b.nx) (inC a.cl C) (inC b.cl C)) (fun p=>op (a.ac[p.1]?.getD false) (b.ac[p.2]?.getD false)) (0,0) k a b C
  (fun x _ y _ h=>by simp at h;exact Prod.ext h.1 h.2) (fun x _=>by simp) (fun p hp c hc=>by
    obtain⟨_,_,_,_,ta,tb,_,_,_,_,_,_,e,hm⟩:=Hj hga hgb (OZ hda hC) (OZ hdb hC) (m:=C.length) (by simp[inC]) (by simp[inC]) hp hc;rw[e];exact hm) (Bb.2 ⟨hga.pos,hgb.pos⟩) rfl hCl rfl
  (fun H=>UW k hk' a b C H) (fun p hp c hc H=>by
    obtain⟨p1,p2⟩:=Bb.1 hp;rw[hst p c hc];exact UU k hk' a b C hga hda hgb hdb hC p1 p2 hc H) (fun p hp H=>by
    obtain⟨p1,p2⟩:=Bb.1 hp;obtain⟨v,hv⟩:∃ v,a.ac[p.1]?=some v:=⟨_,zga (by rw[hga.ac];exact p1)⟩;obtain⟨w,hw⟩:∃ w,b.ac[p.2]?=some w:=⟨_,zga (by rw[hgb.ac];exact p2)⟩;rw[hv,hw];rcases hk with ⟨rfl,rfl⟩|⟨rfl,rfl⟩
    ·exact US a b C hv hw H
    ·exact UQ a b C hv hw H) H
 exact⟨r,h3,h1,h2⟩
theorem Q3 (k:Int) (a b:AutoL) (C:Cls) (H:List MB) :
  call Pg pol1 63 [.agg [I k,.sl true [],I 0,.bool false,.sl false (a.cl.map setAV9),.sl false (a.nx.map rowAV),.sl false (a.ac.map AV.bool),.sl false (b.cl.map setAV9),.sl false (b.nx.map rowAV),.sl false (b.ac.map AV.bool),.sl false (C.map setAV9)]] H=call Pg pol1 63 [mkA k a b C] H:=by
 have hn:∀ H,fzA (fzJ 6) (.sl true []) H=some (.sl false [],H):=fun H=>rfl;have hi:∀ k H,fzA (fzJ 6) (I k) H=some (I k,H):=fun k H=>rfl;have hb:∀ b H,fzA (fzJ 6) (.bool b) H=some (.bool b,H):=fun b H=>rfl;have hp:∀ x H,AV.plain x=true->fzA (fzJ 6) x H=some (x,H):=fun x H h=>AY H h;refine Dm (P:=Pg) (pol:=pol1) (f:=63) rfl rfl (by decide) ?_ (by simp only[AV.plainL,A3];rfl);have hz:fz (.agg [I k,.sl true [],I 0,.bool false,.sl false (a.cl.map setAV9),.sl false (a.nx.map rowAV),.sl false (a.ac.map AV.bool),.sl false (b.cl.map setAV9),.sl false (b.nx.map rowAV),.sl false (b.ac.map AV.bool),.sl false (C.map setAV9)]) H=some (mkA k a b C,H):=by
  unfold fz;rw[Oh];have p1:=hp (.sl false (a.cl.map setAV9)) H (by simp only[AV.plain,AP];rfl);have p2:=hp (.sl false (a.nx.map rowAV)) H (by simp only[AV.plain,AT];rfl);have p3:=hp (.sl false (a.ac.map AV.bool)) H (by simp only[AV.plain,AN];rfl);have p4:=hp (.sl false (b.cl.map setAV9)) H (by simp only[AV.plain,AP];rfl);have p5:=hp (.sl false (b.nx.map rowAV)) H (by simp only[AV.plain,AT];rfl);have p6:=hp (.sl false (b.ac.map AV.bool)) H (by simp only[AV.plain,AN];rfl);have p7:=hp (.sl false (C.map setAV9)) H (by simp only[AV.plain,AP];rfl);simp only[fzL,hn,hi,hb,p1,p2,p3,p4,p5,p6,p7]
 simp only[frzArgs,show pol1.byref 63 0=false from rfl,false_eq_true,if_false,hz]
theorem f79 (k:Int) (op:Bool->Bool->Bool) (hk:(k=2/\op=fun x y=>x&&y)∨(k=3/\op=fun x y=>x||y)) (a b:AutoL) (hba:AutoB a) (hbb:AutoB b) (H:List MB) :
  call Pg pol1 79 [autoAV a,autoAV b,I k] H=some (pairAV (prodW op a b),H):=by
 have hpp:=Am (prodW op a b);have hpl:=AX a;have hpl2:=AX b;have h32a:=f32d a hba;have h32b:=f32d b hbb;refine AQ Tryz.func79 rfl rfl rfl rfl rfl rfl (fun _=>rfl) (by simp only[AV.plainL,hpl,hpl2];rfl) hpp ?_ H;by_cases hva:validW (dividesA a.cl) a=0
 ·by_cases hvb:validW (dividesA b.cl) b=0
  ·obtain⟨hga,hda0⟩:=A0 hva;obtain⟨hgb,hdb0⟩:=A0 hvb;have hda:=B7 hda0;have hdb:=B7 hdb0;have hsa:∀ s∈a.cl,s.length<=64:=fun s hs=>(Az (hda.set s hs).1).2;have hsb:∀ s∈b.cl,s.length<=64:=fun s hs=>(Az (hdb.set s hs).1).2;have h134a:=f134 a.cl hba.cl (fun s hs=>by have:=hsa s hs;omega);have h134b:=f134 b.cl hbb.cl (fun s hs=>by have:=hsb s hs;omega);rw[hva]at h32a;rw[hvb]at h32b;by_cases ht:topZ a.cl.flatten=topZ b.cl.flatten
   ·have hbw:bothW a b=0:=by unfold bothW;rw[if_neg (by simp[hva]),if_neg (by simp[hvb]),if_neg (by simp[ht])]
    have htp:=hda.top_;have hLs:∀ s∈a.cl++b.cl,refSpans s=0:=Gm hbw;have h62:=sf39 (a.cl++b.cl) (topZ a.cl.flatten) (by omega) (by omega) (fun s hs=>(Dv (hLs s hs)).1) hLs (by have:=hga.cl;have:=hgb.cl;simp;omega) (fun s hs=>(Dv (hLs s hs)).2);have h62':∀ H,call Pg pol1 62 [.sl false ((a.cl++b.cl).map setAV9),I (topZ a.cl.flatten)] H=some (splitR (splitW a b),H):=fun H=>by
     rw[h62 H];unfold splitW;split<;>rfl
    have hc1:=hga.cl;have hc2:=hgb.cl;have a1:=fun(b0 b1 b2:MB) (t:Bool)=>RX (H:=[b0,b1,b2,.row 1 [] 0]) (i:=3) (n:=0) (rs:=[]) (L:=a.cl) (t:=t) rfl (zero_le _) rfl (by omega);have a2:=fun(b0 b1 b2:MB) (t:Bool)=>RX (H:=[b0,b1,b2,.row 1 (a.cl.map setAV9) 0]) (i:=3) (n:=a.cl.length) (rs:=a.cl) (L:=b.cl) (t:=t) rfl (zero_le _) rfl (by omega);simp only[set_cons_succ,List.set_cons_zero,nil_append,Nat.zero_add]at a1 a2;have hL:(a.cl++b.cl).length=a.cl.length+b.cl.length:=by simp
    obtain⟨n12,hn12⟩:∃ n,a.cl.length+b.cl.length=n:=⟨_,rfl⟩;rw[hn12]at a2 hL;have hz:∀ b0 b1 b2:MB,fz (.ms 3 1 n12 0 n12) [b0,b1,b2,.row 1 ((a.cl++b.cl).map setAV9) 0]=some (.sl false ((a.cl++b.cl).map setAV9),[b0,b1,b2,.row 1 ((a.cl++b.cl).map setAV9) n12]):=fun b0 b1 b2=>by
     have h3:=Av (id:=3) (k:=1) (z:=0) (tot:=n12) (H:=[b0,b1,b2,.row 1 ((a.cl++b.cl).map setAV9) 0]) rfl (by rw[length_map];exact hL) (AP _);rw[h3];simp[mark,getRow]
    have c62:=fun b0 b1 b2:MB=>(A5 (P:=Pg) (pol:=pol1) (f:=62) (args:=[.ms 3 1 n12 0 n12,I (topZ a.cl.flatten)]) (l:=[.sl false ((a.cl++b.cl).map setAV9),I (topZ a.cl.flatten)]) (H:=[b0,b1,b2,.row 1 ((a.cl++b.cl).map setAV9) 0]) (H1:=[b0,b1,b2,.row 1 ((a.cl++b.cl).map setAV9) n12]) rfl (by
     simp only[frzArgs,show pol1.byref 62 0=false from rfl,show pol1.byref 62 (0+1)=false from rfl,false_eq_true,if_false,hz,AY _ (show AV.plain (I (topZ a.cl.flatten))=true from rfl)]) (by simp only[AV.plainL,AV.plain,AP];rfl)).trans (h62' _)
    obtain⟨L,hLL⟩:∃ L,a.cl++b.cl=L:=⟨_,rfl⟩;rw[hLL]at a2 c62;cases hsp:splitW a b with
    | none=>
      have hW:prodW op a b=(zA,4):=by unfold prodW;rw[if_neg (by simp[hbw]),hsp]
      rw[hW];unfold pairAV;rw[hsp]at c62;unfold splitR at c62;simp only at c62;have hal:=O4 a.cl;have hpa:=AP a.cl;have hpb:=AP b.cl;clear h62 h62' hW hsp hLs;generalize topZ a.cl.flatten=ta at *;generalize topZ b.cl.flatten=tb at *;subst ht;obtain⟨cl,nx,ac⟩:=a;obtain⟨cl',nx',ac'⟩:=b;simp +contextual (disch:=omega) only[Tryz.f79,dd79,go_sem,simprocAttr,mu79,h32a,h32b,h134a,h134b,a1,a2,c62];exact⟨by unfold dOk;kernel_rfl,by unfold dOk;kernel_rfl,by(show (_||_)=true;kernel_rfl),_,rfl⟩
    | some C=>
      obtain⟨hCd,hCl,_,_⟩:=Hl hbw hsp;have h63:=S4 k op hk a b C hga hgb hda (by rw[ht]at *;exact hdb) hCd hCl;have hW:prodW op a b=if(prodR a b C).length<=1024 then(prodA op a b C,0) else(zA,4):=by unfold prodW;rw[if_neg (by simp[hbw]),hsp]
      rw[hW];rw[hsp]at c62;unfold splitR at c62;simp only at c62;have hst:∀(m:Nat) (st:Nat×Nat->Nat->Nat×Nat) (x:Nat×Nat),(exRow m st (prodR a b C) x).length=m:=fun m st x=>by simp[exRow]
      have hout:prodA op a b C=natA C ((prodR a b C).map (exRow C.length (stepP (nxN a.nx) (nxN b.nx) (inC a.cl C) (inC b.cl C)) (prodR a b C))) ((prodR a b C).map fun p=>op (a.ac[p.1]?.getD false) (b.ac[p.2]?.getD false)):=rfl;generalize prodA op a b C=PA at *;generalize hrows:(prodR a b C).map (exRow C.length (stepP (nxN a.nx) (nxN b.nx) (inC a.cl C) (inC b.cl C)) (prodR a b C))=rows at *;generalize hacs:((prodR a b C).map fun p=>op (a.ac[p.1]?.getD false) (b.ac[p.2]?.getD false))=acs at *;have hrl:∀ r∈rows,r.length=C.length:=fun r hr=>by
       rw[<- hrows]at hr;obtain⟨x,_,rfl⟩:=mem_map.1 hr;exact hst _ _ x
      have hal2:acs.length=rows.length:=by rw[<- hrows,<- hacs];simp
      generalize (prodR a b C).length=nR at *;have hpa:=AP a.cl;have hpb:=AP b.cl;clear h62 h62' hW hsp hLs hst hrows hacs;generalize topZ a.cl.flatten=ta at *;generalize topZ b.cl.flatten=tb at *;subst ht;have c63:=fun H=>Q3 k a b C H;have hfin:=fun H=>h63 H;by_cases hR:nR<=1024
      ·rw[if_pos hR];obtain⟨cl,nx,ac⟩:=a;obtain⟨cl',nx',ac'⟩:=b;simp +contextual (disch:=omega) only[Tryz.f79,dd79,go_sem,simprocAttr,mu79,h32a,h32b,h134a,h134b,a1,a2,c62];refine⟨by unfold dOk;kernel_rfl,by unfold dOk;kernel_rfl,by(show (_||_)=true;kernel_rfl),?_⟩;generalize MB.row 1 (L.map setAV9) n12=B3;rw[c63];obtain⟨r,e,h1,h2⟩:=h63 [.row 3 [autoAV ⟨cl,nx,ac⟩] 0,.row 3 [autoAV ⟨cl',nx',ac'⟩] 0,.row 3 [E3] 0,B3];obtain⟨p,q,K,Kz,er,hz⟩:=Oi (h1 hR) hrl hal2;rw[e,er];have hq1:∀(b0 b1 b2 y:MB) K,([b0,b1,b2,B3]++K).set 2 y=[b0,b1,y,B3]++K:=fun _ _ _ _ _=>rfl;have hq2:∀(b0 b1 b2:MB) K,([b0,b1,b2,B3]++K)[2]?=some b2:=fun _ _ _ _=>rfl;simp only[E3];simp +contextual (disch:=omega) only[Tryz.f79,dd79,go_sem,simprocAttr,evAppend,map_append,mu79,hq1,hq2];have hz1:=hz [.row 3 [autoAV ⟨cl,nx,ac⟩] 0,.row 3 [autoAV ⟨cl',nx',ac'⟩] 0,.row 3 [.agg [.sl false (C.map setAV9),.ms p 1 rows.length 0 rows.length,.ms q 1 rows.length 0 rows.length]] 0,B3] [] rfl;simp only[List.append_nil]at hz1;have e9:autoAV PA=.agg [.sl false (C.map setAV9),.sl false (rows.map nsAV),.sl false (acs.map AV.bool)]:=by rw[hout,Es]
       rw[<- e9]at hz1;exact⟨_,Ew hz1 (AY _ rfl)⟩
      ·rw[if_neg hR];obtain⟨cl,nx,ac⟩:=a;obtain⟨cl',nx',ac'⟩:=b;simp +contextual (disch:=omega) only[Tryz.f79,dd79,go_sem,simprocAttr,mu79,h32a,h32b,h134a,h134b,a1,a2,c62];refine⟨by unfold dOk;kernel_rfl,by unfold dOk;kernel_rfl,by(show (_||_)=true;kernel_rfl),?_⟩;generalize MB.row 1 (L.map setAV9) n12=B3;rw[c63];obtain⟨r,e,h1,h2⟩:=h63 [.row 3 [autoAV ⟨cl,nx,ac⟩] 0,.row 3 [autoAV ⟨cl',nx',ac'⟩] 0,.row 3 [E3] 0,B3];obtain⟨K,er⟩:=h2 (by omega);rw[e,er];have hq1:∀(b0 b1 b2 y:MB) K,([b0,b1,b2,B3]++K).set 2 y=[b0,b1,y,B3]++K:=fun _ _ _ _ _=>rfl;have hq2:∀(b0 b1 b2:MB) K,([b0,b1,b2,B3]++K)[2]?=some b2:=fun _ _ _ _=>rfl;simp only[E3];simp +contextual (disch:=omega) only[Tryz.f79,dd79,go_sem,simprocAttr,evAppend,map_append,mu79,hq1,hq2];exact⟨_,rfl⟩
   ·have hW:prodW op a b=(zA,1):=by
     have hb:bothW a b=1:=by unfold bothW;rw[if_neg (by simp[hva]),if_neg (by simp[hvb]),if_pos ht]
     unfold prodW;rw[hb,if_pos (by decide)]
    rw[hW];unfold pairAV;generalize topZ a.cl.flatten=ta at *;generalize topZ b.cl.flatten=tb at *;obtain⟨cl,nx,ac⟩:=a;obtain⟨cl',nx',ac'⟩:=b;simp +contextual (disch:=omega) only[Tryz.f79,dd79,go_sem,simprocAttr,evAppend,map_append,mu79,h32a,h32b,h134a,h134b,ht];exact⟨by unfold dOk;kernel_rfl,_,rfl⟩
  ·have hW:prodW op a b=(zA,validW (dividesA b.cl) b):=by
    have hb:bothW a b=validW (dividesA b.cl) b:=by unfold bothW;rw[if_neg (by simp[hva]),if_pos hvb]
    unfold prodW;rw[hb,if_pos hvb]
   rw[hW];unfold pairAV;rw[hva]at h32a;obtain⟨cl,nx,ac⟩:=a;obtain⟨cl',nx',ac'⟩:=b;simp +contextual (disch:=omega) only[Tryz.f79,dd79,go_sem,simprocAttr,evAppend,map_append,mu79,h32a,h32b,hvb];exact⟨_,rfl⟩
 ·have hW:prodW op a b=(zA,validW (dividesA a.cl) a):=by
   have hb:bothW a b=validW (dividesA a.cl) a:=by unfold bothW;rw[if_pos hva]
   unfold prodW;rw[hb,if_pos hva]
  rw[hW];unfold pairAV;obtain⟨cl,nx,ac⟩:=a;obtain⟨cl',nx',ac'⟩:=b;simp +contextual (disch:=omega) only[Tryz.f79,dd79,go_sem,simprocAttr,evAppend,map_append,mu79,h32a,hva];exact⟨_,rfl⟩
end
section
attribute [local go_sem] evAppend map_append
theorem f34 (how:Int) (op:Bool->Bool->Bool) (hk:(how=0/\op=fun x y=>x&&y)∨(how=1/\op=fun x y=>x||y)) (a b:AutoL) (hba:AutoB a) (hbb:AutoB b) (H:List MB) :
  call Pg pol1 34 [autoAV a,autoAV b,I how] H=some (pairAV (combW op a b),H):=by
 have h79:=f79 (2+how) op (by rcases hk with h|h;exact Or.inl ⟨by omega,h.2⟩;exact Or.inr ⟨by omega,h.2⟩) a b hba hbb;have hg:=@FU op a b;have hpp:=Am (combW op a b);have hpl:=AX a;have hpl2:=AX b;refine AQ Tryz.func34 rfl rfl rfl rfl rfl rfl (fun _=>rfl) (by simp only[AV.plainL,hpl,hpl2];rfl) hpp ?_ H;have hw:IntKind.i64.wrap (2+how)=2+how:=by rcases hk with h|h<;>rw[h.1]<;>rfl
 unfold combW at hpp |-;generalize prodW op a b=r at *;obtain⟨r,e⟩:=r;simp only at hg hpp |-;by_cases he:e=0
 ·subst he;rw[if_neg (by simp)]at hpp |-;obtain⟨g1,g2⟩:=hg rfl;have h64:=f64L r g1 g2;have hplr:=AX r;unfold pairAV at h64 hpp |- h79;generalize lstW r=q at *;obtain⟨q,e⟩:=q;simp only at h64 hpp |- h79;obtain⟨cl,nx,ac⟩:=r;simp +contextual (disch:=omega) only[Tryz.f34,dd34,go_sem,simprocAttr,mu34,h79,h64,hw];exact fzEq hpp rfl
 ·rw[if_pos he]at hpp |-;unfold pairAV at hpp |- h79;simp only at hpp |- h79;obtain⟨cl,nx,ac⟩:=r;simp +contextual (disch:=omega) only[Tryz.f34,dd34,go_sem,simprocAttr,mu34,h79,he,hw];exact⟨_,rfl⟩
theorem T4 (a:AutoL) {top:Int} (hg:GoodA a) (hd:DivOk a.cl top) (H:List MB) :
  ∃ r,call Pg pol1 63 [mkA 5 a zA a.cl] H=some r/\((revR a).length<=1024->ExpOut a.cl a.cl.length ((revR a).map (exRow a.cl.length (revStep a) (revR a))) ((revR a).map fun x=>x[0]?.getD false) H r) /\
    (1024<(revR a).length->∃ K,r=(.tup [.agg [.sl true [],.sl true [],.sl true []],I 4],H++K)):=by
 have hal:=hg.ac;have hnx:=hg.nx
 obtain⟨r,⟨h1,h2⟩,h3⟩:=f63 idxs (boolsU a.nx.length) (revR a) a.cl.length (revStep a) (fun x=>x[0]?.getD false) a.ac 5 a zA a.cl
  (fun x hx y hy h=>Qz (by rw[BA.1 hx,BA.1 hy]) h) (fun x hx=>by
    have:=Db x x.length;have e:=BA.1 hx;unfold idxs;omega) (fun x _ c _=>BA.2 (CV a x c)) (QT hg) rfl hg.cl rfl
  (fun H=>UV a zA a.cl (by omega) H) (fun x hx c hc H=>UT a zA hg hd x (BA.1 hx) hc H) (fun x hx H=>UR a zA a.cl x (by rw[BA.1 hx];omega) H) H
 exact⟨r,h3,h1,h2⟩
theorem SG (a:AutoL) (H:List MB) :
  call Pg pol1 63 [.agg [I 5,.sl true [],I 0,.bool false,.sl false (a.cl.map setAV9),.sl false (a.nx.map rowAV),.sl false (a.ac.map AV.bool),.sl true [],.sl true [],.sl true [],.sl false (a.cl.map setAV9)]] H=call Pg pol1 63 [mkA 5 a zA a.cl] H:=by
 refine Dm (P:=Pg) (pol:=pol1) (f:=63) rfl rfl (by decide) ?_ (by simp only[AV.plainL,A3];rfl);have hz:=Ob 5 (DS a.cl H) (AY H (show AV.plain (.sl false (a.nx.map rowAV))=true by simp[AV.plain,AT])) (AY H (show AV.plain (.sl false (a.ac.map AV.bool))=true by simp[AV.plain,AN])) (DS a.cl H);have hz:fz (.agg [I 5,.sl true [],I 0,.bool false,.sl false (a.cl.map setAV9),.sl false (a.nx.map rowAV),.sl false (a.ac.map AV.bool),.sl true [],.sl true [],.sl true [],.sl false (a.cl.map setAV9)]) H=some (mkA 5 a zA a.cl,H):=hz;simp only[frzArgs,show pol1.byref 63 0=false from rfl,false_eq_true,if_false,hz]
theorem f31v (a:AutoL) (hb:AutoB a) (hg:GoodA a) {top:Int} (hd:DivOk a.cl top) (hv:validW (dividesA a.cl) a=0) (H:List MB):call Pg pol1 31 [autoAV a] H=some (pairAV (revW a),H):=by
 have hpl:=AX a;have h32:=f32d a hb;rw[hv]at h32;have hpp:=Am (revW a);have h63:=T4 a hg hd;refine AQ Tryz.func31 rfl rfl rfl rfl rfl rfl (fun _=>rfl) (by simp only[AV.plainL,hpl];rfl) hpp ?_ H;have c63:=fun H=>SG a H;unfold revW at hpp |-;by_cases hR:(revR a).length<=1024
 ·rw[if_pos hR]at hpp |-;have hrl:∀ r∈(revR a).map (exRow a.cl.length (revStep a) (revR a)),r.length=a.cl.length:=fun r hr=>by
   obtain⟨x,_,rfl⟩:=mem_map.1 hr;simp[exRow]
  have hal2:((revR a).map fun x=>x[0]?.getD false).length=((revR a).map (exRow a.cl.length (revStep a) (revR a))).length:=by simp
  have hout:revA a=natA a.cl ((revR a).map (exRow a.cl.length (revStep a) (revR a))) ((revR a).map fun x=>x[0]?.getD false):=rfl;have h64:=f64L (revA a) (Cy (Hq hg) rfl hg.cl hR) (by exact hd);generalize lstW (revA a)=q at *;generalize revA a=RA at *;generalize (revR a).map (exRow a.cl.length (revStep a) (revR a))=rows at *;generalize ((revR a).map fun x=>x[0]?.getD false)=acs at *;unfold pairAV at h64 hpp |-;obtain⟨q,e⟩:=q;simp only at h64 hpp |-;generalize (revR a).length=nR at *;obtain⟨cl,nx,ac⟩:=a;simp +contextual (disch:=omega) only[Tryz.f31,dd31,go_sem,simprocAttr,mu31,h32];rw[c63];obtain⟨r,e9,h1,h2⟩:=h63 [.row 3 [autoAV ⟨cl,nx,ac⟩] 0,.row 3 [E3] 0];obtain⟨p,q',K,Kz,er,hz⟩:=Oi (h1 hR) hrl hal2;rw[e9,er];simp only[E3,cons_append,nil_append];have k1:∀ x:MB,(K++[x])[K.length]?=some x:=fun x=>by simp
  have k2:∀ x y:MB,(K++[x]).set K.length y=K++[y]:=fun x y=>by rw[List.set_append_right _ _ (le_refl _),sub_self];rfl
  have hz1:=fun T=>hz [.row 3 [autoAV ⟨cl,nx,ac⟩] 0,.row 3 [E3] 0] T rfl;have e9:autoAV RA=.agg [.sl false (cl.map setAV9),.sl false (rows.map nsAV),.sl false (acs.map AV.bool)]:=by rw[hout,Es]
  rw[<- e9]at hz1;simp only[E3,cons_append,nil_append]at hz1;have c64:=fun T=>(A5 (P:=Pg) (pol:=pol1) (f:=64) (args:=[.agg [.sl false (cl.map setAV9),.ms p 1 rows.length 0 rows.length,.ms q' 1 rows.length 0 rows.length]]) (l:=[autoAV RA]) (H:=.row 3 [autoAV ⟨cl,nx,ac⟩] 0::.row 3 [.agg [.sl true [],.sl true [],.sl true []]] 0::(K++T)) (H1:=.row 3 [autoAV ⟨cl,nx,ac⟩] 0::.row 3 [.agg [.sl true [],.sl true [],.sl true []]] 0::(Kz++T)) rfl (by
   simp only[frzArgs,show pol1.byref 64 0=false from rfl,false_eq_true,if_false,hz1 T]) (by simp only[AV.plainL,AX];rfl)).trans (h64 _)
  simp +contextual (disch:=omega) only[Tryz.f31,dd31,go_sem,simprocAttr,mu31,k1,k2,c64];exact fzEq hpp rfl
 ·rw[if_neg hR]at hpp |-;generalize (revR a).map (exRow a.cl.length (revStep a) (revR a))=rows at *;generalize ((revR a).map fun x=>x[0]?.getD false)=acs at *;generalize (revR a).length=nR at *;obtain⟨cl,nx,ac⟩:=a;simp +contextual (disch:=omega) only[Tryz.f31,dd31,go_sem,simprocAttr,mu31,h32];rw[c63];obtain⟨r,e9,h1,h2⟩:=h63 [.row 3 [autoAV ⟨cl,nx,ac⟩] 0,.row 3 [E3] 0];obtain⟨K,er⟩:=h2 (by omega);rw[e9,er];simp only[E3,cons_append,nil_append];have k1:∀ x:MB,(K++[x])[K.length]?=some x:=fun x=>by simp
  have k2:∀ x y:MB,(K++[x]).set K.length y=K++[y]:=fun x y=>by rw[List.set_append_right _ _ (le_refl _),sub_self];rfl
  simp +contextual (disch:=omega) only[Tryz.f31,dd31,go_sem,simprocAttr,mu31,k1,k2];exact⟨_,rfl⟩
theorem f31 (a:AutoL) (hb:AutoB a) (H:List MB):call Pg pol1 31 [autoAV a] H=some (pairAV (ofValid a revW),H):=by
 unfold ofValid;by_cases hv:validW (dividesA a.cl) a=0
 ·rw[if_neg (by simp[hv])];obtain⟨hg,hd⟩:=A0 hv;exact f31v a hb hg (B7 hd) hv H
 ·rw[if_pos hv];have hpl:=AX a;have h32:=f32d a hb;refine AQ Tryz.func31 rfl rfl rfl rfl rfl rfl (fun _=>rfl) (by simp only[AV.plainL,hpl];rfl) (Am _) ?_ H;unfold pairAV;obtain⟨cl,nx,ac⟩:=a;simp +contextual (disch:=omega) only[Tryz.f31,dd31,go_sem,simprocAttr,mu31,h32,hv];exact⟨_,rfl⟩
end
end Go.Ev
