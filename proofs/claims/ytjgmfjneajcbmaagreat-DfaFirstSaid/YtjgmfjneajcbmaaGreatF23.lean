/- What functions of the program compute; no further conditions. -/
import Derived.Test.YtjgmfjneajcbmaaGreatF22
set_option linter.unusedVariables false
set_option linter.unusedSimpArgs false
open List (all_append append_nil map_append map_take take_of_length_le)
open Go.Proofs Go.RowKit Go.IntWalk
set_option maxHeartbeats 8000000
set_option maxRecDepth 100000
namespace Go.Ev
attribute [local go_sem] AV.cells AV.ok frzB Av BG bndO bnd evEq eqCells not_false_eq_true not_true_eq_false Af Array.size_empty List.length_append tySzE List.head?_drop Nat.mul_one AR AY AP AS AT Ad
section
attribute [local go_sem] evBin
section
variable (k:IntKind) (a b:Int)
theorem Bc:evBin .add k a b=some (.int k (k.wrap (a+b))):=rfl
theorem BX:evBin .sub k a b=some (.int k (k.wrap (a-b))):=rfl
theorem Bb:evBin .eql k a b=some (.bool (a==b)):=rfl
theorem BY:evBin .neq k a b=some (.bool (a != b)):=rfl
theorem BZ:evBin .lss k a b=some (.bool (decide (a<b))):=rfl
theorem Ba:evBin .gtr k a b=some (.bool (decide (a > b))):=rfl
end
section
variable {α:Type} (K:List α) (a b c x:α)
theorem ex1:∃ L,K++[a]=K++L:=⟨_,rfl⟩
theorem ex2:∃ L,K++[a]++[b]=K++L:=⟨[a,b],by simp⟩
theorem ex3:∃ L,K++[a]++[b]++[c]=K++L:=⟨[a,b,c],by simp⟩
theorem B1:(K++[a]++[b])[K.length]?=some a:=by simp
theorem Bv:(K++[a]++[b])[K.length+1]?=some b:=by simp
theorem Bz:(K++[a]++[b]).set K.length x=K++[x]++[b]:=by simp
theorem By:(K++[a]++[b]).set (K.length+1) x=K++[a]++[x]:=by simp[List.set_append]
theorem P6:(K++[a]++[b]++[c])[K.length]?=some a:=by simp
theorem P5:(K++[a]++[b]++[c])[K.length+1]?=some b:=by simp[List.getElem?_append]
theorem P4:(K++[a]++[b]++[c])[K.length+1+1]?=some c:=by
 rw[List.getElem?_append_right (by simp)];simp
theorem Pc:(K++[a]++[b]++[c]).set K.length x=K++[x]++[b]++[c]:=by simp
theorem Pb:(K++[a]++[b]++[c]).set (K.length+1) x=K++[a]++[x]++[c]:=by simp[List.set_append]
theorem Pa:(K++[a]++[b]++[c]).set (K.length+1+1) x=K++[a]++[b]++[x]:=by
 rw[List.set_append_right _ _ (by simp)];simp
end
theorem Da {f:Nat} (hk:pol1.keep f=false) (ho:pol1.own f=false) {l:List Int}{uses:Int} (s s':MS) {b0:MB}{K M:List MB} (hM:∃ L,M=K++L) {r r':AV} (hz:∀ H,fz r H=some (r',H)) (hp:AV.plain r' = true) :
  retPol pol1 f (mH b0 l uses s K) r (mH b0 l uses s' M)=some (r',mH b0 l uses s' K):=by
 obtain⟨L,rfl⟩:=hM;exact Lh hk ho hz hp
theorem B9 {f:Nat} (hk:pol1.keep f=false) (ho:pol1.own f=false) {l:List Int}{uses:Int} (s s':MS) {b0:MB}{K M:List MB} (hM:∃ L,M=K++L) (a b:Bool) (op:Int) (set:List (Int×Int)) (kids:List Re) (mn mx md n:Int) (neg:Bool) :
  retPol pol1 f (mH b0 l uses s K) (.agg [I op,.sl a (set.map spanAV),.sl b (kids.map reAV),I mn,I mx,I md,I n,.bool neg]) (mH b0 l uses s' M)=some (reAV (.mk op set kids mn mx md n neg),mH b0 l uses s' K):=by
 rw[Da hk ho s s' hM (Mi a b op set kids mn mx md n neg) (by simp[AV.plain,AV.plainL,AF,AN])];rw[show reAV (.mk op set kids mn mx md n neg)=.agg (nodeL op set kids mn mx md n neg) from congrArg AV.agg Bh]
section
variable {l:List Int} (hl:∀ x∈l,In64 x) {uses:Int}{d:Nat} (hd:d<=5) (ht:TreeLaw l uses d) (hb:TreeB l uses d)
include hl hd ht hb
theorem f99 (s:MS) (hp:Pre (5+3*mA1 d) (3*mS1 d) s) (b0:MB) (K:List MB) :
  call Pg pol1 128 [.rf 1 1 0 0,I ((d+1:Nat):Int)] (mH b0 l uses s K)=some (.sl false ((kidsF l (treeF l uses d) s).1.map reAV),mH b0 l uses (kidsF l (treeF l uses d) s).2 K):=by
 have fr:frzArgs pol1 128 0 [.rf 1 1 0 0,I ((d+1:Nat):Int)] (mH b0 l uses s K)=some ([.rf 1 1 0 0,I ((d+1:Nat):Int)],mH b0 l uses s K):=AL _ _ _ rfl;have hA:=Bf d;have hS:=Be d;have hpost:=fun i hi=>Ez hb hp i hi;have hmul:∀ i n:Nat,i<=n->(i:Int)*mA1 d<=n*mA1 d/\(i:Int)*mS1 d<=n*mS1 d:=fun i n hi=>⟨Int.mul_le_mul_of_nonneg_right (by omega) (by omega),Int.mul_le_mul_of_nonneg_right (by omega) (by omega)⟩;have hlen:=fun i=>ML l (treeF l uses d) s i;refine AO (pol:=pol1) Tryz.func128 rfl rfl rfl rfl fr ?_;obtain⟨N,hN,hN2,hval⟩:∃ N:Nat,2<=N/\N<=3/\kidsF l (treeF l uses d) s=((stK l (treeF l uses d) s N).1,(nx l 2 (stK l (treeF l uses d) s N).2).2)/\(N=3->(nx l 2 (stK l (treeF l uses d) s 2).2).1=1)/\(N=2->(nx l 2 (stK l (treeF l uses d) s 2).2).1≠1):=by
  unfold kidsF;by_cases h:(nx l 2 (stK l (treeF l uses d) s 2).2).1=1
  ·exact⟨3,by omega,by omega,if_pos h,fun _=>h,fun h=>by omega⟩
  ·exact⟨2,by omega,by omega,if_neg h,fun h=>by omega,fun _=>h⟩
 obtain⟨hval,h3,h2⟩:=hval;rw[hval];simp +contextual (disch:=omega) only[Tryz.f128,O6,go_sem,simprocAttr,evAppend,map_append,OU,↓AD,↓AC,↓AB,↓AA];refine Ae (M:=(mskOf (pol1.mask 128) (pol1.gc 128) (pol1.acts 128) 0 3)) rfl N (fun i=>(⟨22,[(6,I i),(5,.ms (K.length+1+1) 8 i 0 i),(1,I ((d+1:Nat):Int)),(0,.rf 1 1 0 0)],mH b0 l uses (stK l (treeF l uses d) s i).2 (K++[.row 8 ((stK l (treeF l uses d) s i).1.map reAV) 0])⟩:St)) (fun _=>True) ?_ ?_ trivial _ (by rfl)
 ·intro i hi _;have pi:=hpost i (by omega);have hmi:=hmul i 2 (by omega);have hli:=hlen i;have e:stK l (treeF l uses d) s (i+1)=((stK l (treeF l uses d) s i).1++[(treeF l uses d (nx l 2 (stK l (treeF l uses d) s i).2).2).1],(treeF l uses d (nx l 2 (stK l (treeF l uses d) s i).2).2).2):=rfl;rw[e];have hv2:i=2->(nx l 2 (stK l (treeF l uses d) s i).2).1=1:=fun h=>by subst h;exact h3 (by omega)
  generalize stK l (treeF l uses d) s i=X at *;obtain⟨ks,si⟩:=X;simp only at pi hli hv2 |-;obtain⟨pa,pl,pc⟩:=pi;obtain⟨qa,ql,qc⟩:=hp;have h97:=fun K=>f97 l hl uses 2 (by omega) si ⟨by omega,by omega⟩ b0 K;have hv:=Bl l (n:=2) (by omega) si;have hq:=At l 2 si pc;generalize nx l 2 si=Y at *;obtain⟨v,sj⟩:=Y;simp only at h97 hv hq hv2 |-;obtain⟨ra,rl,rc⟩:=hq;have h44:=fun K=>ht sj b0 K ⟨by omega,by omega,rc⟩;generalize treeF l uses d sj=Z at *;obtain⟨r,sk⟩:=Z;simp only at h44 |-;have hap:=fun s=>Q7 (H:=mH b0 l uses s (K++[.row 8 (ks.map reAV) 0])) (i:=K.length+1+1) (n:=i) (t:=true) (y:=reAV r) (z:=0) (els:=ks.map reAV) (by simp[getRow]) (by rw[List.length_map];exact hli) (by simp[AV.cells,AM,Au]) (Nat.zero_le _) (by omega);simp +contextual (disch:=omega) only[Tryz.f128,O6,go_sem,simprocAttr,OU,↓AD,↓AC,↓AB,↓AA,h97,h44,hap,Ai,Aq,AM,Au,AU,BJ,append_nil];rw[map_append];rfl
 ·intro _;have pi:=hpost N (by omega);have hmi:=hmul N 3 (by omega);have hli:=hlen N;have hv2:N=2->(nx l 2 (stK l (treeF l uses d) s N).2).1≠1:=fun h=>by rw[h];exact h2 h
  generalize stK l (treeF l uses d) s N=X at *;obtain⟨ks,si⟩:=X;simp only at pi hli hv2 |-;obtain⟨pa,pl,pc⟩:=pi;obtain⟨qa,ql,qc⟩:=hp;have h97:=fun K=>f97 l hl uses 2 (by omega) si ⟨by omega,by omega⟩ b0 K;have hv:=Bl l (n:=2) (by omega) si;generalize nx l 2 si=Y at *;obtain⟨v,sj⟩:=Y;simp only at h97 hv hv2 |-;have hvn:¬ (N:Int)<2+v:=by omega
  simp +contextual (disch:=omega) only[Tryz.f128,O6,go_sem,simprocAttr,OU,↓AD,↓AC,↓AB,↓AA,h97,Ai,Aq,AM,Au,AU,BJ,append_nil];exact N5 rfl rfl hli
theorem f100 (s:MS) (hp:Pre (5+3*mA1 d) (3*mS1 d) s) (b0:MB) (K:List MB) :
  call Pg pol1 129 [.rf 1 1 0 0,I ((d+1:Nat):Int)] (mH b0 l uses s K)=some (reAV (repF l uses (treeF l uses d) s).1,mH b0 l uses (repF l uses (treeF l uses d) s).2 K):=by
 have fr:frzArgs pol1 129 0 [.rf 1 1 0 0,I ((d+1:Nat):Int)] (mH b0 l uses s K)=some ([.rf 1 1 0 0,I ((d+1:Nat):Int)],mH b0 l uses s K):=AL _ _ _ rfl;have hA:=Bf d;have hS:=Be d;unfold repF;obtain⟨qa,ql,qc⟩:=hp;have h97a:=fun K=>f97 l hl uses 12 (by omega) s ⟨by omega,by omega⟩ b0 K;have hk:=Bl l (n:=12) (by omega) s;have p1:=At l 12 s qc;generalize nx l 12 s=Y at *;obtain⟨k,s1⟩:=Y;simp only at h97a hk p1 |-;obtain⟨kn,rfl⟩:∃ kn:Nat,k=kn:=⟨k.toNat,by omega⟩;obtain⟨hm1,hm2⟩:[I 0,I 0,I 0,I 0,I 1,I 1,I 1,I 0,I 2,I 0,I 1,I 2][kn]?=some (I (([0,0,0,0,1,1,1,0,2,0,1,2]:List Int).getD kn 0))/\[I (-1),I (-1),I (-1),I 1,I (-1),I (-1),I 2,I 2,I 2,I 3,I 1,I (-1)][kn]?=some (I (([-1,-1,-1,1,-1,-1,2,2,2,3,1,-1]:List Int).getD kn 0)):=by
  have:kn=0∨kn=1∨kn=2∨kn=3∨kn=4∨kn=5∨kn=6∨kn=7∨kn=8∨kn=9∨kn=10∨kn=11:=by omega
  rcases this with rfl|rfl|rfl|rfl|rfl|rfl|rfl|rfl|rfl|rfl|rfl|rfl<;>exact⟨rfl,rfl⟩
 simp only[Int.toNat_natCast];generalize ([0,0,0,0,1,1,1,0,2,0,1,2]:List Int).getD kn 0=mn at *;generalize ([-1,-1,-1,1,-1,-1,2,2,2,3,1,-1]:List Int).getD kn 0=mx at *;have h97b:=fun K=>f97 l hl uses 2 (by omega) s1 ⟨by have:=p1.a;omega,by have:=p1.a;omega⟩ b0 K;have p2:=p1.trans (At l 2 s1 p1.c);generalize nx l 2 s1=Y at *;obtain⟨md,s2⟩:=Y;simp only at h97b p2 |-;have h97c:=fun K=>f97 l hl uses 4 (by omega) s2 ⟨by have:=p2.a;omega,by have:=p2.a;omega⟩ b0 K;have p3':=p2.trans (At l 4 s2 p2.c)
 obtain⟨m,s3,hm,p3,hms⟩:∃ m s3,(if 0<andI uses 8 then(if(nx l 4 s2).1=0 then(2:Int) else md,(nx l 4 s2).2) else(md,s2))=(m,s3)/\Post (1+1+1) (0+0+0) s s3 /\
   ((¬ 0<andI uses 8/\m=md/\s3=s2)∨(0<andI uses 8/\(nx l 4 s2).1=0/\m=2/\s3=(nx l 4 s2).2)∨(0<andI uses 8/\(nx l 4 s2).1≠0/\m=md/\s3=(nx l 4 s2).2)):=by
  by_cases u:0<andI uses 8
  ·rw[if_pos u];by_cases x0:(nx l 4 s2).1=0
   ·rw[if_pos x0];exact⟨_,_,rfl,p3',.inr (.inl ⟨u,x0,rfl,rfl⟩)⟩
   ·rw[if_neg x0];exact⟨_,_,rfl,p3',.inr (.inr ⟨u,x0,rfl,rfl⟩)⟩
  ·rw[if_neg u];exact⟨_,_,rfl,p2.up (by omega) (by omega),.inl ⟨u,rfl,rfl⟩⟩
 rw[hm];clear hm p3';simp only;generalize nx l 4 s2=Y at *;obtain⟨x,s2'⟩:=Y;simp only at h97c hms |-;have hpre:Pre (mA1 d) (mS1 d) s3:=⟨⟨by have:=p3.a;omega,by have:=p3.a;omega⟩,⟨by have:=p3.l;omega,by have:=p3.l;omega⟩,p3.c⟩;have hw6:mW1 d<=1000000:=by
  have:d=0∨d=1∨d=2∨d=3∨d=4∨d=5:=by omega
  rcases this with rfl|rfl|rfl|rfl|rfl|rfl<;>decide
 have h44:=fun K=>ht s3 b0 K hpre;have p4:=hb s3 hpre;have h20:=f20 (treeF l uses d s3).1.wt (treeF l uses d s3).1 (Nat.le_refl _) (Nat.le_trans (Gj l uses d s3) hw6);generalize treeF l uses d s3=Y at *;obtain⟨r,s4⟩:=Y;simp only at h44 p4 h20 |-;have h98:=fun K=>f98 l hl uses s4 ⟨by have:=p3.a;have:=p4.a;omega,by have:=p3.a;have:=p4.a;omega⟩ b0 K;obtain⟨X,hX,hXc⟩:∃ X,(if andI uses 32=0/\nullG r=true then setM l s4 else(r,s4))=X/\((andI uses 32≠0/\X=(r,s4))∨(andI uses 32=0/\nullG r=true/\X=setM l s4)∨(andI uses 32=0/\nullG r=false/\X=(r,s4))):=by
  by_cases u:andI uses 32=0
  ·cases hn:nullG r with
   | true=>exact⟨_,if_pos ⟨u,rfl⟩,.inr (.inl ⟨u,rfl,rfl⟩)⟩
   | false=>exact⟨_,if_neg (by simp),.inr (.inr ⟨u,rfl,rfl⟩)⟩
  ·exact⟨_,if_neg (fun h=>u h.1),.inl ⟨u,rfl⟩⟩
 rw[hX];clear hX;generalize setM l s4=Y at *;obtain⟨r5,s5⟩:=Y;simp only at h98;refine AO (pol:=pol1) Tryz.func129 rfl rfl rfl rfl fr ?_;rcases hms with ⟨u8,rfl,rfl⟩|⟨u8,rfl,rfl,rfl⟩|⟨u8,x0,rfl,rfl⟩<;>rcases hXc with ⟨u32,rfl⟩|⟨u32,hn,rfl⟩|⟨u32,hn,rfl⟩
 all_goals try rw[hn]at h20
 all_goals simp +contextual (disch:=omega) only[Tryz.f129,Sm,go_sem,simprocAttr,evAppend,map_append,SD,↓AD,↓AC,↓AB,↓AA,h97a,h97b,h97c,h44,h20,h98,hm1,hm2,↓Bd,Ai,Aq,B1,Bv,Bz,By,P6,P5,P4,Pc,Pb,Pa,AM,Au,AU,BJ,append_nil]
 all_goals repeat' (first|intro _|apply And.intro|(unfold dOk;kernel_rfl)|exact St.beq_refl _|(show altO _ _ _ _=true;kernel_rfl)|(show (_||_)=true;kernel_rfl)|(show (_&&_)=true;kernel_rfl))
 all_goals exact B9 (by rfl) (by rfl) s _ (ex3 ..) true true 4 [] [_] _ _ _ 0 false
theorem f101 (s:MS) (hp:Pre (5+3*mA1 d) (3*mS1 d) s) (b0:MB) (K:List MB) :
  call Pg pol1 130 [.rf 1 1 0 0,I ((d+1:Nat):Int)] (mH b0 l uses s K)=some (reAV (capF l (treeF l uses d) s).1,mH b0 l uses (capF l (treeF l uses d) s).2 K):=by
 have _:=hb;have fr:frzArgs pol1 130 0 [.rf 1 1 0 0,I ((d+1:Nat):Int)] (mH b0 l uses s K)=some ([.rf 1 1 0 0,I ((d+1:Nat):Int)],mH b0 l uses s K):=AL _ _ _ rfl;have hA:=Bf d;have hS:=Be d;unfold capF;obtain⟨qa,ql,qc⟩:=hp;have h97a:=fun K=>f97 l hl uses 9 (by omega) s ⟨by omega,by omega⟩ b0 K;have p1:=At l 9 s qc;have hmx1:(if s.caps > 1 then s.caps else 1)=max 1 s.caps:=by split<;>omega
 have c1:(nx l 9 s).2.caps=s.caps:=rfl;generalize nx l 9 s=Y at *;obtain⟨x,s1⟩:=Y;simp only at h97a p1 c1 |-
 obtain⟨b,s2,hps,p2,c2,hc⟩:∃(b:Bool) (s2:MS),(if 4<s.caps+1 then(true,s) else if 0<s.caps then(decide (x=0),s1) else(false,s))=(b,s2)/\Post 1 0 s s2/\s2.caps=s.caps /\
   ((4<s.caps+1/\b=true/\s2=s)∨(¬ 4<s.caps+1/\0<s.caps/\x=0/\b=true/\s2=s1)∨(¬ 4<s.caps+1/\0<s.caps/\x≠0/\b=false/\s2=s1)∨(¬ 4<s.caps+1/\¬ 0<s.caps/\b=false/\s2=s)):=by
  have p0:Post 1 0 s s:=⟨by omega,by omega,qc⟩;by_cases h1:4<s.caps+1
  ·rw[if_pos h1];exact⟨_,_,rfl,p0,rfl,.inl ⟨h1,rfl,rfl⟩⟩
  ·rw[if_neg h1];by_cases h2:0<s.caps
   ·rw[if_pos h2];by_cases h3:x=0
    ·exact⟨true,s1,by rw[decide_eq_true h3],p1,c1,.inr (.inl ⟨h1,h2,h3,rfl,rfl⟩)⟩
    ·exact⟨false,s1,by rw[decide_eq_false h3],p1,c1,.inr (.inr (.inl ⟨h1,h2,h3,rfl,rfl⟩))⟩
   ·rw[if_neg h2];exact⟨_,_,rfl,p0,rfl,.inr (.inr (.inr ⟨h1,h2,rfl,rfl⟩))⟩
 rw[hps];clear hps;simp only;have hm1:0<max 1 s2.caps:=by omega
 have h97b:=fun K=>f97 l hl uses (max 1 s2.caps) (by omega) s2 ⟨by have:=p2.a;omega,by have:=p2.a;omega⟩ b0 K;have p3:=p2.trans (At l (max 1 s2.caps) s2 p2.c);have hv:=Bl l hm1 s2;have c3:(nx l (max 1 s2.caps) s2).2.caps=s2.caps:=rfl;generalize hY:nx l (max 1 s2.caps) s2=Y at *;obtain⟨y,s3⟩:=Y;clear hY;simp only at h97b p3 hv c3 |-;rw[c2]at h97b hv c3;obtain⟨m,s4,hms,p4,c4,hmb,hc2⟩:∃(m:Int) (s4:MS),(if b=true then(1+y,s3) else(s.caps+1,s2))=(m,s4)/\Post 2 0 s s4/\s4.caps=s.caps/\(0<=m/\m<=4)/\((b=true/\m=1+y/\s4=s3)∨(b=false/\m=s.caps+1/\s4=s2)):=by
  cases b with
  | true=>exact⟨_,_,if_pos rfl,p3,c3,by omega,.inl ⟨rfl,rfl,rfl⟩⟩
  | false=>
    refine⟨_,_,if_neg Bool.false_ne_true,p2.up (by omega) (by omega),c2,?_,.inr ⟨rfl,rfl,rfl⟩⟩;rcases hc with h|h|h|h<;>first|omega|(simp at h;done)|(simp at h;omega)
 rw[hms];clear hms;simp only;have hmx2:(if m > s.caps then m else s.caps)=max s.caps m:=by split<;>omega
 have hpre:Pre (mA1 d) (mS1 d) ⟨s4.at_,s4.left,max s.caps m⟩:=⟨⟨by have:=p4.a;simp only;omega,by have:=p4.a;simp only;omega⟩,⟨by have:=p4.l;simp only;omega,by have:=p4.l;simp only;omega⟩,by simp only;omega⟩;have h44:=fun K=>ht _ b0 K hpre;rw[c4];generalize treeF l uses d ⟨s4.at_,s4.left,max s.caps m⟩=Y at *;obtain⟨r,s5⟩:=Y;simp only at h44 |-;have fin:∀(M:List MB),(∃ L,M=K++L)->retPol pol1 130 (mH b0 l uses s K) (.agg [I 5,.sl true [],.sl true [reAV r],I 0,I 0,I 0,I m,.bool false]) (mH b0 l uses s5 M)=some (reAV (.mk 5 [] [r] 0 0 0 m false),mH b0 l uses s5 K):=fun M hM=>
  B9 (by rfl) (by rfl) s s5 hM true true 5 [] [r] 0 0 0 m false
 refine AO (pol:=pol1) Tryz.func130 rfl rfl rfl rfl fr ?_;rcases hc with ⟨g1,rfl,rfl⟩|⟨g1,g2,g3,rfl,rfl⟩|⟨g1,g2,g3,rfl,rfl⟩|⟨g1,g2,rfl,rfl⟩<;>rcases hc2 with ⟨g4,rfl,rfl⟩|⟨g4,rfl,rfl⟩<;>(try cases g4)
 ·rw[show max 1 s2.caps=s2.caps by omega]at h97b;simp +contextual (disch:=omega) only[Tryz.f130,Mo,go_sem,simprocAttr,evAppend,map_append,Mb,↓AD,↓AC,↓AB,↓AA,h97a,h97b,h44,hmx1,hmx2,c1,c2,c3,evMax,Ai,Aq,AM,Au,AU,BJ,append_nil];repeat' (first|intro _|apply And.intro|(unfold dOk;kernel_rfl)|exact St.beq_refl _|(show altO _ _ _ _=true;kernel_rfl)|(show (_||_)=true;kernel_rfl)|(show (_&&_)=true;kernel_rfl))
  exact fin _ (ex1 ..)
 ·simp +contextual (disch:=omega) only[Tryz.f130,Mo,go_sem,simprocAttr,evAppend,map_append,Mb,↓AD,↓AC,↓AB,↓AA,h97a,h97b,h44,hmx1,hmx2,c1,c2,c3,evMax,Ai,Aq,AM,Au,AU,BJ,append_nil];repeat' (first|intro _|apply And.intro|(unfold dOk;kernel_rfl)|exact St.beq_refl _|(show altO _ _ _ _=true;kernel_rfl)|(show (_||_)=true;kernel_rfl)|(show (_&&_)=true;kernel_rfl))
  exact fin _ (ex1 ..)
 ·first|rw[show max s.caps (s.caps+1)=s.caps+1 by omega]at h44|rw[show max s2.caps (s2.caps+1)=s2.caps+1 by omega]at h44|rw[show max s4.caps (s4.caps+1)=s4.caps+1 by omega]at h44
  simp +contextual (disch:=omega) only[Tryz.f130,Mo,go_sem,simprocAttr,evAppend,map_append,Mb,↓AD,↓AC,↓AB,↓AA,h97a,h97b,h44,hmx1,hmx2,c1,c2,c3,evMax,Ai,Aq,AM,Au,AU,BJ,append_nil];repeat' (first|intro _|apply And.intro|(unfold dOk;kernel_rfl)|exact St.beq_refl _|(show altO _ _ _ _=true;kernel_rfl)|(show (_||_)=true;kernel_rfl)|(show (_&&_)=true;kernel_rfl))
  exact fin _ (ex1 ..)
 ·first|rw[show max s.caps (s.caps+1)=s.caps+1 by omega]at h44|rw[show max s2.caps (s2.caps+1)=s2.caps+1 by omega]at h44|rw[show max s4.caps (s4.caps+1)=s4.caps+1 by omega]at h44
  simp +contextual (disch:=omega) only[Tryz.f130,Mo,go_sem,simprocAttr,evAppend,map_append,Mb,↓AD,↓AC,↓AB,↓AA,h97a,h97b,h44,hmx1,hmx2,c1,c2,c3,evMax,Ai,Aq,AM,Au,AU,BJ,append_nil];repeat' (first|intro _|apply And.intro|(unfold dOk;kernel_rfl)|exact St.beq_refl _|(show altO _ _ _ _=true;kernel_rfl)|(show (_||_)=true;kernel_rfl)|(show (_&&_)=true;kernel_rfl))
  exact fin _ (ex1 ..)
end
end
section
attribute [local go_sem] evAppend map_append
theorem Bg (b0 x x' a a' b:MB) (K:List MB):sameAt (K.length+1+1+1) (b0::x::(K++[a]++[b])) (b0::x'::(K++[a']++[b]))=true:=by
 have h:∀ x a,(b0::x::(K++[a]++[b]))[K.length+1+1+1]?=some b:=fun x a=>by
  rw[List.getElem?_cons_succ,List.getElem?_cons_succ];exact Bv K a b
 unfold sameAt;rw[h,h];exact MB.beq_refl b
section
variable {l:List Int} (hl:∀ x∈l,In64 x) {uses:Int}{d:Nat} (hd:d<=5) (ht:TreeLaw l uses d) (hb:TreeB l uses d)
include hb
theorem M4 {s:MS} (hp:Pre (5+3*mA1 d) (3*mS1 d) s):Post (5+3*mA1 d) (3*mS1 d) s (repF l uses (treeF l uses d) s).2:=by
 have hA:=Bf d;have hS:=Be d;unfold repF;simp only;have p1:=At l 12 s hp.c;have p2:=p1.trans (At l 2 _ p1.c);obtain⟨s3,e3,p3⟩:∃ s3,(if 0<andI uses 8 then(if(nx l 4 (nx l 2 (nx l 12 s).2).2).1=0 then 2 else(nx l 2 (nx l 12 s).2).1,(nx l 4 (nx l 2 (nx l 12 s).2).2).2) else nx l 2 (nx l 12 s).2).2=s3/\Post (1+1+1) (0+0+0) s s3:=by
  split
  ·exact⟨_,rfl,p2.trans (At l 4 _ p2.c)⟩
  ·exact⟨_,rfl,p2.up (by omega) (by omega)⟩
 rw[e3];have q:=hb s3 (hp.step p3 (by omega) (by omega));have r:=p3.trans q;split
 ·exact(r.trans (EA l _ r.c)).up (by omega) (by omega)
 ·exact r.up (by omega) (by omega)
theorem NY {s:MS} (hp:Pre (5+3*mA1 d) (3*mS1 d) s):Post (5+3*mA1 d) (3*mS1 d) s (capF l (treeF l uses d) s).2:=by
 have hA:=Bf d;have hS:=Be d;have hc:=hp.c;unfold capF;simp only;obtain⟨b,s2,e2,p2,c2,hbb⟩:∃(b:Bool) (s2:MS),(if 4<s.caps+1 then(true,s) else if 0<s.caps then(decide ((nx l 9 s).1=0),(nx l 9 s).2) else(false,s))=(b,s2)/\Post 1 0 s s2/\s2.caps=s.caps/\(b=false->¬ 4<s.caps+1):=by
  have p0:Post 1 0 s s:=⟨by omega,by omega,hc⟩;split
  ·exact⟨_,_,rfl,p0,rfl,fun h=>by cases h⟩
  ·rename_i h4;split
   ·exact⟨_,_,rfl,At l 9 s hc,rfl,fun _=>h4⟩
   ·exact⟨_,_,rfl,p0,rfl,fun _=>h4⟩
 rw[e2];simp only;have hm1:0<max 1 s2.caps:=by omega
 have hv:=Bl l hm1 s2;have p3:=p2.trans (At l (max 1 s2.caps) s2 p2.c);have c3:(nx l (max 1 s2.caps) s2).2.caps=s2.caps:=rfl;obtain⟨m,s4,e4,p4,c4,hm⟩:∃(m:Int) (s4:MS),(if b=true then(1+(nx l (max 1 s2.caps) s2).1,(nx l (max 1 s2.caps) s2).2) else(s.caps+1,s2))=(m,s4)/\Post (1+1) (0+0) s s4/\s4.caps=s.caps/\(0<=m/\m<=4):=by
  cases b with
  | true=>exact⟨_,_,if_pos rfl,p3,by rw[c3,c2],by omega⟩
  | false=>
    have:=hbb rfl;exact⟨_,_,if_neg Bool.false_ne_true,p2.up (by omega) (by omega),c2,by omega⟩
 rw[e4];simp only;have p5:Post 2 0 s ⟨s4.at_,s4.left,max s4.caps m⟩:=⟨by have:=p4.a;simp only;omega,by have:=p4.l;simp only;omega,by simp only;omega⟩;have q:=hb _ (hp.step p5 (by omega) (by omega));exact(p5.trans q).up (by omega) (by omega)
theorem Mz {s:MS} (k:Int) (hp:Pre (8+3*mA1 d) (3*mS1 d) s):Post (8+3*mA1 d) (3*mS1 d) s (treeStep l uses (treeF l uses d) k s).2:=by
 have hA:=Bf d;have hS:=Be d;have hp5:Pre (5+3*mA1 d) (3*mS1 d) s:=⟨⟨hp.a.1,by have:=hp.a;omega⟩,hp.l,hp.c⟩;have hlf:Post 1 0 s (leafF l k s).2:=by
  unfold leafF;split
  ·exact⟨by simp only;omega,by simp only;omega,hp.c⟩
  ·exact EA l s hp.c
 have n6:=At l 6 s hp.c;have n3:=At l 3 s hp.c;have n32:=n3.trans (At l 2 _ n3.c);have nc:=At l s.caps s hp.c;have hA2:Pre (mA1 d) (mS1 d) s:=hp.step (x:=0) (y:=0) ⟨by omega,by omega,hp.c⟩ (by omega) (by omega);unfold treeStep;split
 ·exact hlf.up (by omega) (by omega)
 split
 ·exact(G8 hb hp5).up (by omega) (by omega)
 split
 ·exact(G8 hb hp5).up (by omega) (by omega)
 split
 ·exact(M4 hb hp5).up (by omega) (by omega)
 split
 ·exact(NY hb hp5).up (by omega) (by omega)
 split
 ·exact n6.up (by omega) (by omega)
 split
 ·exact(n32.trans (hb _ (hp.step n32 (by omega) (by omega)))).up (by omega) (by omega)
 split
 ·exact(hb _ hA2).up (by omega) (by omega)
 split
 ·exact nc.up (by omega) (by omega)
 split
 ·have y:=nc.trans (hb _ (hp.step nc (by omega) (by omega)));exact(y.trans (hb _ (hp.step y (by omega) (by omega)))).up (by omega) (by omega)
 ·exact(EA l s hp.c).up (by omega) (by omega)
theorem LU:TreeB l uses (d+1):=by
 intro s hp;have hA:=Bf d;have hS:=Be d;simp only[mA1,mS1]at hp |-;have hc:=hp.c;have p0:Post 0 1 s ⟨s.at_,s.left-1,s.caps⟩:=⟨by simp only;omega,by simp only;omega,hc⟩;have p1:=p0.trans (At l 20 _ p0.c);exact(p1.trans (Mz hb _ (hp.step p1 (by omega) (by omega)))).up (by omega) (by omega)
end
theorem LT {l:List Int}{uses:Int}:TreeB l uses 0:=by
 intro s hp;have hc:=hp.c;have p0:Post 0 1 s ⟨s.at_,s.left-1,s.caps⟩:=⟨by simp only;omega,by simp only;omega,hc⟩;have p1:=p0.trans (At l 20 _ p0.c);simp only[treeF,mA1,mS1];unfold leafF;split
 ·exact p1.up (by omega) (by omega)
 ·exact(p1.trans (EA l _ p1.c)).up (by omega) (by omega)
theorem SP {l:List Int} (hl:∀ x∈l,In64 x) {uses:Int} (s:MS) (b0:MB) (K:List MB) (hp:Pre (mA1 0) (mS1 0) s) (k:Int) (s1:MS) (hk:nx l 20 ⟨s.at_,s.left-1,s.caps⟩=(k,s1)) :
  call Pg pol1 95 [.rf 1 1 0 0,I ((0:Nat):Int)] (mH b0 l uses s K)=some (reAV (leafF l k s1).1,mH b0 l uses (leafF l k s1).2 K):=by
 simp only[mA1,mS1]at hp;have hq:=Bl l (n:=20) (by omega) ⟨s.at_,s.left-1,s.caps⟩;have p1:=At l 20 ⟨s.at_,s.left-1,s.caps⟩ hp.c;obtain⟨pa,pl,pc⟩:=hp;have h97:=fun K=>f97 l hl uses 20 (by omega) ⟨s.at_,s.left-1,s.caps⟩ ⟨pa.1,by simp only;omega⟩ b0 K;rw[hk]at hq p1 h97;clear hk;simp only at hq p1 h97;obtain⟨qa,ql,qc⟩:=p1;simp only at qa ql;have hw:IntKind.i64.wrap (s.left-1)=s.left-1:=i64_in _ ⟨by omega,by omega⟩;have h98:=fun K=>f98 l hl uses s1 ⟨by omega,by omega⟩ b0 K;generalize hY:setM l s1=Y at *;have fr:frzArgs pol1 95 0 [.rf 1 1 0 0,I ((0:Nat):Int)] (mH b0 l uses s K)=some ([.rf 1 1 0 0,I ((0:Nat):Int)],mH b0 l uses s K):=AL _ _ _ rfl;by_cases hk0:k=0
 ·subst hk0;rw[show leafF l 0 s1=(.mk 0 [] [] 0 0 0 0 false,s1) from if_pos rfl];refine AO (pol:=pol1) Tryz.func95 rfl rfl rfl rfl fr ?_
  all_goals simp +contextual (disch:=omega) only[Tryz.f95,dd95,go_sem,simprocAttr,mu95,↓AD,↓AC,↓AB,↓AA,h97,hw,Ai,Aq,B1,Bv,Bz,By,Bg,Bd,Bc,BX,Bb,BY,BZ,Ba,AM,Au,AU,BJ,append_nil]
  all_goals repeat' (first|intro _|apply And.intro|(unfold dOk;kernel_rfl)|exact St.beq_refl _|(show altO _ _ _ _=true;kernel_rfl)|(show (_||_)=true;kernel_rfl)|(show (_&&_)=true;kernel_rfl))
  all_goals exact B9 (by rfl) (by rfl) s s1 (ex1 ..) true true 0 [] [] 0 0 0 0 false
 ·rw[show leafF l k s1=Y from(if_neg hk0).trans hY];obtain⟨Y1,Y2⟩:=Y;refine AO (pol:=pol1) Tryz.func95 rfl rfl rfl rfl fr ?_
  all_goals simp +contextual (disch:=omega) only[Tryz.f95,dd95,go_sem,simprocAttr,mu95,↓AD,↓AC,↓AB,↓AA,h97,hw,Ai,Aq,B1,Bv,Bz,By,Bg,Bd,Bc,BX,Bb,BY,BZ,Ba,AM,Au,AU,BJ,append_nil,h98]
  all_goals repeat' (first|intro _|apply And.intro|(unfold dOk;kernel_rfl)|exact St.beq_refl _|(show altO _ _ _ _=true;kernel_rfl)|(show (_||_)=true;kernel_rfl)|(show (_&&_)=true;kernel_rfl))
  all_goals exact Da rfl rfl s _ (ex1 ..) (fun H=>Az H (B4 _)) (B4 _)
theorem SO {l:List Int} (hl:∀ x∈l,In64 x) {uses:Int}{d:Nat} (hd:d<=5) (s:MS) (b0:MB) (K:List MB) (hp:Pre (mA1 (d+1)) (mS1 (d+1)) s) (k:Int) (s1:MS) (hk:nx l 20 ⟨s.at_,s.left-1,s.caps⟩=(k,s1)) (hc:s1.left<3∨(l.length:Int)<s1.at_) :
  call Pg pol1 95 [.rf 1 1 0 0,I (((d+1):Nat):Int)] (mH b0 l uses s K)=some (reAV (leafF l k s1).1,mH b0 l uses (leafF l k s1).2 K):=by
 simp only[mA1,mS1]at hp;have hA:=Bf d;have hS:=Be d;have hq:=Bl l (n:=20) (by omega) ⟨s.at_,s.left-1,s.caps⟩;have p1:=At l 20 ⟨s.at_,s.left-1,s.caps⟩ hp.c;obtain⟨pa,pl,pc⟩:=hp;have h97:=fun K=>f97 l hl uses 20 (by omega) ⟨s.at_,s.left-1,s.caps⟩ ⟨pa.1,by simp only;omega⟩ b0 K;rw[hk]at hq p1 h97;clear hk;simp only at hq p1 h97;obtain⟨qa,ql,qc⟩:=p1;simp only at qa ql;have hw:IntKind.i64.wrap (s.left-1)=s.left-1:=i64_in _ ⟨by omega,by omega⟩;have hc':s1.left<3∨(¬ s1.left<3/\(l.length:Int)<s1.at_):=by omega
 have h98:=fun K=>f98 l hl uses s1 ⟨by omega,by omega⟩ b0 K;generalize hY:setM l s1=Y at *;have fr:frzArgs pol1 95 0 [.rf 1 1 0 0,I (((d+1):Nat):Int)] (mH b0 l uses s K)=some ([.rf 1 1 0 0,I (((d+1):Nat):Int)],mH b0 l uses s K):=AL _ _ _ rfl;by_cases hk0:k=0
 ·subst hk0;rw[show leafF l 0 s1=(.mk 0 [] [] 0 0 0 0 false,s1) from if_pos rfl];refine AO (pol:=pol1) Tryz.func95 rfl rfl rfl rfl fr ?_;rcases hc' with hc1|⟨hc1,hc2⟩
  all_goals simp +contextual (disch:=omega) only[Tryz.f95,dd95,go_sem,simprocAttr,mu95,↓AD,↓AC,↓AB,↓AA,h97,hw,Ai,Aq,B1,Bv,Bz,By,Bg,Bd,Bc,BX,Bb,BY,BZ,Ba,AM,Au,AU,BJ,append_nil]
  all_goals repeat' (first|intro _|apply And.intro|(unfold dOk;kernel_rfl)|exact St.beq_refl _|(show altO _ _ _ _=true;kernel_rfl)|(show (_||_)=true;kernel_rfl)|(show (_&&_)=true;kernel_rfl))
  all_goals exact B9 (by rfl) (by rfl) s s1 (ex1 ..) true true 0 [] [] 0 0 0 0 false
 ·rw[show leafF l k s1=Y from(if_neg hk0).trans hY];obtain⟨Y1,Y2⟩:=Y;refine AO (pol:=pol1) Tryz.func95 rfl rfl rfl rfl fr ?_;rcases hc' with hc1|⟨hc1,hc2⟩
  all_goals simp +contextual (disch:=omega) only[Tryz.f95,dd95,go_sem,simprocAttr,mu95,↓AD,↓AC,↓AB,↓AA,h97,hw,Ai,Aq,B1,Bv,Bz,By,Bg,Bd,Bc,BX,Bb,BY,BZ,Ba,AM,Au,AU,BJ,append_nil,h98]
  all_goals repeat' (first|intro _|apply And.intro|(unfold dOk;kernel_rfl)|exact St.beq_refl _|(show altO _ _ _ _=true;kernel_rfl)|(show (_||_)=true;kernel_rfl)|(show (_&&_)=true;kernel_rfl))
  all_goals exact Da rfl rfl s _ (ex1 ..) (fun H=>Az H (B4 _)) (B4 _)
theorem Qp {l:List Int} (hl:∀ x∈l,In64 x) {uses:Int}{d:Nat} (hd:d<=5) (ht:TreeLaw l uses d) (hb:TreeB l uses d) (s:MS) (b0:MB) (K:List MB) (hp:Pre (mA1 (d+1)) (mS1 (d+1)) s) (k:Int) (s1:MS) (hk:nx l 20 ⟨s.at_,s.left-1,s.caps⟩=(k,s1)) (hn1:¬ s1.left<3) (hn2:¬ (l.length:Int)<s1.at_) (h:k<5) :
  call Pg pol1 95 [.rf 1 1 0 0,I ((d+1:Nat):Int)] (mH b0 l uses s K)=some (reAV ((.mk 2 [] (kidsF l (treeF l uses d) s1).1 0 0 0 0 false,(kidsF l (treeF l uses d) s1).2):Re×MS).1,mH b0 l uses ((.mk 2 [] (kidsF l (treeF l uses d) s1).1 0 0 0 0 false,(kidsF l (treeF l uses d) s1).2):Re×MS).2 K):=by
 simp only[mA1,mS1]at hp;have hA:=Bf d;have hS:=Be d;have hq:=Bl l (n:=20) (by omega) ⟨s.at_,s.left-1,s.caps⟩;have p1:=At l 20 ⟨s.at_,s.left-1,s.caps⟩ hp.c;obtain⟨pa,pl,pc⟩:=hp;have h97:=fun K=>f97 l hl uses 20 (by omega) ⟨s.at_,s.left-1,s.caps⟩ ⟨pa.1,by simp only;omega⟩ b0 K;rw[hk]at hq p1 h97;clear hk;simp only at hq p1 h97;obtain⟨qa,ql,qc⟩:=p1;simp only at qa ql;have hw:IntKind.i64.wrap (s.left-1)=s.left-1:=i64_in _ ⟨by omega,by omega⟩;have hp5:Pre (5+3*mA1 d) (3*mS1 d) s1:=⟨⟨by omega,by omega⟩,⟨by omega,by omega⟩,qc⟩;have h99:=fun K=>f99 hl hd ht hb s1 hp5 b0 K;generalize kidsF l (treeF l uses d) s1=Y at *;obtain⟨Y1,Y2⟩:=Y;simp only at h99 |-;have fr:frzArgs pol1 95 0 [.rf 1 1 0 0,I ((d+1:Nat):Int)] (mH b0 l uses s K)=some ([.rf 1 1 0 0,I ((d+1:Nat):Int)],mH b0 l uses s K):=AL _ _ _ rfl;refine AO (pol:=pol1) Tryz.func95 rfl rfl rfl rfl fr ?_;simp +contextual (disch:=omega) only[Tryz.f95,dd95,go_sem,simprocAttr,mu95,↓AD,↓AC,↓AB,↓AA,h97,hw,Ai,Aq,B1,Bv,Bz,By,Bg,Bd,Bc,BX,Bb,BY,BZ,Ba,AM,Au,AU,BJ,append_nil,h99];repeat' (first|intro _|apply And.intro|(unfold dOk;kernel_rfl)|exact St.beq_refl _|(show altO _ _ _ _=true;kernel_rfl)|(show (_||_)=true;kernel_rfl)|(show (_&&_)=true;kernel_rfl))
 exact B9 (by rfl) (by rfl) s _ (ex1 ..) true false 2 [] Y1 0 0 0 0 false
theorem Qq {l:List Int} (hl:∀ x∈l,In64 x) {uses:Int}{d:Nat} (hd:d<=5) (ht:TreeLaw l uses d) (hb:TreeB l uses d) (s:MS) (b0:MB) (K:List MB) (hp:Pre (mA1 (d+1)) (mS1 (d+1)) s) (k:Int) (s1:MS) (hk:nx l 20 ⟨s.at_,s.left-1,s.caps⟩=(k,s1)) (hn1:¬ s1.left<3) (hn2:¬ (l.length:Int)<s1.at_) (h:5<=k) (h2:k<8) :
  call Pg pol1 95 [.rf 1 1 0 0,I ((d+1:Nat):Int)] (mH b0 l uses s K)=some (reAV ((.mk 3 [] (kidsF l (treeF l uses d) s1).1 0 0 0 0 false,(kidsF l (treeF l uses d) s1).2):Re×MS).1,mH b0 l uses ((.mk 3 [] (kidsF l (treeF l uses d) s1).1 0 0 0 0 false,(kidsF l (treeF l uses d) s1).2):Re×MS).2 K):=by
 simp only[mA1,mS1]at hp;have hA:=Bf d;have hS:=Be d;have hq:=Bl l (n:=20) (by omega) ⟨s.at_,s.left-1,s.caps⟩;have p1:=At l 20 ⟨s.at_,s.left-1,s.caps⟩ hp.c;obtain⟨pa,pl,pc⟩:=hp;have h97:=fun K=>f97 l hl uses 20 (by omega) ⟨s.at_,s.left-1,s.caps⟩ ⟨pa.1,by simp only;omega⟩ b0 K;rw[hk]at hq p1 h97;clear hk;simp only at hq p1 h97;obtain⟨qa,ql,qc⟩:=p1;simp only at qa ql;have hw:IntKind.i64.wrap (s.left-1)=s.left-1:=i64_in _ ⟨by omega,by omega⟩;have hp5:Pre (5+3*mA1 d) (3*mS1 d) s1:=⟨⟨by omega,by omega⟩,⟨by omega,by omega⟩,qc⟩;have h99:=fun K=>f99 hl hd ht hb s1 hp5 b0 K;generalize kidsF l (treeF l uses d) s1=Y at *;obtain⟨Y1,Y2⟩:=Y;simp only at h99 |-;have fr:frzArgs pol1 95 0 [.rf 1 1 0 0,I ((d+1:Nat):Int)] (mH b0 l uses s K)=some ([.rf 1 1 0 0,I ((d+1:Nat):Int)],mH b0 l uses s K):=AL _ _ _ rfl;refine AO (pol:=pol1) Tryz.func95 rfl rfl rfl rfl fr ?_;simp +contextual (disch:=omega) only[Tryz.f95,dd95,go_sem,simprocAttr,mu95,↓AD,↓AC,↓AB,↓AA,h97,hw,Ai,Aq,B1,Bv,Bz,By,Bg,Bd,Bc,BX,Bb,BY,BZ,Ba,AM,Au,AU,BJ,append_nil,h99];repeat' (first|intro _|apply And.intro|(unfold dOk;kernel_rfl)|exact St.beq_refl _|(show altO _ _ _ _=true;kernel_rfl)|(show (_||_)=true;kernel_rfl)|(show (_&&_)=true;kernel_rfl))
 exact B9 (by rfl) (by rfl) s _ (ex1 ..) true false 3 [] Y1 0 0 0 0 false
theorem Qn {l:List Int} (hl:∀ x∈l,In64 x) {uses:Int}{d:Nat} (hd:d<=5) (ht:TreeLaw l uses d) (hb:TreeB l uses d) (s:MS) (b0:MB) (K:List MB) (hp:Pre (mA1 (d+1)) (mS1 (d+1)) s) (k:Int) (s1:MS) (hk:nx l 20 ⟨s.at_,s.left-1,s.caps⟩=(k,s1)) (hn1:¬ s1.left<3) (hn2:¬ (l.length:Int)<s1.at_) (h:8<=k) (h2:k<12) :
  call Pg pol1 95 [.rf 1 1 0 0,I ((d+1:Nat):Int)] (mH b0 l uses s K)=some (reAV (repF l uses (treeF l uses d) s1).1,mH b0 l uses (repF l uses (treeF l uses d) s1).2 K):=by
 simp only[mA1,mS1]at hp;have hA:=Bf d;have hS:=Be d;have hq:=Bl l (n:=20) (by omega) ⟨s.at_,s.left-1,s.caps⟩;have p1:=At l 20 ⟨s.at_,s.left-1,s.caps⟩ hp.c;obtain⟨pa,pl,pc⟩:=hp;have h97:=fun K=>f97 l hl uses 20 (by omega) ⟨s.at_,s.left-1,s.caps⟩ ⟨pa.1,by simp only;omega⟩ b0 K;rw[hk]at hq p1 h97;clear hk;simp only at hq p1 h97;obtain⟨qa,ql,qc⟩:=p1;simp only at qa ql;have hw:IntKind.i64.wrap (s.left-1)=s.left-1:=i64_in _ ⟨by omega,by omega⟩;have hp5:Pre (5+3*mA1 d) (3*mS1 d) s1:=⟨⟨by omega,by omega⟩,⟨by omega,by omega⟩,qc⟩;have h100:=fun K=>f100 hl hd ht hb s1 hp5 b0 K;generalize repF l uses (treeF l uses d) s1=Y at *;obtain⟨Y1,Y2⟩:=Y;simp only at h100 |-;have fr:frzArgs pol1 95 0 [.rf 1 1 0 0,I ((d+1:Nat):Int)] (mH b0 l uses s K)=some ([.rf 1 1 0 0,I ((d+1:Nat):Int)],mH b0 l uses s K):=AL _ _ _ rfl;refine AO (pol:=pol1) Tryz.func95 rfl rfl rfl rfl fr ?_;simp +contextual (disch:=omega) only[Tryz.f95,dd95,go_sem,simprocAttr,mu95,↓AD,↓AC,↓AB,↓AA,h97,hw,Ai,Aq,B1,Bv,Bz,By,Bg,Bd,Bc,BX,Bb,BY,BZ,Ba,AM,Au,AU,BJ,append_nil,h100];repeat' (first|intro _|apply And.intro|(unfold dOk;kernel_rfl)|exact St.beq_refl _|(show altO _ _ _ _=true;kernel_rfl)|(show (_||_)=true;kernel_rfl)|(show (_&&_)=true;kernel_rfl))
 exact Da rfl rfl s _ (ex1 ..) (fun H=>Az H (B4 _)) (B4 _)
theorem Nt {l:List Int} (hl:∀ x∈l,In64 x) {uses:Int}{d:Nat} (hd:d<=5) (ht:TreeLaw l uses d) (hb:TreeB l uses d) (s:MS) (b0:MB) (K:List MB) (hp:Pre (mA1 (d+1)) (mS1 (d+1)) s) (k:Int) (s1:MS) (hk:nx l 20 ⟨s.at_,s.left-1,s.caps⟩=(k,s1)) (hn1:¬ s1.left<3) (hn2:¬ (l.length:Int)<s1.at_) (h:k=12) (u:0<andI uses 64) :
  call Pg pol1 95 [.rf 1 1 0 0,I ((d+1:Nat):Int)] (mH b0 l uses s K)=some (reAV (capF l (treeF l uses d) s1).1,mH b0 l uses (capF l (treeF l uses d) s1).2 K):=by
 simp only[mA1,mS1]at hp;have hA:=Bf d;have hS:=Be d;have hq:=Bl l (n:=20) (by omega) ⟨s.at_,s.left-1,s.caps⟩;have p1:=At l 20 ⟨s.at_,s.left-1,s.caps⟩ hp.c;obtain⟨pa,pl,pc⟩:=hp;have h97:=fun K=>f97 l hl uses 20 (by omega) ⟨s.at_,s.left-1,s.caps⟩ ⟨pa.1,by simp only;omega⟩ b0 K;rw[hk]at hq p1 h97;clear hk;simp only at hq p1 h97;obtain⟨qa,ql,qc⟩:=p1;simp only at qa ql;have hw:IntKind.i64.wrap (s.left-1)=s.left-1:=i64_in _ ⟨by omega,by omega⟩;have hp5:Pre (5+3*mA1 d) (3*mS1 d) s1:=⟨⟨by omega,by omega⟩,⟨by omega,by omega⟩,qc⟩;subst h;have h101:=fun K=>f101 hl hd ht hb s1 hp5 b0 K;generalize capF l (treeF l uses d) s1=Y at *;obtain⟨Y1,Y2⟩:=Y;simp only at h101 |-;have fr:frzArgs pol1 95 0 [.rf 1 1 0 0,I ((d+1:Nat):Int)] (mH b0 l uses s K)=some ([.rf 1 1 0 0,I ((d+1:Nat):Int)],mH b0 l uses s K):=AL _ _ _ rfl;refine AO (pol:=pol1) Tryz.func95 rfl rfl rfl rfl fr ?_;simp +contextual (disch:=omega) only[Tryz.f95,dd95,go_sem,simprocAttr,mu95,↓AD,↓AC,↓AB,↓AA,h97,hw,Ai,Aq,B1,Bv,Bz,By,Bg,Bd,Bc,BX,Bb,BY,BZ,Ba,AM,Au,AU,BJ,append_nil,h101];repeat' (first|intro _|apply And.intro|(unfold dOk;kernel_rfl)|exact St.beq_refl _|(show altO _ _ _ _=true;kernel_rfl)|(show (_||_)=true;kernel_rfl)|(show (_&&_)=true;kernel_rfl))
 exact Da rfl rfl s _ (ex1 ..) (fun H=>Az H (B4 _)) (B4 _)
theorem Ns {l:List Int} (hl:∀ x∈l,In64 x) {uses:Int}{d:Nat} (hd:d<=5) (ht:TreeLaw l uses d) (hb:TreeB l uses d) (s:MS) (b0:MB) (K:List MB) (hp:Pre (mA1 (d+1)) (mS1 (d+1)) s) (k:Int) (s1:MS) (hk:nx l 20 ⟨s.at_,s.left-1,s.caps⟩=(k,s1)) (hn1:¬ s1.left<3) (hn2:¬ (l.length:Int)<s1.at_) (h:k=13) (u:0<andI uses 64) :
  call Pg pol1 95 [.rf 1 1 0 0,I ((d+1:Nat):Int)] (mH b0 l uses s K)=some (reAV (capF l (treeF l uses d) s1).1,mH b0 l uses (capF l (treeF l uses d) s1).2 K):=by
 simp only[mA1,mS1]at hp;have hA:=Bf d;have hS:=Be d;have hq:=Bl l (n:=20) (by omega) ⟨s.at_,s.left-1,s.caps⟩;have p1:=At l 20 ⟨s.at_,s.left-1,s.caps⟩ hp.c;obtain⟨pa,pl,pc⟩:=hp;have h97:=fun K=>f97 l hl uses 20 (by omega) ⟨s.at_,s.left-1,s.caps⟩ ⟨pa.1,by simp only;omega⟩ b0 K;rw[hk]at hq p1 h97;clear hk;simp only at hq p1 h97;obtain⟨qa,ql,qc⟩:=p1;simp only at qa ql;have hw:IntKind.i64.wrap (s.left-1)=s.left-1:=i64_in _ ⟨by omega,by omega⟩;have hp5:Pre (5+3*mA1 d) (3*mS1 d) s1:=⟨⟨by omega,by omega⟩,⟨by omega,by omega⟩,qc⟩;subst h;have h101:=fun K=>f101 hl hd ht hb s1 hp5 b0 K;generalize capF l (treeF l uses d) s1=Y at *;obtain⟨Y1,Y2⟩:=Y;simp only at h101 |-;have fr:frzArgs pol1 95 0 [.rf 1 1 0 0,I ((d+1:Nat):Int)] (mH b0 l uses s K)=some ([.rf 1 1 0 0,I ((d+1:Nat):Int)],mH b0 l uses s K):=AL _ _ _ rfl;refine AO (pol:=pol1) Tryz.func95 rfl rfl rfl rfl fr ?_;simp +contextual (disch:=omega) only[Tryz.f95,dd95,go_sem,simprocAttr,mu95,↓AD,↓AC,↓AB,↓AA,h97,hw,Ai,Aq,B1,Bv,Bz,By,Bg,Bd,Bc,BX,Bb,BY,BZ,Ba,AM,Au,AU,BJ,append_nil,h101];repeat' (first|intro _|apply And.intro|(unfold dOk;kernel_rfl)|exact St.beq_refl _|(show altO _ _ _ _=true;kernel_rfl)|(show (_||_)=true;kernel_rfl)|(show (_&&_)=true;kernel_rfl))
 exact Da rfl rfl s _ (ex1 ..) (fun H=>Az H (B4 _)) (B4 _)
theorem Ru {l:List Int} (hl:∀ x∈l,In64 x) {uses:Int}{d:Nat} (hd:d<=5) (ht:TreeLaw l uses d) (hb:TreeB l uses d) (s:MS) (b0:MB) (K:List MB) (hp:Pre (mA1 (d+1)) (mS1 (d+1)) s) (k:Int) (s1:MS) (hk:nx l 20 ⟨s.at_,s.left-1,s.caps⟩=(k,s1)) (hn1:¬ s1.left<3) (hn2:¬ (l.length:Int)<s1.at_) (h:k=14) (u:0<andI uses 16) :
  call Pg pol1 95 [.rf 1 1 0 0,I ((d+1:Nat):Int)] (mH b0 l uses s K)=some (reAV ((.mk 11 [] [] 0 0 0 (nx l 6 s1).1 false,(nx l 6 s1).2):Re×MS).1,mH b0 l uses ((.mk 11 [] [] 0 0 0 (nx l 6 s1).1 false,(nx l 6 s1).2):Re×MS).2 K):=by
 simp only[mA1,mS1]at hp;have hA:=Bf d;have hS:=Be d;have hq:=Bl l (n:=20) (by omega) ⟨s.at_,s.left-1,s.caps⟩;have p1:=At l 20 ⟨s.at_,s.left-1,s.caps⟩ hp.c;obtain⟨pa,pl,pc⟩:=hp;have h97:=fun K=>f97 l hl uses 20 (by omega) ⟨s.at_,s.left-1,s.caps⟩ ⟨pa.1,by simp only;omega⟩ b0 K;rw[hk]at hq p1 h97;clear hk;simp only at hq p1 h97;obtain⟨qa,ql,qc⟩:=p1;simp only at qa ql;have hw:IntKind.i64.wrap (s.left-1)=s.left-1:=i64_in _ ⟨by omega,by omega⟩;have hp5:Pre (5+3*mA1 d) (3*mS1 d) s1:=⟨⟨by omega,by omega⟩,⟨by omega,by omega⟩,qc⟩;subst h;have h97b:=fun K=>f97 l hl uses 6 (by omega) s1 ⟨by omega,by omega⟩ b0 K;generalize nx l 6 s1=Y at *;obtain⟨Y1,Y2⟩:=Y;simp only at h97b |-;have fr:frzArgs pol1 95 0 [.rf 1 1 0 0,I ((d+1:Nat):Int)] (mH b0 l uses s K)=some ([.rf 1 1 0 0,I ((d+1:Nat):Int)],mH b0 l uses s K):=AL _ _ _ rfl;refine AO (pol:=pol1) Tryz.func95 rfl rfl rfl rfl fr ?_;simp +contextual (disch:=omega) only[Tryz.f95,dd95,go_sem,simprocAttr,mu95,↓AD,↓AC,↓AB,↓AA,h97,hw,Ai,Aq,B1,Bv,Bz,By,Bg,Bd,Bc,BX,Bb,BY,BZ,Ba,AM,Au,AU,BJ,append_nil,h97b];repeat' (first|intro _|apply And.intro|(unfold dOk;kernel_rfl)|exact St.beq_refl _|(show altO _ _ _ _=true;kernel_rfl)|(show (_||_)=true;kernel_rfl)|(show (_&&_)=true;kernel_rfl))
 exact B9 (by rfl) (by rfl) s _ (ex1 ..) true true 11 [] [] 0 0 0 Y1 false
theorem PT {l:List Int} (hl:∀ x∈l,In64 x) {uses:Int}{d:Nat} (hd:d<=5) (ht:TreeLaw l uses d) (hb:TreeB l uses d) (s:MS) (b0:MB) (K:List MB) (hp:Pre (mA1 (d+1)) (mS1 (d+1)) s) (k:Int) (s1:MS) (hk:nx l 20 ⟨s.at_,s.left-1,s.caps⟩=(k,s1)) (hn1:¬ s1.left<3) (hn2:¬ (l.length:Int)<s1.at_) (h:k=15) (u:0<andI uses 4) :
  call Pg pol1 95 [.rf 1 1 0 0,I ((d+1:Nat):Int)] (mH b0 l uses s K)=some (reAV ((.mk (7+(nx l 2 (nx l 3 s1).2).1) [] [(treeF l uses d (nx l 2 (nx l 3 s1).2).2).1] 0 0 0 0 ((nx l 3 s1).1==0),(treeF l uses d (nx l 2 (nx l 3 s1).2).2).2):Re×MS).1,mH b0 l uses ((.mk (7+(nx l 2 (nx l 3 s1).2).1) [] [(treeF l uses d (nx l 2 (nx l 3 s1).2).2).1] 0 0 0 0 ((nx l 3 s1).1==0),(treeF l uses d (nx l 2 (nx l 3 s1).2).2).2):Re×MS).2 K):=by
 simp only[mA1,mS1]at hp;have hA:=Bf d;have hS:=Be d;have hq:=Bl l (n:=20) (by omega) ⟨s.at_,s.left-1,s.caps⟩;have p1:=At l 20 ⟨s.at_,s.left-1,s.caps⟩ hp.c;obtain⟨pa,pl,pc⟩:=hp;have h97:=fun K=>f97 l hl uses 20 (by omega) ⟨s.at_,s.left-1,s.caps⟩ ⟨pa.1,by simp only;omega⟩ b0 K;rw[hk]at hq p1 h97;clear hk;simp only at hq p1 h97;obtain⟨qa,ql,qc⟩:=p1;simp only at qa ql;have hw:IntKind.i64.wrap (s.left-1)=s.left-1:=i64_in _ ⟨by omega,by omega⟩;have hp5:Pre (5+3*mA1 d) (3*mS1 d) s1:=⟨⟨by omega,by omega⟩,⟨by omega,by omega⟩,qc⟩;subst h;have h97b:=fun K=>f97 l hl uses 3 (by omega) s1 ⟨by omega,by omega⟩ b0 K;have r1:=At l 3 s1 qc;generalize nx l 3 s1=Y at *;obtain⟨x,s2⟩:=Y;simp only at h97b r1 |-;have h97c:=fun K=>f97 l hl uses 2 (by omega) s2 ⟨by have:=r1.a;omega,by have:=r1.a;omega⟩ b0 K;have hv:=Bl l (n:=2) (by omega) s2;have r2:=r1.trans (At l 2 s2 r1.c);generalize nx l 2 s2=Y at *;obtain⟨y,s3⟩:=Y;simp only at h97c hv r2 |-;have h44:=fun K=>ht s3 b0 K (hp5.step r2 (by omega) (by omega));generalize treeF l uses d s3=Y at *;obtain⟨Y1,Y2⟩:=Y;simp only at h44 |-;have fr:frzArgs pol1 95 0 [.rf 1 1 0 0,I ((d+1:Nat):Int)] (mH b0 l uses s K)=some ([.rf 1 1 0 0,I ((d+1:Nat):Int)],mH b0 l uses s K):=AL _ _ _ rfl;refine AO (pol:=pol1) Tryz.func95 rfl rfl rfl rfl fr ?_;simp +contextual (disch:=omega) only[Tryz.f95,dd95,go_sem,simprocAttr,mu95,↓AD,↓AC,↓AB,↓AA,h97,hw,Ai,Aq,B1,Bv,Bz,By,Bg,Bd,Bc,BX,Bb,BY,BZ,Ba,AM,Au,AU,BJ,append_nil,h97b,h97c,h44];repeat' (first|intro _|apply And.intro|(unfold dOk;kernel_rfl)|exact St.beq_refl _|(show altO _ _ _ _=true;kernel_rfl)|(show (_||_)=true;kernel_rfl)|(show (_&&_)=true;kernel_rfl))
 exact B9 (by rfl) (by rfl) s _ (ex1 ..) true true (7+y) [] [Y1] 0 0 0 0 (x==0)
theorem PW {l:List Int} (hl:∀ x∈l,In64 x) {uses:Int}{d:Nat} (hd:d<=5) (ht:TreeLaw l uses d) (hb:TreeB l uses d) (s:MS) (b0:MB) (K:List MB) (hp:Pre (mA1 (d+1)) (mS1 (d+1)) s) (k:Int) (s1:MS) (hk:nx l 20 ⟨s.at_,s.left-1,s.caps⟩=(k,s1)) (hn1:¬ s1.left<3) (hn2:¬ (l.length:Int)<s1.at_) (h:k=16) (u:0<andI uses 8) :
  call Pg pol1 95 [.rf 1 1 0 0,I ((d+1:Nat):Int)] (mH b0 l uses s K)=some (reAV ((.mk 9 [] [(treeF l uses d s1).1] 0 0 0 0 false,(treeF l uses d s1).2):Re×MS).1,mH b0 l uses ((.mk 9 [] [(treeF l uses d s1).1] 0 0 0 0 false,(treeF l uses d s1).2):Re×MS).2 K):=by
 simp only[mA1,mS1]at hp;have hA:=Bf d;have hS:=Be d;have hq:=Bl l (n:=20) (by omega) ⟨s.at_,s.left-1,s.caps⟩;have p1:=At l 20 ⟨s.at_,s.left-1,s.caps⟩ hp.c;obtain⟨pa,pl,pc⟩:=hp;have h97:=fun K=>f97 l hl uses 20 (by omega) ⟨s.at_,s.left-1,s.caps⟩ ⟨pa.1,by simp only;omega⟩ b0 K;rw[hk]at hq p1 h97;clear hk;simp only at hq p1 h97;obtain⟨qa,ql,qc⟩:=p1;simp only at qa ql;have hw:IntKind.i64.wrap (s.left-1)=s.left-1:=i64_in _ ⟨by omega,by omega⟩;have hp5:Pre (5+3*mA1 d) (3*mS1 d) s1:=⟨⟨by omega,by omega⟩,⟨by omega,by omega⟩,qc⟩;subst h;have h44:=fun K=>ht s1 b0 K ⟨⟨by omega,by omega⟩,⟨by omega,by omega⟩,qc⟩;generalize treeF l uses d s1=Y at *;obtain⟨Y1,Y2⟩:=Y;simp only at h44 |-;have fr:frzArgs pol1 95 0 [.rf 1 1 0 0,I ((d+1:Nat):Int)] (mH b0 l uses s K)=some ([.rf 1 1 0 0,I ((d+1:Nat):Int)],mH b0 l uses s K):=AL _ _ _ rfl;refine AO (pol:=pol1) Tryz.func95 rfl rfl rfl rfl fr ?_;simp +contextual (disch:=omega) only[Tryz.f95,dd95,go_sem,simprocAttr,mu95,↓AD,↓AC,↓AB,↓AA,h97,hw,Ai,Aq,B1,Bv,Bz,By,Bg,Bd,Bc,BX,Bb,BY,BZ,Ba,AM,Au,AU,BJ,append_nil,h44];repeat' (first|intro _|apply And.intro|(unfold dOk;kernel_rfl)|exact St.beq_refl _|(show altO _ _ _ _=true;kernel_rfl)|(show (_||_)=true;kernel_rfl)|(show (_&&_)=true;kernel_rfl))
 exact B9 (by rfl) (by rfl) s _ (ex1 ..) true true 9 [] [Y1] 0 0 0 0 false
theorem Qo {l:List Int} (hl:∀ x∈l,In64 x) {uses:Int}{d:Nat} (hd:d<=5) (ht:TreeLaw l uses d) (hb:TreeB l uses d) (s:MS) (b0:MB) (K:List MB) (hp:Pre (mA1 (d+1)) (mS1 (d+1)) s) (k:Int) (s1:MS) (hk:nx l 20 ⟨s.at_,s.left-1,s.caps⟩=(k,s1)) (hn1:¬ s1.left<3) (hn2:¬ (l.length:Int)<s1.at_) (h:k=17) (u:0<andI uses 1) (c:0<s1.caps) :
  call Pg pol1 95 [.rf 1 1 0 0,I ((d+1:Nat):Int)] (mH b0 l uses s K)=some (reAV ((.mk 6 [] [] 0 0 0 (1+(nx l s1.caps s1).1) false,(nx l s1.caps s1).2):Re×MS).1,mH b0 l uses ((.mk 6 [] [] 0 0 0 (1+(nx l s1.caps s1).1) false,(nx l s1.caps s1).2):Re×MS).2 K):=by
 simp only[mA1,mS1]at hp;have hA:=Bf d;have hS:=Be d;have hq:=Bl l (n:=20) (by omega) ⟨s.at_,s.left-1,s.caps⟩;have p1:=At l 20 ⟨s.at_,s.left-1,s.caps⟩ hp.c;obtain⟨pa,pl,pc⟩:=hp;have h97:=fun K=>f97 l hl uses 20 (by omega) ⟨s.at_,s.left-1,s.caps⟩ ⟨pa.1,by simp only;omega⟩ b0 K;rw[hk]at hq p1 h97;clear hk;simp only at hq p1 h97;obtain⟨qa,ql,qc⟩:=p1;simp only at qa ql;have hw:IntKind.i64.wrap (s.left-1)=s.left-1:=i64_in _ ⟨by omega,by omega⟩;have hp5:Pre (5+3*mA1 d) (3*mS1 d) s1:=⟨⟨by omega,by omega⟩,⟨by omega,by omega⟩,qc⟩;subst h;have h97b:=fun K=>f97 l hl uses s1.caps (by omega) s1 ⟨by omega,by omega⟩ b0 K;have hv:=Bl l c s1;generalize nx l s1.caps s1=Y at *;obtain⟨Y1,Y2⟩:=Y;simp only at h97b hv |-;have fr:frzArgs pol1 95 0 [.rf 1 1 0 0,I ((d+1:Nat):Int)] (mH b0 l uses s K)=some ([.rf 1 1 0 0,I ((d+1:Nat):Int)],mH b0 l uses s K):=AL _ _ _ rfl;refine AO (pol:=pol1) Tryz.func95 rfl rfl rfl rfl fr ?_;simp +contextual (disch:=omega) only[Tryz.f95,dd95,go_sem,simprocAttr,mu95,↓AD,↓AC,↓AB,↓AA,h97,hw,Ai,Aq,B1,Bv,Bz,By,Bg,Bd,Bc,BX,Bb,BY,BZ,Ba,AM,Au,AU,BJ,append_nil,h97b];repeat' (first|intro _|apply And.intro|(unfold dOk;kernel_rfl)|exact St.beq_refl _|(show altO _ _ _ _=true;kernel_rfl)|(show (_||_)=true;kernel_rfl)|(show (_&&_)=true;kernel_rfl))
 exact B9 (by rfl) (by rfl) s _ (ex1 ..) true true 6 [] [] 0 0 0 (1+Y1) false
theorem PV {l:List Int} (hl:∀ x∈l,In64 x) {uses:Int}{d:Nat} (hd:d<=5) (ht:TreeLaw l uses d) (hb:TreeB l uses d) (s:MS) (b0:MB) (K:List MB) (hp:Pre (mA1 (d+1)) (mS1 (d+1)) s) (k:Int) (s1:MS) (hk:nx l 20 ⟨s.at_,s.left-1,s.caps⟩=(k,s1)) (hn1:¬ s1.left<3) (hn2:¬ (l.length:Int)<s1.at_) (h:k=18) (u:0<andI uses 2) (c:0<s1.caps) :
  call Pg pol1 95 [.rf 1 1 0 0,I ((d+1:Nat):Int)] (mH b0 l uses s K)=some (reAV ((.mk 10 [] [(treeF l uses d (nx l s1.caps s1).2).1,(treeF l uses d (treeF l uses d (nx l s1.caps s1).2).2).1] 0 0 0 (1+(nx l s1.caps s1).1) false,(treeF l uses d (treeF l uses d (nx l s1.caps s1).2).2).2):Re×MS).1,mH b0 l uses ((.mk 10 [] [(treeF l uses d (nx l s1.caps s1).2).1,(treeF l uses d (treeF l uses d (nx l s1.caps s1).2).2).1] 0 0 0 (1+(nx l s1.caps s1).1) false,(treeF l uses d (treeF l uses d (nx l s1.caps s1).2).2).2):Re×MS).2 K):=by
 simp only[mA1,mS1]at hp;have hA:=Bf d;have hS:=Be d;have hq:=Bl l (n:=20) (by omega) ⟨s.at_,s.left-1,s.caps⟩;have p1:=At l 20 ⟨s.at_,s.left-1,s.caps⟩ hp.c;obtain⟨pa,pl,pc⟩:=hp;have h97:=fun K=>f97 l hl uses 20 (by omega) ⟨s.at_,s.left-1,s.caps⟩ ⟨pa.1,by simp only;omega⟩ b0 K;rw[hk]at hq p1 h97;clear hk;simp only at hq p1 h97;obtain⟨qa,ql,qc⟩:=p1;simp only at qa ql;have hw:IntKind.i64.wrap (s.left-1)=s.left-1:=i64_in _ ⟨by omega,by omega⟩;have hp5:Pre (5+3*mA1 d) (3*mS1 d) s1:=⟨⟨by omega,by omega⟩,⟨by omega,by omega⟩,qc⟩;subst h;have h97b:=fun K=>f97 l hl uses s1.caps (by omega) s1 ⟨by omega,by omega⟩ b0 K;have hv:=Bl l c s1;have r1:=At l s1.caps s1 qc;generalize nx l s1.caps s1=Y at *;obtain⟨x,s2⟩:=Y;simp only at h97b hv r1 |-;have pr1:Pre (mA1 d) (mS1 d) s2:=hp5.step r1 (by omega) (by omega);have h44a:=fun K=>ht s2 b0 K pr1;have r2:=r1.trans (hb s2 pr1);generalize treeF l uses d s2=Y at *;obtain⟨y,s3⟩:=Y;simp only at h44a r2 |-;have h44b:=fun K=>ht s3 b0 K (hp5.step r2 (by omega) (by omega));generalize treeF l uses d s3=Y at *;obtain⟨Y1,Y2⟩:=Y;simp only at h44b |-;have fr:frzArgs pol1 95 0 [.rf 1 1 0 0,I ((d+1:Nat):Int)] (mH b0 l uses s K)=some ([.rf 1 1 0 0,I ((d+1:Nat):Int)],mH b0 l uses s K):=AL _ _ _ rfl;refine AO (pol:=pol1) Tryz.func95 rfl rfl rfl rfl fr ?_;simp +contextual (disch:=omega) only[Tryz.f95,dd95,go_sem,simprocAttr,mu95,↓AD,↓AC,↓AB,↓AA,h97,hw,Ai,Aq,B1,Bv,Bz,By,Bg,Bd,Bc,BX,Bb,BY,BZ,Ba,AM,Au,AU,BJ,append_nil,h97b,h44a,h44b];repeat' (first|intro _|apply And.intro|(unfold dOk;kernel_rfl)|exact St.beq_refl _|(show altO _ _ _ _=true;kernel_rfl)|(show (_||_)=true;kernel_rfl)|(show (_&&_)=true;kernel_rfl))
 exact B9 (by rfl) (by rfl) s _ (ex2 ..) true true 10 [] [y,Y1] 0 0 0 (1+x) false
theorem PU {l:List Int} (hl:∀ x∈l,In64 x) {uses:Int}{d:Nat} (hd:d<=5) (ht:TreeLaw l uses d) (hb:TreeB l uses d) (s:MS) (b0:MB) (K:List MB) (hp:Pre (mA1 (d+1)) (mS1 (d+1)) s) (k:Int) (s1:MS) (hk:nx l 20 ⟨s.at_,s.left-1,s.caps⟩=(k,s1)) (hn1:¬ s1.left<3) (hn2:¬ (l.length:Int)<s1.at_) (h:12<=k) (n12:¬ (k=12/\0<andI uses 64)) (n13:¬ (k=13/\0<andI uses 64)) (n14:¬ (k=14/\0<andI uses 16)) (n15:¬ (k=15/\0<andI uses 4)) (n16:¬ (k=16/\0<andI uses 8)) (n17:¬ (k=17/\0<andI uses 1/\0<s1.caps)) (n18:¬ (k=18/\0<andI uses 2/\0<s1.caps)) :
  call Pg pol1 95 [.rf 1 1 0 0,I ((d+1:Nat):Int)] (mH b0 l uses s K)=some (reAV (setM l s1).1,mH b0 l uses (setM l s1).2 K):=by
 simp only[mA1,mS1]at hp;have hA:=Bf d;have hS:=Be d;have hq:=Bl l (n:=20) (by omega) ⟨s.at_,s.left-1,s.caps⟩;have p1:=At l 20 ⟨s.at_,s.left-1,s.caps⟩ hp.c;obtain⟨pa,pl,pc⟩:=hp;have h97:=fun K=>f97 l hl uses 20 (by omega) ⟨s.at_,s.left-1,s.caps⟩ ⟨pa.1,by simp only;omega⟩ b0 K;rw[hk]at hq p1 h97;clear hk;simp only at hq p1 h97;obtain⟨qa,ql,qc⟩:=p1;simp only at qa ql;have hw:IntKind.i64.wrap (s.left-1)=s.left-1:=i64_in _ ⟨by omega,by omega⟩;have hp5:Pre (5+3*mA1 d) (3*mS1 d) s1:=⟨⟨by omega,by omega⟩,⟨by omega,by omega⟩,qc⟩;have h98:=fun K=>f98 l hl uses s1 ⟨by omega,by omega⟩ b0 K;generalize setM l s1=Y at *;obtain⟨Y1,Y2⟩:=Y;simp only at h98 |-;have fr:frzArgs pol1 95 0 [.rf 1 1 0 0,I ((d+1:Nat):Int)] (mH b0 l uses s K)=some ([.rf 1 1 0 0,I ((d+1:Nat):Int)],mH b0 l uses s K):=AL _ _ _ rfl;refine AO (pol:=pol1) Tryz.func95 rfl rfl rfl rfl fr ?_;simp +contextual (disch:=omega) only[Tryz.f95,dd95,go_sem,simprocAttr,mu95,↓AD,↓AC,↓AB,↓AA,h97,hw,Ai,Aq,B1,Bv,Bz,By,Bg,Bd,Bc,BX,Bb,BY,BZ,Ba,AM,Au,AU,BJ,append_nil,h98];repeat' (first|intro _|apply And.intro|(unfold dOk;kernel_rfl)|exact St.beq_refl _|(show altO _ _ _ _=true;kernel_rfl)|(show (_||_)=true;kernel_rfl)|(show (_&&_)=true;kernel_rfl))
 all_goals exact Da rfl rfl s _ (ex1 ..) (fun H=>Az H (B4 _)) (B4 _)
theorem Oo {l:List Int} (hl:∀ x∈l,In64 x) {uses:Int}{d:Nat} (hd:d<=5) (ht:TreeLaw l uses d) (hb:TreeB l uses d):TreeLaw l uses (d+1):=by
 intro s b0 K hp;simp only[treeF];generalize hk:nx l 20 ⟨s.at_,s.left-1,s.caps⟩=Y;obtain⟨k,s1⟩:=Y;simp only;have hq:=Bl l (n:=20) (by omega) ⟨s.at_,s.left-1,s.caps⟩;rw[hk]at hq;simp only at hq;unfold treeStep;by_cases hc:s1.left<3∨(l.length:Int)<s1.at_
 ·rw[if_pos hc];exact SO hl hd s b0 K hp k s1 hk hc
 rw[if_neg hc];have hn1:¬ s1.left<3:=fun h=>hc (.inl h);have hn2:¬ (l.length:Int)<s1.at_:=fun h=>hc (.inr h);by_cases h5:k<5
 ·rw[if_pos h5];exact Qp hl hd ht hb s b0 K hp k s1 hk hn1 hn2 h5
 rw[if_neg h5];by_cases h8:k<8
 ·rw[if_pos h8];exact Qq hl hd ht hb s b0 K hp k s1 hk hn1 hn2 (by omega) h8
 rw[if_neg h8];by_cases h12:k<12
 ·rw[if_pos h12];exact Qn hl hd ht hb s b0 K hp k s1 hk hn1 hn2 (by omega) h12
 rw[if_neg h12];by_cases c1:(k=12∨k=13)/\0<andI uses 64
 ·rw[if_pos c1];rcases c1.1 with e|e
  ·exact Nt hl hd ht hb s b0 K hp k s1 hk hn1 hn2 e c1.2
  ·exact Ns hl hd ht hb s b0 K hp k s1 hk hn1 hn2 e c1.2
 rw[if_neg c1];by_cases c2:k=14/\0<andI uses 16
 ·rw[if_pos c2];exact Ru hl hd ht hb s b0 K hp k s1 hk hn1 hn2 c2.1 c2.2
 rw[if_neg c2];by_cases c3:k=15/\0<andI uses 4
 ·rw[if_pos c3];exact PT hl hd ht hb s b0 K hp k s1 hk hn1 hn2 c3.1 c3.2
 rw[if_neg c3];by_cases c4:k=16/\0<andI uses 8
 ·rw[if_pos c4];exact PW hl hd ht hb s b0 K hp k s1 hk hn1 hn2 c4.1 c4.2
 rw[if_neg c4];by_cases c5:k=17/\0<andI uses 1/\0<s1.caps
 ·rw[if_pos c5];exact Qo hl hd ht hb s b0 K hp k s1 hk hn1 hn2 c5.1 c5.2.1 c5.2.2
 rw[if_neg c5];by_cases c6:k=18/\0<andI uses 2/\0<s1.caps
 ·rw[if_pos c6];exact PV hl hd ht hb s b0 K hp k s1 hk hn1 hn2 c6.1 c6.2.1 c6.2.2
 rw[if_neg c6];exact PU hl hd ht hb s b0 K hp k s1 hk hn1 hn2 (by omega) (fun h=>c1 ⟨.inl h.1,h.2⟩) (fun h=>c1 ⟨.inr h.1,h.2⟩) c2 c3 c4 c5 c6
theorem Gh {l:List Int} (hl:∀ x∈l,In64 x) (uses:Int):∀ d,d<=6->TreeLaw l uses d/\TreeB l uses d
 | 0,_=>⟨fun s b0 K hp=>by
    simp only[treeF];generalize hk:nx l 20 ⟨s.at_,s.left-1,s.caps⟩=Y;obtain⟨k,s1⟩:=Y;exact SP hl s b0 K hp k s1 hk,LT⟩
 | d+1,h=>by
   obtain⟨h1,h2⟩:=Gh hl uses d (by omega);exact⟨Oo hl (by omega) h1 h2,LU h2⟩
theorem f11m (l:List Int) (hl:∀ x∈l,In64 x) (uses most:Int) (hmo:0<=most/\most<=1000) (H:List MB) :
  call Pg pol1 57 [.sl false (l.map I),I uses,I most] H=some (patAV ⟨(treeF l uses 5 ⟨0,most,0⟩).1,(treeF l uses 5 ⟨0,most,0⟩).2.caps,false⟩,H):=by
 refine AX Tryz.func57 rfl rfl rfl rfl rfl rfl (fun _=>rfl) (by simp[AV.plain,AV.plainL,AG]) (show AV.plain (patAV _)=true from Aw _) ?_ H;have hpre:Pre (mA1 5) (mS1 5) ⟨0,most,0⟩:=by
  have h1:mS1 5=364:=rfl;have h2:mA1 5=1818:=rfl;exact⟨by simp only[h2];omega,by simp only[h1];omega,by simp only[];omega⟩
 have h44:∀ b0,call Pg pol1 95 [.rf 1 1 0 0,I 5] [b0,.row 5 [.agg [.sl false (l.map I),I 0,I uses,I most,I 0]] 0]=some (reAV (treeF l uses 5 ⟨0,most,0⟩).1,mH b0 l uses (treeF l uses 5 ⟨0,most,0⟩).2 []):=fun b0=>(Gh hl uses 5 (by omega)).1 ⟨0,most,0⟩ b0 [] hpre;generalize treeF l uses 5 ⟨0,most,0⟩=Y at *;obtain⟨r,s⟩:=Y;simp only at h44 |-;have htk8:∀ r l,List.take 8 (reC r++l)=reC r:=fun r l=>by
  have:=AM r;rw[List.take_append_of_le_length (by omega)];exact take_of_length_le (by omega)
 have hdr9:∀ r (a b:AV),List.drop 9 (reC r++[a,b])=[b]:=fun r a b=>by
  have:=AM r;rw[show (9:Nat)=8+1 from rfl,<- List.drop_drop,List.drop_append_of_le_length (by omega),BJ];rfl
 have ht10:∀ a b:AV,List.take 10 (reC r++[a,b])=reC r++[a,b]:=fun a b=>take_of_length_le (by simp[AM]);simp +contextual (disch:=omega) only[Tryz.f57,dd57,go_sem,simprocAttr,evBin,mu57,↓AD,↓AC,↓AB,↓AA,h44,htk8,hdr9,ht10,AM,Au,AU,BJ,all_append];repeat' (first|intro _|apply And.intro|(unfold dOk;kernel_rfl)|exact St.beq_refl _|(show altO _ _ _ _=true;kernel_rfl)|(show (_||_)=true;kernel_rfl)|(show (_&&_)=true;kernel_rfl))
 exact⟨_,Az _ (Aw ⟨r,s.caps,false⟩)⟩
end
section
attribute [local go_sem] evAppend map_append
structure FitsOk (cap:Bool) (re:Re) (caps:Int) (t:List Int):Prop where
 val:validP ⟨re,caps,false⟩=0
 gen:genG cap re=true
 len:lenG re<=727
 wt2:re.wt<=850
 tl:t.length<=12
 txt:∀ x∈t,0<=x/\x<=255
 cost:∀ i,i<=t.length->costR t re i<=3000
theorem FitsOk.wt {cap:Bool}{re:Re}{caps:Int}{t:List Int} (h:FitsOk cap re caps t):re.wt<=1000000:=Nat.le_trans h.wt2 (by decide)
theorem Lv (cap:Bool) {caps:Int} (hc:0<=caps/\caps<=4):FitsOk cap (.mk 0 [] [] 0 0 0 0 false) caps []:=by
 refine⟨?_,by simp[genG,genL],by simp[lenG,lenL],by simp[Re.wt,Re.wtL],by simp,by simp,fun i _=>by simp[costR]⟩;simp[validP,Re.size,Re.sizeL,Re.depth,Re.depthL,wholeG,wholeL,formedG,kidsG,spansG,topI];omega
theorem Qt (cap:Bool) (re:Re) (n:Nat) (t:List Int) (at_:Nat) (hw:re.wt<=1000000) (hn:n<=4) (hl:t.length<=12) (ht:∀ x∈t,0<=x/\x<=255) (hg:genG cap re=true) (ha:at_<=t.length) :
  ∃(out:AV) (k e:Int),AV.plain out=true/\(e=0->validP ⟨re,n,false⟩=0/\costR t re at_<=3000)/\∀ H,call Pg pol1 58 [patAV ⟨re,n,false⟩,.sl false (t.map I),I at_,I (-1),I 3000] H=some (.tup [out,I k,I e],H):=by
 by_cases hv:validP ⟨re,n,false⟩=0
 ·obtain⟨hsz,hdp,hc0,hc9,hwg⟩:=CK hv;obtain⟨g1,g2,g3⟩:=Ij cap re hg;obtain⟨out,k,e,h1,h2,h3,h4⟩:=f123 re n t at_ 3000 hw hv (by omega) (by omega) ht (by omega) ⟨⟨hwg,g1⟩,g2,hsz⟩ g3 ha;exact⟨out,k,e,h1,fun he=>⟨hv,by have:=h3 he;omega⟩,h4⟩
 ·exact⟨_,_,_,rfl,fun he=>absurd he hv,SX re n t at_ 3000 hw hv⟩
abbrev patZ:AV:=.agg [I 0,.sl true [],.sl true [],I 0,I 0,I 0,I 0,.bool false,I 0,.bool false]
theorem f70 (l m:List Int) (hl:∀ x∈l,In64 x) (hm:∀ x∈m,In64 x) (uses:Int) (hu:Uses uses) :
  ∃ r,(∃ re caps t,(FitsOk (decide (0<andI uses 64)) re caps t/\(¬ 0<andI uses 16->noAs re=true))/\r=.tup [patAV ⟨re,caps,false⟩,.sl false (t.map I)])/\∀ H,call Pg pol1 27 [.sl false (l.map I),.sl false (m.map I),I uses,I 24,I 3000] H=some (r,H):=by
 have hpre:Pre (mA1 5) (mS1 5) ⟨0,24,0⟩:=by
  have h1:mS1 5=364:=rfl;have h2:mA1 5=1818:=rfl;exact⟨by simp only[h2];omega,by simp only[h1];omega,by simp only[];omega⟩
 have h11:=f11m l hl uses 24 (by omega);have hcap:=((Gh hl uses 5 (by omega)).2 ⟨0,24,0⟩ hpre).c;have hwt:=Gj l uses 5 ⟨0,24,0⟩;have hgen:=Jz hu l 5 ⟨0,24,0⟩;have hlen:=Jy hu l 5 ⟨0,24,0⟩;have hnoas:=fun ha=>IH hu ha l 5 ⟨0,24,0⟩;generalize treeF l uses 5 ⟨0,24,0⟩=Y at *;obtain⟨re,s⟩:=Y;simp only at h11 hcap hwt hgen hlen hnoas;obtain⟨n,hn⟩:∃ n:Nat,s.caps=n:=⟨s.caps.toNat,by omega⟩;rw[hn]at h11 hcap;have h122:=f122 m hm;have hT:=Nr m (min m.length 12);have hTl:=FN m (min m.length 12);generalize textT m (min m.length 12)=T at *;have hTl12:T.length<=12:=by omega
 have h123:=fun(k i:Nat) (hk:i<=(T.take k).length)=>Qt (decide (0<andI uses 64)) re n (T.take k) i (Nat.le_trans hwt (by decide)) (by omega) (by simp;omega) (fun x hx=>hT x (List.mem_of_mem_take hx)) hgen hk;have hpl:=Aw ⟨re,n,false⟩;have hl8:=AM re;have hget8:(reC re++[I n,.bool false])[8]?=some (I n):=by rw[List.getElem?_append_right (by omega),hl8];rfl
 have htk:List.take 10 (reC re++[I n,.bool false])=reC re++[I n,.bool false]:=take_of_length_le (by simp[AM]);have hall:=Au re;refine Fm Tryz.func27 rfl rfl rfl rfl rfl rfl (fun _=>rfl) (by simp[AV.plain,AV.plainL,AG,AF,AI,AK]) ?_ ?_
 ·rintro _ ⟨re,caps,t,_,rfl⟩;have h:=Aw ⟨re,caps,false⟩;simp only[AV.plain,AV.plainL,AG,h];rfl
 simp +contextual (disch:=omega) only[Tryz.f27,dd27,go_sem,simprocAttr,evBin,mu27,↓AD,↓AC,↓AB,↓AA,h11,h122,hl8,hget8,htk,hall,all_append];repeat' (first|intro _|apply And.intro|(unfold dOk;kernel_rfl)|exact St.beq_refl _|(show altO _ _ _ _=true;kernel_rfl)|(show (_||_)=true;kernel_rfl)|(show (_&&_)=true;kernel_rfl))
 refine Dk (M:=(mskOf (pol1.mask 27) (pol1.gc 27) (pol1.acts 27) 0 4)) rfl (fun k:Nat=>(⟨61,[(14,I ((k:Int)-1)),(13,.sl false (T.map I)),(12,.rf 1 1 0 0),(10,.rf 0 1 0 0),(4,I 3000)],[.row 10 [patZ] 0,.row 10 [patAV ⟨re,n,false⟩] 0]⟩:St)) (fun k=>k<=T.length+1) (fun k=>k) (T.length+1) ?_ (Nat.le_refl _) _ ?_
 ·intro k hk;cases k with
  | zero=>
    have hget8':(patC ⟨re,n,false⟩)[8]?=some (I n):=hget8;simp +contextual (disch:=omega) only[Tryz.f27,dd27,go_sem,simprocAttr,evBin,mu27,↓AD,↓AC,↓AB,↓AA,hget8'];exact⟨_,⟨.mk 0 [] [] 0 0 0 0 false,n,[],⟨Lv _ (by omega),fun _=>rfl⟩,rfl⟩,_,rfl⟩
  | succ k=>
    have e1:((k+1:Nat):Int)-1=(k:Int):=by omega
    rw[e1];have hTk:(T.take k).length=k:=by simp;omega
    simp +contextual (disch:=omega) only[Tryz.f27,dd27,go_sem,simprocAttr,evBin,mu27,↓AD,↓AC,↓AB,↓AA]
    refine Dk (M:=(mskOf (pol1.mask 27) (pol1.gc 27) (pol1.acts 27) 0 8)) rfl (fun g:Nat×Bool=>(⟨61,[(16,I g.1),(15,.bool g.2),(14,I k),(13,.sl false (T.map I)),(12,.rf 1 1 0 0),(10,.rf 0 1 0 0),(4,I 3000)],[.row 10 [patZ] 0,.row 10 [patAV ⟨re,n,false⟩] 0]⟩:St))
     (fun g=>g.1<=k+1/\(g.2=true->∀ j,j<g.1->validP ⟨re,n,false⟩=0/\costR (T.take k) re j<=3000)) (fun g=>k+1-g.1) (0,true) ?_ ⟨by simp,fun _ j hj=>absurd hj (Nat.not_lt_zero j)⟩ _ ?_
    ·rintro⟨i,good⟩ ⟨hi,hg⟩;simp only at hi hg |-;cases good with
     | false=>
       simp +contextual (disch:=omega) only[Tryz.f27,dd27,go_sem,simprocAttr,evBin,mu27,↓AD,↓AC,↓AB,↓AA];exact⟨fun _=>⟨k,by omega,by omega,rfl⟩,fun _=>⟨k,by omega,by omega,rfl⟩⟩
     | true=>
       by_cases hik:i<=k
       ·obtain⟨out,q,e,h1,h2,h3⟩:=h123 k i (by omega);rw[map_take]at h3;simp +contextual (disch:=omega) only[Tryz.f27,dd27,go_sem,simprocAttr,evBin,mu27,↓AD,↓AC,↓AB,↓AA,h3,htk,hall,all_append,hl8,Bool.false_and];repeat' (first|intro _|apply And.intro|(unfold dOk;kernel_rfl)|exact St.beq_refl _|(show altO _ _ _ _=true;kernel_rfl)|(show (_||_)=true;kernel_rfl)|(show (_&&_)=true;kernel_rfl))
        ·simp
        refine⟨(i+1,e==0),⟨by simp only[];omega,fun he j hj=>?_⟩,by simp only[];omega,rfl⟩;simp only at he hj;rcases Nat.lt_or_ge j i with hji|hji
        ·exact hg rfl j hji
        ·obtain rfl:j=i:=by omega
         exact h2 (by simpa using he)
       ·simp +contextual (disch:=omega) only[Tryz.f27,dd27,go_sem,simprocAttr,evBin,mu27,↓AD,↓AC,↓AB,↓AA,htk,hall,all_append,hl8,Bool.false_and];repeat' (first|intro _|apply And.intro|(unfold dOk;kernel_rfl)|exact St.beq_refl _|(show altO _ _ _ _=true;kernel_rfl)|(show (_||_)=true;kernel_rfl)|(show (_&&_)=true;kernel_rfl))
        ·simp
        have hik1:i=k+1:=by omega
        refine⟨_,⟨re,n,T.take k,⟨⟨(hg rfl 0 (by omega)).1,hgen,Nat.le_trans hlen (by decide),Nat.le_trans hwt (by decide),by omega,fun x hx=>hT x (List.mem_of_mem_take hx),fun j hj=>(hg rfl j (by omega)).2⟩,hnoas⟩,rfl⟩,?_⟩;rw[<- map_take];exact⟨_,Az _ (by
         have h:=Aw ⟨re,n,false⟩;simp only[AV.plain,AV.plainL,AG,h];rfl)⟩
    ·rfl
 ·have e2:((T.length+1:Nat):Int)-1=(T.length:Int):=by omega
  rw[e2];rfl
theorem Qk:Uses 64:=⟨by decide,by decide,by decide,by decide,by decide⟩
theorem RJ:Uses 0:=⟨by decide,by decide,by decide,by decide,by decide⟩
theorem f31n (l m:List Int) (hl:∀ x∈l,In64 x) (hm:∀ x∈m,In64 x) (asserts:Bool) :
  ∃ r,(∃ cap re caps t,FitsOk cap re caps t/\compG [] re=true/\(asserts=false->noAs re=true)/\r=.tup [patAV ⟨re,caps,false⟩,.sl false (t.map I)])/\∀ H,call Pg pol1 7 [.sl false (l.map I),.sl false (m.map I),.bool asserts] H=some (r,H):=by
 have key:∀(uses:Int) (hu:Uses uses),∃(cap:Bool) (re:Re) (caps:Int) (t:List Int),cap=decide (0<andI uses 64)/\(FitsOk cap re caps t/\(¬ 0<andI uses 16->noAs re=true))/\∀ H,call Pg pol1 27 [.sl false (l.map I),.sl false (m.map I),I uses,I 24,I 3000] H=some (.tup [patAV ⟨re,caps,false⟩,.sl false (t.map I)],H):=by
  intro uses hu;obtain⟨_,⟨re,caps,t,h1,rfl⟩,h2⟩:=f70 l m hl hm uses hu;exact⟨_,re,caps,t,rfl,h1,h2⟩
 refine Fm Tryz.func7 rfl rfl rfl rfl rfl rfl (fun _=>rfl) (by simp[AV.plain,AV.plainL,AG,AF,AI,AK]) ?_ ?_
 ·rintro _ ⟨cap,re,caps,t,_,_,_,rfl⟩;have h:=Aw ⟨re,caps,false⟩;simp only[AV.plain,AV.plainL,AG,h];rfl
 have pl:∀(re:Re) (caps:Int) (t:List Int),AV.plain (.tup [.agg (reC re++[I caps,.bool false]),.sl false (t.map I)])=true:=fun re caps t=>by
  have h:=Aw ⟨re,caps,false⟩;simp only[AV.plain,AV.plainL,AG,h];rfl
 have hor:evBin .or .i64 64 16=some (I 80):=rfl;have h16:evBin .sub .i64 80 64=some (I 16):=rfl;have h00:evBin .sub .i64 64 64=some (I 0):=rfl;cases asserts with
 | true=>
   obtain⟨cap,re,caps,t,hc,⟨hf,hna⟩,h70⟩:=key 80 Qj;obtain⟨cap2,re2,caps2,t2,hc2,⟨hf2,hna2⟩,h70b⟩:=key 16 Ql;have hwg:=(CK hf.val).2.2.2.2;have h53:=f53n _ _ re hf.wt hwg;have hl8:=AM re;have htk:List.take 10 (reC re++[I caps,.bool false])=reC re++[I caps,.bool false]:=take_of_length_le (by simp[AM]);have hall:=Au re;have hl8b:=AM re2;have htkb:List.take 10 (reC re2++[I caps2,.bool false])=reC re2++[I caps2,.bool false]:=take_of_length_le (by simp[AM]);have hallb:=Au re2;have htk8:∀ l,List.take 8 (reC re++l)=reC re:=fun l=>by
    rw[List.take_append_of_le_length (by omega)];exact take_of_length_le (by omega)
   cases hcp:compG [] re with
   | true=>
     rw[hcp]at h53;simp +contextual (disch:=omega) only[Tryz.f7,dd7,go_sem,simprocAttr,mu7,↓AD,↓AC,↓AB,↓AA,hor,h70,h53,hl8,htk,hall,htk8,all_append];exact⟨_,⟨cap,re,caps,t,hf,hcp,(fun h=>by cases h),rfl⟩,_,Az _ (pl re caps t)⟩
   | false=>
     rw[hcp]at h53;simp +contextual (disch:=omega) only[Tryz.f7,dd7,go_sem,simprocAttr,mu7,↓AD,↓AC,↓AB,↓AA,hor,h16,h70,h70b,h53,hl8,htk,hall,htk8,hl8b,htkb,hallb,all_append];exact⟨_,⟨cap2,re2,caps2,t2,hf2,HF re2 [] (by rw[<- hc2.trans (by decide:decide (0<andI 16 64)=false)];exact hf2.gen),(fun h=>by cases h),rfl⟩,_,Az _ (pl re2 caps2 t2)⟩
 | false=>
   obtain⟨cap,re,caps,t,hc,⟨hf,hna⟩,h70⟩:=key 64 Qk;obtain⟨cap2,re2,caps2,t2,hc2,⟨hf2,hna2⟩,h70b⟩:=key 0 RJ;have hwg:=(CK hf.val).2.2.2.2;have h53:=f53n _ _ re hf.wt hwg;have hl8:=AM re;have htk:List.take 10 (reC re++[I caps,.bool false])=reC re++[I caps,.bool false]:=take_of_length_le (by simp[AM]);have hall:=Au re;have hl8b:=AM re2;have htkb:List.take 10 (reC re2++[I caps2,.bool false])=reC re2++[I caps2,.bool false]:=take_of_length_le (by simp[AM]);have hallb:=Au re2;have htk8:∀ l,List.take 8 (reC re++l)=reC re:=fun l=>by
    rw[List.take_append_of_le_length (by omega)];exact take_of_length_le (by omega)
   cases hcp:compG [] re with
   | true=>
     rw[hcp]at h53;simp +contextual (disch:=omega) only[Tryz.f7,dd7,go_sem,simprocAttr,mu7,↓AD,↓AC,↓AB,↓AA,h70,h53,hl8,htk,hall,htk8,all_append];exact⟨_,⟨cap,re,caps,t,hf,hcp,(fun _=>hna (by decide)),rfl⟩,_,Az _ (pl re caps t)⟩
   | false=>
     rw[hcp]at h53;simp +contextual (disch:=omega) only[Tryz.f7,dd7,go_sem,simprocAttr,mu7,↓AD,↓AC,↓AB,↓AA,h00,h70,h70b,h53,hl8,htk,hall,htk8,hl8b,htkb,hallb,all_append];exact⟨_,⟨cap2,re2,caps2,t2,hf2,HF re2 [] (by rw[<- hc2.trans (by decide:decide (0<andI 0 64)=false)];exact hf2.gen),(fun _=>hna2 (by decide)),rfl⟩,_,Az _ (pl re2 caps2 t2)⟩
end
end Go.Ev
