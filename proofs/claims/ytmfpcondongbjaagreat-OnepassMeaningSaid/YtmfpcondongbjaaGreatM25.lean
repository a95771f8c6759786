/- What functions of the program compute; no further conditions. -/
import Derived.Test.YtmfpcondongbjaaGreatM24
set_option linter.unusedVariables false
set_option linter.unusedSimpArgs false
open List (all_cons all_nil append_nil map_append take_of_length_le)
open Go.Proofs Go.RowKit Go.IntWalk
set_option maxHeartbeats 16000000
set_option maxRecDepth 100000
namespace Go.Ev
attribute [local go_sem] BM evBuild evMakeSlice AV.cells AV.ok splice Ae Al bndO bnd evEq eqCells not_false_eq_true not_true_eq_false AX Array.size_empty List.length_append tySzE List.head?_drop Nat.mul_one AQ AU AO AR AS AY
section
attribute [local go_sem] evBin
section
variable (k:IntKind) (a b:Int)
theorem Bd:evBin .add k a b=some (.int k (k.wrap (a+b))):=rfl
theorem BY:evBin .sub k a b=some (.int k (k.wrap (a-b))):=rfl
theorem Bc:evBin .eql k a b=some (.bool (a==b)):=rfl
theorem BZ:evBin .neq k a b=some (.bool (a != b)):=rfl
theorem Ba:evBin .lss k a b=some (.bool (decide (a<b))):=rfl
theorem Bb:evBin .gtr k a b=some (.bool (decide (a > b))):=rfl
end
section
variable {α:Type} (K:List α) (a b c x:α)
theorem ex1:∃ L,K++[a]=K++L:=⟨_,rfl⟩
theorem ex2:∃ L,K++[a]++[b]=K++L:=⟨[a,b],by simp⟩
theorem ex3:∃ L,K++[a]++[b]++[c]=K++L:=⟨[a,b,c],by simp⟩
theorem B8:(K++[a]++[b])[K.length]?=some a:=by simp
theorem B3:(K++[a]++[b])[K.length+1]?=some b:=by simp
theorem B7:(K++[a]++[b]).set K.length x=K++[x]++[b]:=by simp
theorem B6:(K++[a]++[b]).set (K.length+1) x=K++[a]++[x]:=by simp[List.set_append]
theorem QH:(K++[a]++[b]++[c])[K.length]?=some a:=by simp
theorem QG:(K++[a]++[b]++[c])[K.length+1]?=some b:=by simp[List.getElem?_append]
theorem QF:(K++[a]++[b]++[c])[K.length+1+1]?=some c:=by
 rw[List.getElem?_append_right (by simp)];simp
theorem Pn:(K++[a]++[b]++[c]).set K.length x=K++[x]++[b]++[c]:=by simp
theorem Pm:(K++[a]++[b]++[c]).set (K.length+1) x=K++[a]++[x]++[c]:=by simp[List.set_append]
theorem Pl:(K++[a]++[b]++[c]).set (K.length+1+1) x=K++[a]++[b]++[x]:=by
 rw[List.set_append_right _ _ (by simp)];simp
end
theorem Dn {f:Nat} (hk:pol1.keep f=false) (ho:pol1.own f=false) {l:List Int}{uses:Int} (s s':MS) {b0:MB}{K M:List MB} (hM:∃ L,M=K++L) {r r':AV} (hz:∀ H,fz r H=some (r',H)) (hp:AV.plain r' = true) :
  retPol pol1 f (mH b0 l uses s K) r (mH b0 l uses s' M)=some (r',mH b0 l uses s' K):=by
 obtain⟨L,rfl⟩:=hM;exact Ll hk ho hz hp
theorem CE {f:Nat} (hk:pol1.keep f=false) (ho:pol1.own f=false) {l:List Int}{uses:Int} (s s':MS) {b0:MB}{K M:List MB} (hM:∃ L,M=K++L) (a b:Bool) (op:Int) (set:List (Int×Int)) (kids:List Re) (mn mx md n:Int) (neg:Bool) :
  retPol pol1 f (mH b0 l uses s K) (.agg [I op,.sl a (set.map spanAV),.sl b (kids.map reAV),I mn,I mx,I md,I n,.bool neg]) (mH b0 l uses s' M)=some (reAV (.mk op set kids mn mx md n neg),mH b0 l uses s' K):=by
 rw[Dn hk ho s s' hM (Mt a b op set kids mn mx md n neg) (by simp[AV.plain,AV.plainL,AG,AN])];rw[show reAV (.mk op set kids mn mx md n neg)=.agg (nodeL op set kids mn mx md n neg) from congrArg AV.agg Bl]
section
variable {l:List Int} (hl:∀ x∈l,In64 x) {uses:Int}{d:Nat} (hd:d<=5) (ht:TreeLaw l uses d) (hb:TreeB l uses d)
include hl hd ht hb
theorem f99 (s:MS) (hp:Pre (5+3*mA1 d) (3*mS1 d) s) (b0:MB) (K:List MB) :
  call Pg pol1 81 [.rf 1 1 0 0,I ((d+1:Nat):Int)] (mH b0 l uses s K)=some (.sl false ((kidsF l (treeF l uses d) s).1.map reAV),mH b0 l uses (kidsF l (treeF l uses d) s).2 K):=by
 have fr:frzArgs pol1 81 0 [.rf 1 1 0 0,I ((d+1:Nat):Int)] (mH b0 l uses s K)=some ([.rf 1 1 0 0,I ((d+1:Nat):Int)],mH b0 l uses s K):=AL _ _ _ rfl;have hA:=Bi d;have hS:=Bh d;have hpost:=fun i hi=>FG hb hp i hi;have hmul:∀ i n:Nat,i<=n->(i:Int)*mA1 d<=n*mA1 d/\(i:Int)*mS1 d<=n*mS1 d:=fun i n hi=>⟨Int.mul_le_mul_of_nonneg_right (by omega) (by omega),Int.mul_le_mul_of_nonneg_right (by omega) (by omega)⟩;have hlen:=fun i=>MT l (treeF l uses d) s i;refine AP (pol:=pol1) Tryz.func81 rfl rfl rfl rfl fr ?_;obtain⟨N,hN,hN2,hval⟩:∃ N:Nat,2<=N/\N<=3/\kidsF l (treeF l uses d) s=((stK l (treeF l uses d) s N).1,(nx l 2 (stK l (treeF l uses d) s N).2).2)/\(N=3->(nx l 2 (stK l (treeF l uses d) s 2).2).1=1)/\(N=2->(nx l 2 (stK l (treeF l uses d) s 2).2).1≠1):=by
  unfold kidsF;by_cases h:(nx l 2 (stK l (treeF l uses d) s 2).2).1=1
  ·exact⟨3,by omega,by omega,if_pos h,fun _=>h,fun h=>by omega⟩
  ·exact⟨2,by omega,by omega,if_neg h,fun h=>by omega,fun _=>h⟩
 obtain⟨hval,h3,h2⟩:=hval;rw[hval];simp +contextual (disch:=omega) only[Tryz.f81,dd81,go_sem,simprocAttr,evAppend,map_append,mu81,↓AD,↓AC,↓AB,↓AA];refine Af (M:=(mskOf (pol1.mask 81) (pol1.gc 81) (pol1.acts 81) 0 3)) rfl N (fun i=>(⟨22,[(6,I i),(5,.ms (K.length+1+1) 8 i 0 i),(1,I ((d+1:Nat):Int)),(0,.rf 1 1 0 0)],mH b0 l uses (stK l (treeF l uses d) s i).2 (K++[.row 8 ((stK l (treeF l uses d) s i).1.map reAV) 0])⟩:St)) (fun _=>True) ?_ ?_ trivial _ (by rfl)
 ·intro i hi _;have pi:=hpost i (by omega);have hmi:=hmul i 2 (by omega);have hli:=hlen i;have e:stK l (treeF l uses d) s (i+1)=((stK l (treeF l uses d) s i).1++[(treeF l uses d (nx l 2 (stK l (treeF l uses d) s i).2).2).1],(treeF l uses d (nx l 2 (stK l (treeF l uses d) s i).2).2).2):=rfl;rw[e];have hv2:i=2->(nx l 2 (stK l (treeF l uses d) s i).2).1=1:=fun h=>by subst h;exact h3 (by omega)
  generalize stK l (treeF l uses d) s i=X at *;obtain⟨ks,si⟩:=X;simp only at pi hli hv2 |-;obtain⟨pa,pl,pc⟩:=pi;obtain⟨qa,ql,qc⟩:=hp;have h97:=fun K=>f97 l hl uses 2 (by omega) si ⟨by omega,by omega⟩ b0 K;have hv:=Bo l (n:=2) (by omega) si;have hq:=Ax l 2 si pc;generalize nx l 2 si=Y at *;obtain⟨v,sj⟩:=Y;simp only at h97 hv hq hv2 |-;obtain⟨ra,rl,rc⟩:=hq;have h44:=fun K=>ht sj b0 K ⟨by omega,by omega,rc⟩;generalize treeF l uses d sj=Z at *;obtain⟨r,sk⟩:=Z;simp only at h44 |-;have hap:=fun s=>RR (H:=mH b0 l uses s (K++[.row 8 (ks.map reAV) 0])) (i:=K.length+1+1) (n:=i) (t:=true) (y:=reAV r) (z:=0) (els:=ks.map reAV) (by simp[getRow]) (by rw[List.length_map];exact hli) (by simp[AV.cells,AM,Ay]) (Nat.zero_le _) (by omega);simp +contextual (disch:=omega) only[Tryz.f81,dd81,go_sem,simprocAttr,mu81,↓AD,↓AC,↓AB,↓AA,h97,h44,hap,An,Av,AM,Ay,AZ,BK,append_nil];rw[map_append];rfl
 ·intro _;have pi:=hpost N (by omega);have hmi:=hmul N 3 (by omega);have hli:=hlen N;have hv2:N=2->(nx l 2 (stK l (treeF l uses d) s N).2).1≠1:=fun h=>by rw[h];exact h2 h
  generalize stK l (treeF l uses d) s N=X at *;obtain⟨ks,si⟩:=X;simp only at pi hli hv2 |-;obtain⟨pa,pl,pc⟩:=pi;obtain⟨qa,ql,qc⟩:=hp;have h97:=fun K=>f97 l hl uses 2 (by omega) si ⟨by omega,by omega⟩ b0 K;have hv:=Bo l (n:=2) (by omega) si;generalize nx l 2 si=Y at *;obtain⟨v,sj⟩:=Y;simp only at h97 hv hv2 |-;have hvn:¬ (N:Int)<2+v:=by omega
  simp +contextual (disch:=omega) only[Tryz.f81,dd81,go_sem,simprocAttr,mu81,↓AD,↓AC,↓AB,↓AA,h97,An,Av,AM,Ay,AZ,BK,append_nil];exact OC rfl rfl hli
theorem f100 (s:MS) (hp:Pre (5+3*mA1 d) (3*mS1 d) s) (b0:MB) (K:List MB) :
  call Pg pol1 82 [.rf 1 1 0 0,I ((d+1:Nat):Int)] (mH b0 l uses s K)=some (reAV (repF l uses (treeF l uses d) s).1,mH b0 l uses (repF l uses (treeF l uses d) s).2 K):=by
 have fr:frzArgs pol1 82 0 [.rf 1 1 0 0,I ((d+1:Nat):Int)] (mH b0 l uses s K)=some ([.rf 1 1 0 0,I ((d+1:Nat):Int)],mH b0 l uses s K):=AL _ _ _ rfl;have hA:=Bi d;have hS:=Bh d;unfold repF;obtain⟨qa,ql,qc⟩:=hp;have h97a:=fun K=>f97 l hl uses 12 (by omega) s ⟨by omega,by omega⟩ b0 K;have hk:=Bo l (n:=12) (by omega) s;have p1:=Ax l 12 s qc;generalize nx l 12 s=Y at *;obtain⟨k,s1⟩:=Y;simp only at h97a hk p1 |-;obtain⟨kn,rfl⟩:∃ kn:Nat,k=kn:=⟨k.toNat,by omega⟩;obtain⟨hm1,hm2⟩:[I 0,I 0,I 0,I 0,I 1,I 1,I 1,I 0,I 2,I 0,I 1,I 2][kn]?=some (I (([0,0,0,0,1,1,1,0,2,0,1,2]:List Int).getD kn 0))/\[I (-1),I (-1),I (-1),I 1,I (-1),I (-1),I 2,I 2,I 2,I 3,I 1,I (-1)][kn]?=some (I (([-1,-1,-1,1,-1,-1,2,2,2,3,1,-1]:List Int).getD kn 0)):=by
  have:kn=0∨kn=1∨kn=2∨kn=3∨kn=4∨kn=5∨kn=6∨kn=7∨kn=8∨kn=9∨kn=10∨kn=11:=by omega
  rcases this with rfl|rfl|rfl|rfl|rfl|rfl|rfl|rfl|rfl|rfl|rfl|rfl<;>exact⟨rfl,rfl⟩
 simp only[Int.toNat_natCast];generalize ([0,0,0,0,1,1,1,0,2,0,1,2]:List Int).getD kn 0=mn at *;generalize ([-1,-1,-1,1,-1,-1,2,2,2,3,1,-1]:List Int).getD kn 0=mx at *;have h97b:=fun K=>f97 l hl uses 2 (by omega) s1 ⟨by have:=p1.a;omega,by have:=p1.a;omega⟩ b0 K;have p2:=p1.trans (Ax l 2 s1 p1.c);generalize nx l 2 s1=Y at *;obtain⟨md,s2⟩:=Y;simp only at h97b p2 |-;have h97c:=fun K=>f97 l hl uses 4 (by omega) s2 ⟨by have:=p2.a;omega,by have:=p2.a;omega⟩ b0 K;have p3':=p2.trans (Ax l 4 s2 p2.c)
 obtain⟨m,s3,hm,p3,hms⟩:∃ m s3,(if 0<andI uses 8 then(if(nx l 4 s2).1=0 then(2:Int) else md,(nx l 4 s2).2) else(md,s2))=(m,s3)/\Post (1+1+1) (0+0+0) s s3 /\
   ((¬ 0<andI uses 8/\m=md/\s3=s2)∨(0<andI uses 8/\(nx l 4 s2).1=0/\m=2/\s3=(nx l 4 s2).2)∨(0<andI uses 8/\(nx l 4 s2).1≠0/\m=md/\s3=(nx l 4 s2).2)):=by
  by_cases u:0<andI uses 8
  ·rw[if_pos u];by_cases x0:(nx l 4 s2).1=0
   ·rw[if_pos x0];exact⟨_,_,rfl,p3',.inr (.inl ⟨u,x0,rfl,rfl⟩)⟩
   ·rw[if_neg x0];exact⟨_,_,rfl,p3',.inr (.inr ⟨u,x0,rfl,rfl⟩)⟩
  ·rw[if_neg u];exact⟨_,_,rfl,p2.up (by omega) (by omega),.inl ⟨u,rfl,rfl⟩⟩
 rw[hm];clear hm p3';simp only;generalize nx l 4 s2=Y at *;obtain⟨x,s2'⟩:=Y;simp only at h97c hms |-;have hpre:Pre (mA1 d) (mS1 d) s3:=⟨⟨by have:=p3.a;omega,by have:=p3.a;omega⟩,⟨by have:=p3.l;omega,by have:=p3.l;omega⟩,p3.c⟩;have hw6:mW1 d<=1000000:=by
  have:d=0∨d=1∨d=2∨d=3∨d=4∨d=5:=by omega
  rcases this with rfl|rfl|rfl|rfl|rfl|rfl<;>decide
 have h44:=fun K=>ht s3 b0 K hpre;have p4:=hb s3 hpre;have h20:=f20 (treeF l uses d s3).1.wt (treeF l uses d s3).1 (Nat.le_refl _) (Nat.le_trans (Gs l uses d s3) hw6);generalize treeF l uses d s3=Y at *;obtain⟨r,s4⟩:=Y;simp only at h44 p4 h20 |-;have h98:=fun K=>f98 l hl uses s4 ⟨by have:=p3.a;have:=p4.a;omega,by have:=p3.a;have:=p4.a;omega⟩ b0 K;obtain⟨X,hX,hXc⟩:∃ X,(if andI uses 32=0/\nullG r=true then setM l s4 else(r,s4))=X/\((andI uses 32≠0/\X=(r,s4))∨(andI uses 32=0/\nullG r=true/\X=setM l s4)∨(andI uses 32=0/\nullG r=false/\X=(r,s4))):=by
  by_cases u:andI uses 32=0
  ·cases hn:nullG r with
   | true=>exact⟨_,if_pos ⟨u,rfl⟩,.inr (.inl ⟨u,rfl,rfl⟩)⟩
   | false=>exact⟨_,if_neg (by simp),.inr (.inr ⟨u,rfl,rfl⟩)⟩
  ·exact⟨_,if_neg (fun h=>u h.1),.inl ⟨u,rfl⟩⟩
 rw[hX];clear hX;generalize setM l s4=Y at *;obtain⟨r5,s5⟩:=Y;simp only at h98;refine AP (pol:=pol1) Tryz.func82 rfl rfl rfl rfl fr ?_;rcases hms with ⟨u8,rfl,rfl⟩|⟨u8,rfl,rfl,rfl⟩|⟨u8,x0,rfl,rfl⟩<;>rcases hXc with ⟨u32,rfl⟩|⟨u32,hn,rfl⟩|⟨u32,hn,rfl⟩
 all_goals try rw[hn]at h20
 all_goals simp +contextual (disch:=omega) only[Tryz.f82,dd82,go_sem,simprocAttr,evAppend,map_append,mu82,↓AD,↓AC,↓AB,↓AA,h97a,h97b,h97c,h44,h20,h98,hm1,hm2,↓Bf,An,Av,B8,B3,B7,B6,QH,QG,QF,Pn,Pm,Pl,AM,Ay,AZ,BK,append_nil]
 all_goals repeat' (first|intro _|apply And.intro|(unfold dOk;kernel_rfl)|exact St.beq_refl _|(show altO _ _ _ _=true;kernel_rfl)|(show (_||_)=true;kernel_rfl)|(show (_&&_)=true;kernel_rfl))
 all_goals exact CE (by rfl) (by rfl) s _ (ex3 ..) true true 4 [] [_] _ _ _ 0 false
theorem f101 (s:MS) (hp:Pre (5+3*mA1 d) (3*mS1 d) s) (b0:MB) (K:List MB) :
  call Pg pol1 83 [.rf 1 1 0 0,I ((d+1:Nat):Int)] (mH b0 l uses s K)=some (reAV (capF l (treeF l uses d) s).1,mH b0 l uses (capF l (treeF l uses d) s).2 K):=by
 have _:=hb;have fr:frzArgs pol1 83 0 [.rf 1 1 0 0,I ((d+1:Nat):Int)] (mH b0 l uses s K)=some ([.rf 1 1 0 0,I ((d+1:Nat):Int)],mH b0 l uses s K):=AL _ _ _ rfl;have hA:=Bi d;have hS:=Bh d;unfold capF;obtain⟨qa,ql,qc⟩:=hp;have h97a:=fun K=>f97 l hl uses 9 (by omega) s ⟨by omega,by omega⟩ b0 K;have p1:=Ax l 9 s qc;have hmx1:(if s.caps > 1 then s.caps else 1)=max 1 s.caps:=by split<;>omega
 have c1:(nx l 9 s).2.caps=s.caps:=rfl;generalize nx l 9 s=Y at *;obtain⟨x,s1⟩:=Y;simp only at h97a p1 c1 |-
 obtain⟨b,s2,hps,p2,c2,hc⟩:∃(b:Bool) (s2:MS),(if 4<s.caps+1 then(true,s) else if 0<s.caps then(decide (x=0),s1) else(false,s))=(b,s2)/\Post 1 0 s s2/\s2.caps=s.caps /\
   ((4<s.caps+1/\b=true/\s2=s)∨(¬ 4<s.caps+1/\0<s.caps/\x=0/\b=true/\s2=s1)∨(¬ 4<s.caps+1/\0<s.caps/\x≠0/\b=false/\s2=s1)∨(¬ 4<s.caps+1/\¬ 0<s.caps/\b=false/\s2=s)):=by
  have p0:Post 1 0 s s:=⟨by omega,by omega,qc⟩;by_cases h1:4<s.caps+1
  ·rw[if_pos h1];exact⟨_,_,rfl,p0,rfl,.inl ⟨h1,rfl,rfl⟩⟩
  ·rw[if_neg h1];by_cases h2:0<s.caps
   ·rw[if_pos h2];by_cases h3:x=0
    ·exact⟨true,s1,by rw[decide_eq_true h3],p1,c1,.inr (.inl ⟨h1,h2,h3,rfl,rfl⟩)⟩
    ·exact⟨false,s1,by rw[decide_eq_false h3],p1,c1,.inr (.inr (.inl ⟨h1,h2,h3,rfl,rfl⟩))⟩
   ·rw[if_neg h2];exact⟨_,_,rfl,p0,rfl,.inr (.inr (.inr ⟨h1,h2,rfl,rfl⟩))⟩
 rw[hps];clear hps;simp only;have hm1:0<max 1 s2.caps:=by omega
 have h97b:=fun K=>f97 l hl uses (max 1 s2.caps) (by omega) s2 ⟨by have:=p2.a;omega,by have:=p2.a;omega⟩ b0 K;have p3:=p2.trans (Ax l (max 1 s2.caps) s2 p2.c);have hv:=Bo l hm1 s2;have c3:(nx l (max 1 s2.caps) s2).2.caps=s2.caps:=rfl;generalize hY:nx l (max 1 s2.caps) s2=Y at *;obtain⟨y,s3⟩:=Y;clear hY;simp only at h97b p3 hv c3 |-;rw[c2]at h97b hv c3;obtain⟨m,s4,hms,p4,c4,hmb,hc2⟩:∃(m:Int) (s4:MS),(if b=true then(1+y,s3) else(s.caps+1,s2))=(m,s4)/\Post 2 0 s s4/\s4.caps=s.caps/\(0<=m/\m<=4)/\((b=true/\m=1+y/\s4=s3)∨(b=false/\m=s.caps+1/\s4=s2)):=by
  cases b with
  | true=>exact⟨_,_,if_pos rfl,p3,c3,by omega,.inl ⟨rfl,rfl,rfl⟩⟩
  | false=>
    refine⟨_,_,if_neg Bool.false_ne_true,p2.up (by omega) (by omega),c2,?_,.inr ⟨rfl,rfl,rfl⟩⟩;rcases hc with h|h|h|h<;>first|omega|(simp at h;done)|(simp at h;omega)
 rw[hms];clear hms;simp only;have hmx2:(if m > s.caps then m else s.caps)=max s.caps m:=by split<;>omega
 have hpre:Pre (mA1 d) (mS1 d) ⟨s4.at_,s4.left,max s.caps m⟩:=⟨⟨by have:=p4.a;simp only;omega,by have:=p4.a;simp only;omega⟩,⟨by have:=p4.l;simp only;omega,by have:=p4.l;simp only;omega⟩,by simp only;omega⟩;have h44:=fun K=>ht _ b0 K hpre;rw[c4];generalize treeF l uses d ⟨s4.at_,s4.left,max s.caps m⟩=Y at *;obtain⟨r,s5⟩:=Y;simp only at h44 |-;have fin:∀(M:List MB),(∃ L,M=K++L)->retPol pol1 83 (mH b0 l uses s K) (.agg [I 5,.sl true [],.sl true [reAV r],I 0,I 0,I 0,I m,.bool false]) (mH b0 l uses s5 M)=some (reAV (.mk 5 [] [r] 0 0 0 m false),mH b0 l uses s5 K):=fun M hM=>
  CE (by rfl) (by rfl) s s5 hM true true 5 [] [r] 0 0 0 m false
 refine AP (pol:=pol1) Tryz.func83 rfl rfl rfl rfl fr ?_;rcases hc with ⟨g1,rfl,rfl⟩|⟨g1,g2,g3,rfl,rfl⟩|⟨g1,g2,g3,rfl,rfl⟩|⟨g1,g2,rfl,rfl⟩<;>rcases hc2 with ⟨g4,rfl,rfl⟩|⟨g4,rfl,rfl⟩<;>(try cases g4)
 ·rw[show max 1 s2.caps=s2.caps by omega]at h97b;simp +contextual (disch:=omega) only[Tryz.f83,dd83,go_sem,simprocAttr,evAppend,map_append,mu83,↓AD,↓AC,↓AB,↓AA,h97a,h97b,h44,hmx1,hmx2,c1,c2,c3,evMax,An,Av,AM,Ay,AZ,BK,append_nil];repeat' (first|intro _|apply And.intro|(unfold dOk;kernel_rfl)|exact St.beq_refl _|(show altO _ _ _ _=true;kernel_rfl)|(show (_||_)=true;kernel_rfl)|(show (_&&_)=true;kernel_rfl))
  exact fin _ (ex1 ..)
 ·simp +contextual (disch:=omega) only[Tryz.f83,dd83,go_sem,simprocAttr,evAppend,map_append,mu83,↓AD,↓AC,↓AB,↓AA,h97a,h97b,h44,hmx1,hmx2,c1,c2,c3,evMax,An,Av,AM,Ay,AZ,BK,append_nil];repeat' (first|intro _|apply And.intro|(unfold dOk;kernel_rfl)|exact St.beq_refl _|(show altO _ _ _ _=true;kernel_rfl)|(show (_||_)=true;kernel_rfl)|(show (_&&_)=true;kernel_rfl))
  exact fin _ (ex1 ..)
 ·first|rw[show max s.caps (s.caps+1)=s.caps+1 by omega]at h44|rw[show max s2.caps (s2.caps+1)=s2.caps+1 by omega]at h44|rw[show max s4.caps (s4.caps+1)=s4.caps+1 by omega]at h44
  simp +contextual (disch:=omega) only[Tryz.f83,dd83,go_sem,simprocAttr,evAppend,map_append,mu83,↓AD,↓AC,↓AB,↓AA,h97a,h97b,h44,hmx1,hmx2,c1,c2,c3,evMax,An,Av,AM,Ay,AZ,BK,append_nil];repeat' (first|intro _|apply And.intro|(unfold dOk;kernel_rfl)|exact St.beq_refl _|(show altO _ _ _ _=true;kernel_rfl)|(show (_||_)=true;kernel_rfl)|(show (_&&_)=true;kernel_rfl))
  exact fin _ (ex1 ..)
 ·first|rw[show max s.caps (s.caps+1)=s.caps+1 by omega]at h44|rw[show max s2.caps (s2.caps+1)=s2.caps+1 by omega]at h44|rw[show max s4.caps (s4.caps+1)=s4.caps+1 by omega]at h44
  simp +contextual (disch:=omega) only[Tryz.f83,dd83,go_sem,simprocAttr,evAppend,map_append,mu83,↓AD,↓AC,↓AB,↓AA,h97a,h97b,h44,hmx1,hmx2,c1,c2,c3,evMax,An,Av,AM,Ay,AZ,BK,append_nil];repeat' (first|intro _|apply And.intro|(unfold dOk;kernel_rfl)|exact St.beq_refl _|(show altO _ _ _ _=true;kernel_rfl)|(show (_||_)=true;kernel_rfl)|(show (_&&_)=true;kernel_rfl))
  exact fin _ (ex1 ..)
end
end
section
attribute [local go_sem] evAppend map_append
theorem Bk (b0 x x' a a' b:MB) (K:List MB):sameAt (K.length+1+1+1) (b0::x::(K++[a]++[b])) (b0::x'::(K++[a']++[b]))=true:=by
 have h:∀ x a,(b0::x::(K++[a]++[b]))[K.length+1+1+1]?=some b:=fun x a=>by
  rw[List.getElem?_cons_succ,List.getElem?_cons_succ];exact B3 K a b
 unfold sameAt;rw[h,h];exact MB.beq_refl b
section
variable {l:List Int} (hl:∀ x∈l,In64 x) {uses:Int}{d:Nat} (hd:d<=5) (ht:TreeLaw l uses d) (hb:TreeB l uses d)
include hb
theorem NF {s:MS} (hp:Pre (5+3*mA1 d) (3*mS1 d) s):Post (5+3*mA1 d) (3*mS1 d) s (repF l uses (treeF l uses d) s).2:=by
 have hA:=Bi d;have hS:=Bh d;unfold repF;simp only;have p1:=Ax l 12 s hp.c;have p2:=p1.trans (Ax l 2 _ p1.c);obtain⟨s3,e3,p3⟩:∃ s3,(if 0<andI uses 8 then(if(nx l 4 (nx l 2 (nx l 12 s).2).2).1=0 then 2 else(nx l 2 (nx l 12 s).2).1,(nx l 4 (nx l 2 (nx l 12 s).2).2).2) else nx l 2 (nx l 12 s).2).2=s3/\Post (1+1+1) (0+0+0) s s3:=by
  split
  ·exact⟨_,rfl,p2.trans (Ax l 4 _ p2.c)⟩
  ·exact⟨_,rfl,p2.up (by omega) (by omega)⟩
 rw[e3];have q:=hb s3 (hp.step p3 (by omega) (by omega));have r:=p3.trans q;split
 ·exact(r.trans (EN l _ r.c)).up (by omega) (by omega)
 ·exact r.up (by omega) (by omega)
theorem Nh {s:MS} (hp:Pre (5+3*mA1 d) (3*mS1 d) s):Post (5+3*mA1 d) (3*mS1 d) s (capF l (treeF l uses d) s).2:=by
 have hA:=Bi d;have hS:=Bh d;have hc:=hp.c;unfold capF;simp only;obtain⟨b,s2,e2,p2,c2,hbb⟩:∃(b:Bool) (s2:MS),(if 4<s.caps+1 then(true,s) else if 0<s.caps then(decide ((nx l 9 s).1=0),(nx l 9 s).2) else(false,s))=(b,s2)/\Post 1 0 s s2/\s2.caps=s.caps/\(b=false->¬ 4<s.caps+1):=by
  have p0:Post 1 0 s s:=⟨by omega,by omega,hc⟩;split
  ·exact⟨_,_,rfl,p0,rfl,fun h=>by cases h⟩
  ·rename_i h4;split
   ·exact⟨_,_,rfl,Ax l 9 s hc,rfl,fun _=>h4⟩
   ·exact⟨_,_,rfl,p0,rfl,fun _=>h4⟩
 rw[e2];simp only;have hm1:0<max 1 s2.caps:=by omega
 have hv:=Bo l hm1 s2;have p3:=p2.trans (Ax l (max 1 s2.caps) s2 p2.c);have c3:(nx l (max 1 s2.caps) s2).2.caps=s2.caps:=rfl;obtain⟨m,s4,e4,p4,c4,hm⟩:∃(m:Int) (s4:MS),(if b=true then(1+(nx l (max 1 s2.caps) s2).1,(nx l (max 1 s2.caps) s2).2) else(s.caps+1,s2))=(m,s4)/\Post (1+1) (0+0) s s4/\s4.caps=s.caps/\(0<=m/\m<=4):=by
  cases b with
  | true=>exact⟨_,_,if_pos rfl,p3,by rw[c3,c2],by omega⟩
  | false=>
    have:=hbb rfl;exact⟨_,_,if_neg Bool.false_ne_true,p2.up (by omega) (by omega),c2,by omega⟩
 rw[e4];simp only;have p5:Post 2 0 s ⟨s4.at_,s4.left,max s4.caps m⟩:=⟨by have:=p4.a;simp only;omega,by have:=p4.l;simp only;omega,by simp only;omega⟩;have q:=hb _ (hp.step p5 (by omega) (by omega));exact(p5.trans q).up (by omega) (by omega)
theorem NA {s:MS} (k:Int) (hp:Pre (8+3*mA1 d) (3*mS1 d) s):Post (8+3*mA1 d) (3*mS1 d) s (treeStep l uses (treeF l uses d) k s).2:=by
 have hA:=Bi d;have hS:=Bh d;have hp5:Pre (5+3*mA1 d) (3*mS1 d) s:=⟨⟨hp.a.1,by have:=hp.a;omega⟩,hp.l,hp.c⟩;have hlf:Post 1 0 s (leafF l k s).2:=by
  unfold leafF;split
  ·exact⟨by simp only;omega,by simp only;omega,hp.c⟩
  ·exact EN l s hp.c
 have n6:=Ax l 6 s hp.c;have n3:=Ax l 3 s hp.c;have n32:=n3.trans (Ax l 2 _ n3.c);have nc:=Ax l s.caps s hp.c;have hA2:Pre (mA1 d) (mS1 d) s:=hp.step (x:=0) (y:=0) ⟨by omega,by omega,hp.c⟩ (by omega) (by omega);unfold treeStep;split
 ·exact hlf.up (by omega) (by omega)
 split
 ·exact(HL hb hp5).up (by omega) (by omega)
 split
 ·exact(HL hb hp5).up (by omega) (by omega)
 split
 ·exact(NF hb hp5).up (by omega) (by omega)
 split
 ·exact(Nh hb hp5).up (by omega) (by omega)
 split
 ·exact n6.up (by omega) (by omega)
 split
 ·exact(n32.trans (hb _ (hp.step n32 (by omega) (by omega)))).up (by omega) (by omega)
 split
 ·exact(hb _ hA2).up (by omega) (by omega)
 split
 ·exact nc.up (by omega) (by omega)
 split
 ·have y:=nc.trans (hb _ (hp.step nc (by omega) (by omega)));exact(y.trans (hb _ (hp.step y (by omega) (by omega)))).up (by omega) (by omega)
 ·exact(EN l s hp.c).up (by omega) (by omega)
theorem LX:TreeB l uses (d+1):=by
 intro s hp;have hA:=Bi d;have hS:=Bh d;simp only[mA1,mS1]at hp |-;have hc:=hp.c;have p0:Post 0 1 s ⟨s.at_,s.left-1,s.caps⟩:=⟨by simp only;omega,by simp only;omega,hc⟩;have p1:=p0.trans (Ax l 20 _ p0.c);exact(p1.trans (NA hb _ (hp.step p1 (by omega) (by omega)))).up (by omega) (by omega)
end
theorem LW {l:List Int}{uses:Int}:TreeB l uses 0:=by
 intro s hp;have hc:=hp.c;have p0:Post 0 1 s ⟨s.at_,s.left-1,s.caps⟩:=⟨by simp only;omega,by simp only;omega,hc⟩;have p1:=p0.trans (Ax l 20 _ p0.c);simp only[treeF,mA1,mS1];unfold leafF;split
 ·exact p1.up (by omega) (by omega)
 ·exact(p1.trans (EN l _ p1.c)).up (by omega) (by omega)
theorem Sk {l:List Int} (hl:∀ x∈l,In64 x) {uses:Int} (s:MS) (b0:MB) (K:List MB) (hp:Pre (mA1 0) (mS1 0) s) (k:Int) (s1:MS) (hk:nx l 20 ⟨s.at_,s.left-1,s.caps⟩=(k,s1)) :
  call Pg pol1 52 [.rf 1 1 0 0,I ((0:Nat):Int)] (mH b0 l uses s K)=some (reAV (leafF l k s1).1,mH b0 l uses (leafF l k s1).2 K):=by
 simp only[mA1,mS1]at hp;have hq:=Bo l (n:=20) (by omega) ⟨s.at_,s.left-1,s.caps⟩;have p1:=Ax l 20 ⟨s.at_,s.left-1,s.caps⟩ hp.c;obtain⟨pa,pl,pc⟩:=hp;have h97:=fun K=>f97 l hl uses 20 (by omega) ⟨s.at_,s.left-1,s.caps⟩ ⟨pa.1,by simp only;omega⟩ b0 K;rw[hk]at hq p1 h97;clear hk;simp only at hq p1 h97;obtain⟨qa,ql,qc⟩:=p1;simp only at qa ql;have hw:IntKind.i64.wrap (s.left-1)=s.left-1:=i64_in _ ⟨by omega,by omega⟩;have h98:=fun K=>f98 l hl uses s1 ⟨by omega,by omega⟩ b0 K;generalize hY:setM l s1=Y at *;have fr:frzArgs pol1 52 0 [.rf 1 1 0 0,I ((0:Nat):Int)] (mH b0 l uses s K)=some ([.rf 1 1 0 0,I ((0:Nat):Int)],mH b0 l uses s K):=AL _ _ _ rfl;by_cases hk0:k=0
 ·subst hk0;rw[show leafF l 0 s1=(.mk 0 [] [] 0 0 0 0 false,s1) from if_pos rfl];refine AP (pol:=pol1) Tryz.func52 rfl rfl rfl rfl fr ?_
  all_goals simp +contextual (disch:=omega) only[Tryz.f52,dd52,go_sem,simprocAttr,mu52,↓AD,↓AC,↓AB,↓AA,h97,hw,An,Av,B8,B3,B7,B6,Bk,Bf,Bd,BY,Bc,BZ,Ba,Bb,AM,Ay,AZ,BK,append_nil]
  all_goals repeat' (first|intro _|apply And.intro|(unfold dOk;kernel_rfl)|exact St.beq_refl _|(show altO _ _ _ _=true;kernel_rfl)|(show (_||_)=true;kernel_rfl)|(show (_&&_)=true;kernel_rfl))
  all_goals exact CE (by rfl) (by rfl) s s1 (ex1 ..) true true 0 [] [] 0 0 0 0 false
 ·rw[show leafF l k s1=Y from(if_neg hk0).trans hY];obtain⟨Y1,Y2⟩:=Y;refine AP (pol:=pol1) Tryz.func52 rfl rfl rfl rfl fr ?_
  all_goals simp +contextual (disch:=omega) only[Tryz.f52,dd52,go_sem,simprocAttr,mu52,↓AD,↓AC,↓AB,↓AA,h97,hw,An,Av,B8,B3,B7,B6,Bk,Bf,Bd,BY,Bc,BZ,Ba,Bb,AM,Ay,AZ,BK,append_nil,h98]
  all_goals repeat' (first|intro _|apply And.intro|(unfold dOk;kernel_rfl)|exact St.beq_refl _|(show altO _ _ _ _=true;kernel_rfl)|(show (_||_)=true;kernel_rfl)|(show (_&&_)=true;kernel_rfl))
  all_goals exact Dn rfl rfl s _ (ex1 ..) (fun H=>Au H (CA _)) (CA _)
theorem Sj {l:List Int} (hl:∀ x∈l,In64 x) {uses:Int}{d:Nat} (hd:d<=5) (s:MS) (b0:MB) (K:List MB) (hp:Pre (mA1 (d+1)) (mS1 (d+1)) s) (k:Int) (s1:MS) (hk:nx l 20 ⟨s.at_,s.left-1,s.caps⟩=(k,s1)) (hc:s1.left<3∨(l.length:Int)<s1.at_) :
  call Pg pol1 52 [.rf 1 1 0 0,I (((d+1):Nat):Int)] (mH b0 l uses s K)=some (reAV (leafF l k s1).1,mH b0 l uses (leafF l k s1).2 K):=by
 simp only[mA1,mS1]at hp;have hA:=Bi d;have hS:=Bh d;have hq:=Bo l (n:=20) (by omega) ⟨s.at_,s.left-1,s.caps⟩;have p1:=Ax l 20 ⟨s.at_,s.left-1,s.caps⟩ hp.c;obtain⟨pa,pl,pc⟩:=hp;have h97:=fun K=>f97 l hl uses 20 (by omega) ⟨s.at_,s.left-1,s.caps⟩ ⟨pa.1,by simp only;omega⟩ b0 K;rw[hk]at hq p1 h97;clear hk;simp only at hq p1 h97;obtain⟨qa,ql,qc⟩:=p1;simp only at qa ql;have hw:IntKind.i64.wrap (s.left-1)=s.left-1:=i64_in _ ⟨by omega,by omega⟩;have hc':s1.left<3∨(¬ s1.left<3/\(l.length:Int)<s1.at_):=by omega
 have h98:=fun K=>f98 l hl uses s1 ⟨by omega,by omega⟩ b0 K;generalize hY:setM l s1=Y at *;have fr:frzArgs pol1 52 0 [.rf 1 1 0 0,I (((d+1):Nat):Int)] (mH b0 l uses s K)=some ([.rf 1 1 0 0,I (((d+1):Nat):Int)],mH b0 l uses s K):=AL _ _ _ rfl;by_cases hk0:k=0
 ·subst hk0;rw[show leafF l 0 s1=(.mk 0 [] [] 0 0 0 0 false,s1) from if_pos rfl];refine AP (pol:=pol1) Tryz.func52 rfl rfl rfl rfl fr ?_;rcases hc' with hc1|⟨hc1,hc2⟩
  all_goals simp +contextual (disch:=omega) only[Tryz.f52,dd52,go_sem,simprocAttr,mu52,↓AD,↓AC,↓AB,↓AA,h97,hw,An,Av,B8,B3,B7,B6,Bk,Bf,Bd,BY,Bc,BZ,Ba,Bb,AM,Ay,AZ,BK,append_nil]
  all_goals repeat' (first|intro _|apply And.intro|(unfold dOk;kernel_rfl)|exact St.beq_refl _|(show altO _ _ _ _=true;kernel_rfl)|(show (_||_)=true;kernel_rfl)|(show (_&&_)=true;kernel_rfl))
  all_goals exact CE (by rfl) (by rfl) s s1 (ex1 ..) true true 0 [] [] 0 0 0 0 false
 ·rw[show leafF l k s1=Y from(if_neg hk0).trans hY];obtain⟨Y1,Y2⟩:=Y;refine AP (pol:=pol1) Tryz.func52 rfl rfl rfl rfl fr ?_;rcases hc' with hc1|⟨hc1,hc2⟩
  all_goals simp +contextual (disch:=omega) only[Tryz.f52,dd52,go_sem,simprocAttr,mu52,↓AD,↓AC,↓AB,↓AA,h97,hw,An,Av,B8,B3,B7,B6,Bk,Bf,Bd,BY,Bc,BZ,Ba,Bb,AM,Ay,AZ,BK,append_nil,h98]
  all_goals repeat' (first|intro _|apply And.intro|(unfold dOk;kernel_rfl)|exact St.beq_refl _|(show altO _ _ _ _=true;kernel_rfl)|(show (_||_)=true;kernel_rfl)|(show (_&&_)=true;kernel_rfl))
  all_goals exact Dn rfl rfl s _ (ex1 ..) (fun H=>Au H (CA _)) (CA _)
theorem Q7 {l:List Int} (hl:∀ x∈l,In64 x) {uses:Int}{d:Nat} (hd:d<=5) (ht:TreeLaw l uses d) (hb:TreeB l uses d) (s:MS) (b0:MB) (K:List MB) (hp:Pre (mA1 (d+1)) (mS1 (d+1)) s) (k:Int) (s1:MS) (hk:nx l 20 ⟨s.at_,s.left-1,s.caps⟩=(k,s1)) (hn1:¬ s1.left<3) (hn2:¬ (l.length:Int)<s1.at_) (h:k<5) :
  call Pg pol1 52 [.rf 1 1 0 0,I ((d+1:Nat):Int)] (mH b0 l uses s K)=some (reAV ((.mk 2 [] (kidsF l (treeF l uses d) s1).1 0 0 0 0 false,(kidsF l (treeF l uses d) s1).2):Re×MS).1,mH b0 l uses ((.mk 2 [] (kidsF l (treeF l uses d) s1).1 0 0 0 0 false,(kidsF l (treeF l uses d) s1).2):Re×MS).2 K):=by
 simp only[mA1,mS1]at hp;have hA:=Bi d;have hS:=Bh d;have hq:=Bo l (n:=20) (by omega) ⟨s.at_,s.left-1,s.caps⟩;have p1:=Ax l 20 ⟨s.at_,s.left-1,s.caps⟩ hp.c;obtain⟨pa,pl,pc⟩:=hp;have h97:=fun K=>f97 l hl uses 20 (by omega) ⟨s.at_,s.left-1,s.caps⟩ ⟨pa.1,by simp only;omega⟩ b0 K;rw[hk]at hq p1 h97;clear hk;simp only at hq p1 h97;obtain⟨qa,ql,qc⟩:=p1;simp only at qa ql;have hw:IntKind.i64.wrap (s.left-1)=s.left-1:=i64_in _ ⟨by omega,by omega⟩;have hp5:Pre (5+3*mA1 d) (3*mS1 d) s1:=⟨⟨by omega,by omega⟩,⟨by omega,by omega⟩,qc⟩;have h99:=fun K=>f99 hl hd ht hb s1 hp5 b0 K;generalize kidsF l (treeF l uses d) s1=Y at *;obtain⟨Y1,Y2⟩:=Y;simp only at h99 |-;have fr:frzArgs pol1 52 0 [.rf 1 1 0 0,I ((d+1:Nat):Int)] (mH b0 l uses s K)=some ([.rf 1 1 0 0,I ((d+1:Nat):Int)],mH b0 l uses s K):=AL _ _ _ rfl;refine AP (pol:=pol1) Tryz.func52 rfl rfl rfl rfl fr ?_;simp +contextual (disch:=omega) only[Tryz.f52,dd52,go_sem,simprocAttr,mu52,↓AD,↓AC,↓AB,↓AA,h97,hw,An,Av,B8,B3,B7,B6,Bk,Bf,Bd,BY,Bc,BZ,Ba,Bb,AM,Ay,AZ,BK,append_nil,h99];repeat' (first|intro _|apply And.intro|(unfold dOk;kernel_rfl)|exact St.beq_refl _|(show altO _ _ _ _=true;kernel_rfl)|(show (_||_)=true;kernel_rfl)|(show (_&&_)=true;kernel_rfl))
 exact CE (by rfl) (by rfl) s _ (ex1 ..) true false 2 [] Y1 0 0 0 0 false
theorem Q8 {l:List Int} (hl:∀ x∈l,In64 x) {uses:Int}{d:Nat} (hd:d<=5) (ht:TreeLaw l uses d) (hb:TreeB l uses d) (s:MS) (b0:MB) (K:List MB) (hp:Pre (mA1 (d+1)) (mS1 (d+1)) s) (k:Int) (s1:MS) (hk:nx l 20 ⟨s.at_,s.left-1,s.caps⟩=(k,s1)) (hn1:¬ s1.left<3) (hn2:¬ (l.length:Int)<s1.at_) (h:5<=k) (h2:k<8) :
  call Pg pol1 52 [.rf 1 1 0 0,I ((d+1:Nat):Int)] (mH b0 l uses s K)=some (reAV ((.mk 3 [] (kidsF l (treeF l uses d) s1).1 0 0 0 0 false,(kidsF l (treeF l uses d) s1).2):Re×MS).1,mH b0 l uses ((.mk 3 [] (kidsF l (treeF l uses d) s1).1 0 0 0 0 false,(kidsF l (treeF l uses d) s1).2):Re×MS).2 K):=by
 simp only[mA1,mS1]at hp;have hA:=Bi d;have hS:=Bh d;have hq:=Bo l (n:=20) (by omega) ⟨s.at_,s.left-1,s.caps⟩;have p1:=Ax l 20 ⟨s.at_,s.left-1,s.caps⟩ hp.c;obtain⟨pa,pl,pc⟩:=hp;have h97:=fun K=>f97 l hl uses 20 (by omega) ⟨s.at_,s.left-1,s.caps⟩ ⟨pa.1,by simp only;omega⟩ b0 K;rw[hk]at hq p1 h97;clear hk;simp only at hq p1 h97;obtain⟨qa,ql,qc⟩:=p1;simp only at qa ql;have hw:IntKind.i64.wrap (s.left-1)=s.left-1:=i64_in _ ⟨by omega,by omega⟩;have hp5:Pre (5+3*mA1 d) (3*mS1 d) s1:=⟨⟨by omega,by omega⟩,⟨by omega,by omega⟩,qc⟩;have h99:=fun K=>f99 hl hd ht hb s1 hp5 b0 K;generalize kidsF l (treeF l uses d) s1=Y at *;obtain⟨Y1,Y2⟩:=Y;simp only at h99 |-;have fr:frzArgs pol1 52 0 [.rf 1 1 0 0,I ((d+1:Nat):Int)] (mH b0 l uses s K)=some ([.rf 1 1 0 0,I ((d+1:Nat):Int)],mH b0 l uses s K):=AL _ _ _ rfl;refine AP (pol:=pol1) Tryz.func52 rfl rfl rfl rfl fr ?_;simp +contextual (disch:=omega) only[Tryz.f52,dd52,go_sem,simprocAttr,mu52,↓AD,↓AC,↓AB,↓AA,h97,hw,An,Av,B8,B3,B7,B6,Bk,Bf,Bd,BY,Bc,BZ,Ba,Bb,AM,Ay,AZ,BK,append_nil,h99];repeat' (first|intro _|apply And.intro|(unfold dOk;kernel_rfl)|exact St.beq_refl _|(show altO _ _ _ _=true;kernel_rfl)|(show (_||_)=true;kernel_rfl)|(show (_&&_)=true;kernel_rfl))
 exact CE (by rfl) (by rfl) s _ (ex1 ..) true false 3 [] Y1 0 0 0 0 false
theorem Q5 {l:List Int} (hl:∀ x∈l,In64 x) {uses:Int}{d:Nat} (hd:d<=5) (ht:TreeLaw l uses d) (hb:TreeB l uses d) (s:MS) (b0:MB) (K:List MB) (hp:Pre (mA1 (d+1)) (mS1 (d+1)) s) (k:Int) (s1:MS) (hk:nx l 20 ⟨s.at_,s.left-1,s.caps⟩=(k,s1)) (hn1:¬ s1.left<3) (hn2:¬ (l.length:Int)<s1.at_) (h:8<=k) (h2:k<12) :
  call Pg pol1 52 [.rf 1 1 0 0,I ((d+1:Nat):Int)] (mH b0 l uses s K)=some (reAV (repF l uses (treeF l uses d) s1).1,mH b0 l uses (repF l uses (treeF l uses d) s1).2 K):=by
 simp only[mA1,mS1]at hp;have hA:=Bi d;have hS:=Bh d;have hq:=Bo l (n:=20) (by omega) ⟨s.at_,s.left-1,s.caps⟩;have p1:=Ax l 20 ⟨s.at_,s.left-1,s.caps⟩ hp.c;obtain⟨pa,pl,pc⟩:=hp;have h97:=fun K=>f97 l hl uses 20 (by omega) ⟨s.at_,s.left-1,s.caps⟩ ⟨pa.1,by simp only;omega⟩ b0 K;rw[hk]at hq p1 h97;clear hk;simp only at hq p1 h97;obtain⟨qa,ql,qc⟩:=p1;simp only at qa ql;have hw:IntKind.i64.wrap (s.left-1)=s.left-1:=i64_in _ ⟨by omega,by omega⟩;have hp5:Pre (5+3*mA1 d) (3*mS1 d) s1:=⟨⟨by omega,by omega⟩,⟨by omega,by omega⟩,qc⟩;have h100:=fun K=>f100 hl hd ht hb s1 hp5 b0 K;generalize repF l uses (treeF l uses d) s1=Y at *;obtain⟨Y1,Y2⟩:=Y;simp only at h100 |-;have fr:frzArgs pol1 52 0 [.rf 1 1 0 0,I ((d+1:Nat):Int)] (mH b0 l uses s K)=some ([.rf 1 1 0 0,I ((d+1:Nat):Int)],mH b0 l uses s K):=AL _ _ _ rfl;refine AP (pol:=pol1) Tryz.func52 rfl rfl rfl rfl fr ?_;simp +contextual (disch:=omega) only[Tryz.f52,dd52,go_sem,simprocAttr,mu52,↓AD,↓AC,↓AB,↓AA,h97,hw,An,Av,B8,B3,B7,B6,Bk,Bf,Bd,BY,Bc,BZ,Ba,Bb,AM,Ay,AZ,BK,append_nil,h100];repeat' (first|intro _|apply And.intro|(unfold dOk;kernel_rfl)|exact St.beq_refl _|(show altO _ _ _ _=true;kernel_rfl)|(show (_||_)=true;kernel_rfl)|(show (_&&_)=true;kernel_rfl))
 exact Dn rfl rfl s _ (ex1 ..) (fun H=>Au H (CA _)) (CA _)
theorem N4 {l:List Int} (hl:∀ x∈l,In64 x) {uses:Int}{d:Nat} (hd:d<=5) (ht:TreeLaw l uses d) (hb:TreeB l uses d) (s:MS) (b0:MB) (K:List MB) (hp:Pre (mA1 (d+1)) (mS1 (d+1)) s) (k:Int) (s1:MS) (hk:nx l 20 ⟨s.at_,s.left-1,s.caps⟩=(k,s1)) (hn1:¬ s1.left<3) (hn2:¬ (l.length:Int)<s1.at_) (h:k=12) (u:0<andI uses 64) :
  call Pg pol1 52 [.rf 1 1 0 0,I ((d+1:Nat):Int)] (mH b0 l uses s K)=some (reAV (capF l (treeF l uses d) s1).1,mH b0 l uses (capF l (treeF l uses d) s1).2 K):=by
 simp only[mA1,mS1]at hp;have hA:=Bi d;have hS:=Bh d;have hq:=Bo l (n:=20) (by omega) ⟨s.at_,s.left-1,s.caps⟩;have p1:=Ax l 20 ⟨s.at_,s.left-1,s.caps⟩ hp.c;obtain⟨pa,pl,pc⟩:=hp;have h97:=fun K=>f97 l hl uses 20 (by omega) ⟨s.at_,s.left-1,s.caps⟩ ⟨pa.1,by simp only;omega⟩ b0 K;rw[hk]at hq p1 h97;clear hk;simp only at hq p1 h97;obtain⟨qa,ql,qc⟩:=p1;simp only at qa ql;have hw:IntKind.i64.wrap (s.left-1)=s.left-1:=i64_in _ ⟨by omega,by omega⟩;have hp5:Pre (5+3*mA1 d) (3*mS1 d) s1:=⟨⟨by omega,by omega⟩,⟨by omega,by omega⟩,qc⟩;subst h;have h101:=fun K=>f101 hl hd ht hb s1 hp5 b0 K;generalize capF l (treeF l uses d) s1=Y at *;obtain⟨Y1,Y2⟩:=Y;simp only at h101 |-;have fr:frzArgs pol1 52 0 [.rf 1 1 0 0,I ((d+1:Nat):Int)] (mH b0 l uses s K)=some ([.rf 1 1 0 0,I ((d+1:Nat):Int)],mH b0 l uses s K):=AL _ _ _ rfl;refine AP (pol:=pol1) Tryz.func52 rfl rfl rfl rfl fr ?_;simp +contextual (disch:=omega) only[Tryz.f52,dd52,go_sem,simprocAttr,mu52,↓AD,↓AC,↓AB,↓AA,h97,hw,An,Av,B8,B3,B7,B6,Bk,Bf,Bd,BY,Bc,BZ,Ba,Bb,AM,Ay,AZ,BK,append_nil,h101];repeat' (first|intro _|apply And.intro|(unfold dOk;kernel_rfl)|exact St.beq_refl _|(show altO _ _ _ _=true;kernel_rfl)|(show (_||_)=true;kernel_rfl)|(show (_&&_)=true;kernel_rfl))
 exact Dn rfl rfl s _ (ex1 ..) (fun H=>Au H (CA _)) (CA _)
theorem N3 {l:List Int} (hl:∀ x∈l,In64 x) {uses:Int}{d:Nat} (hd:d<=5) (ht:TreeLaw l uses d) (hb:TreeB l uses d) (s:MS) (b0:MB) (K:List MB) (hp:Pre (mA1 (d+1)) (mS1 (d+1)) s) (k:Int) (s1:MS) (hk:nx l 20 ⟨s.at_,s.left-1,s.caps⟩=(k,s1)) (hn1:¬ s1.left<3) (hn2:¬ (l.length:Int)<s1.at_) (h:k=13) (u:0<andI uses 64) :
  call Pg pol1 52 [.rf 1 1 0 0,I ((d+1:Nat):Int)] (mH b0 l uses s K)=some (reAV (capF l (treeF l uses d) s1).1,mH b0 l uses (capF l (treeF l uses d) s1).2 K):=by
 simp only[mA1,mS1]at hp;have hA:=Bi d;have hS:=Bh d;have hq:=Bo l (n:=20) (by omega) ⟨s.at_,s.left-1,s.caps⟩;have p1:=Ax l 20 ⟨s.at_,s.left-1,s.caps⟩ hp.c;obtain⟨pa,pl,pc⟩:=hp;have h97:=fun K=>f97 l hl uses 20 (by omega) ⟨s.at_,s.left-1,s.caps⟩ ⟨pa.1,by simp only;omega⟩ b0 K;rw[hk]at hq p1 h97;clear hk;simp only at hq p1 h97;obtain⟨qa,ql,qc⟩:=p1;simp only at qa ql;have hw:IntKind.i64.wrap (s.left-1)=s.left-1:=i64_in _ ⟨by omega,by omega⟩;have hp5:Pre (5+3*mA1 d) (3*mS1 d) s1:=⟨⟨by omega,by omega⟩,⟨by omega,by omega⟩,qc⟩;subst h;have h101:=fun K=>f101 hl hd ht hb s1 hp5 b0 K;generalize capF l (treeF l uses d) s1=Y at *;obtain⟨Y1,Y2⟩:=Y;simp only at h101 |-;have fr:frzArgs pol1 52 0 [.rf 1 1 0 0,I ((d+1:Nat):Int)] (mH b0 l uses s K)=some ([.rf 1 1 0 0,I ((d+1:Nat):Int)],mH b0 l uses s K):=AL _ _ _ rfl;refine AP (pol:=pol1) Tryz.func52 rfl rfl rfl rfl fr ?_;simp +contextual (disch:=omega) only[Tryz.f52,dd52,go_sem,simprocAttr,mu52,↓AD,↓AC,↓AB,↓AA,h97,hw,An,Av,B8,B3,B7,B6,Bk,Bf,Bd,BY,Bc,BZ,Ba,Bb,AM,Ay,AZ,BK,append_nil,h101];repeat' (first|intro _|apply And.intro|(unfold dOk;kernel_rfl)|exact St.beq_refl _|(show altO _ _ _ _=true;kernel_rfl)|(show (_||_)=true;kernel_rfl)|(show (_&&_)=true;kernel_rfl))
 exact Dn rfl rfl s _ (ex1 ..) (fun H=>Au H (CA _)) (CA _)
theorem SD {l:List Int} (hl:∀ x∈l,In64 x) {uses:Int}{d:Nat} (hd:d<=5) (ht:TreeLaw l uses d) (hb:TreeB l uses d) (s:MS) (b0:MB) (K:List MB) (hp:Pre (mA1 (d+1)) (mS1 (d+1)) s) (k:Int) (s1:MS) (hk:nx l 20 ⟨s.at_,s.left-1,s.caps⟩=(k,s1)) (hn1:¬ s1.left<3) (hn2:¬ (l.length:Int)<s1.at_) (h:k=14) (u:0<andI uses 16) :
  call Pg pol1 52 [.rf 1 1 0 0,I ((d+1:Nat):Int)] (mH b0 l uses s K)=some (reAV ((.mk 11 [] [] 0 0 0 (nx l 6 s1).1 false,(nx l 6 s1).2):Re×MS).1,mH b0 l uses ((.mk 11 [] [] 0 0 0 (nx l 6 s1).1 false,(nx l 6 s1).2):Re×MS).2 K):=by
 simp only[mA1,mS1]at hp;have hA:=Bi d;have hS:=Bh d;have hq:=Bo l (n:=20) (by omega) ⟨s.at_,s.left-1,s.caps⟩;have p1:=Ax l 20 ⟨s.at_,s.left-1,s.caps⟩ hp.c;obtain⟨pa,pl,pc⟩:=hp;have h97:=fun K=>f97 l hl uses 20 (by omega) ⟨s.at_,s.left-1,s.caps⟩ ⟨pa.1,by simp only;omega⟩ b0 K;rw[hk]at hq p1 h97;clear hk;simp only at hq p1 h97;obtain⟨qa,ql,qc⟩:=p1;simp only at qa ql;have hw:IntKind.i64.wrap (s.left-1)=s.left-1:=i64_in _ ⟨by omega,by omega⟩;have hp5:Pre (5+3*mA1 d) (3*mS1 d) s1:=⟨⟨by omega,by omega⟩,⟨by omega,by omega⟩,qc⟩;subst h;have h97b:=fun K=>f97 l hl uses 6 (by omega) s1 ⟨by omega,by omega⟩ b0 K;generalize nx l 6 s1=Y at *;obtain⟨Y1,Y2⟩:=Y;simp only at h97b |-;have fr:frzArgs pol1 52 0 [.rf 1 1 0 0,I ((d+1:Nat):Int)] (mH b0 l uses s K)=some ([.rf 1 1 0 0,I ((d+1:Nat):Int)],mH b0 l uses s K):=AL _ _ _ rfl;refine AP (pol:=pol1) Tryz.func52 rfl rfl rfl rfl fr ?_;simp +contextual (disch:=omega) only[Tryz.f52,dd52,go_sem,simprocAttr,mu52,↓AD,↓AC,↓AB,↓AA,h97,hw,An,Av,B8,B3,B7,B6,Bk,Bf,Bd,BY,Bc,BZ,Ba,Bb,AM,Ay,AZ,BK,append_nil,h97b];repeat' (first|intro _|apply And.intro|(unfold dOk;kernel_rfl)|exact St.beq_refl _|(show altO _ _ _ _=true;kernel_rfl)|(show (_||_)=true;kernel_rfl)|(show (_&&_)=true;kernel_rfl))
 exact CE (by rfl) (by rfl) s _ (ex1 ..) true true 11 [] [] 0 0 0 Y1 false
theorem Pd {l:List Int} (hl:∀ x∈l,In64 x) {uses:Int}{d:Nat} (hd:d<=5) (ht:TreeLaw l uses d) (hb:TreeB l uses d) (s:MS) (b0:MB) (K:List MB) (hp:Pre (mA1 (d+1)) (mS1 (d+1)) s) (k:Int) (s1:MS) (hk:nx l 20 ⟨s.at_,s.left-1,s.caps⟩=(k,s1)) (hn1:¬ s1.left<3) (hn2:¬ (l.length:Int)<s1.at_) (h:k=15) (u:0<andI uses 4) :
  call Pg pol1 52 [.rf 1 1 0 0,I ((d+1:Nat):Int)] (mH b0 l uses s K)=some (reAV ((.mk (7+(nx l 2 (nx l 3 s1).2).1) [] [(treeF l uses d (nx l 2 (nx l 3 s1).2).2).1] 0 0 0 0 ((nx l 3 s1).1==0),(treeF l uses d (nx l 2 (nx l 3 s1).2).2).2):Re×MS).1,mH b0 l uses ((.mk (7+(nx l 2 (nx l 3 s1).2).1) [] [(treeF l uses d (nx l 2 (nx l 3 s1).2).2).1] 0 0 0 0 ((nx l 3 s1).1==0),(treeF l uses d (nx l 2 (nx l 3 s1).2).2).2):Re×MS).2 K):=by
 simp only[mA1,mS1]at hp;have hA:=Bi d;have hS:=Bh d;have hq:=Bo l (n:=20) (by omega) ⟨s.at_,s.left-1,s.caps⟩;have p1:=Ax l 20 ⟨s.at_,s.left-1,s.caps⟩ hp.c;obtain⟨pa,pl,pc⟩:=hp;have h97:=fun K=>f97 l hl uses 20 (by omega) ⟨s.at_,s.left-1,s.caps⟩ ⟨pa.1,by simp only;omega⟩ b0 K;rw[hk]at hq p1 h97;clear hk;simp only at hq p1 h97;obtain⟨qa,ql,qc⟩:=p1;simp only at qa ql;have hw:IntKind.i64.wrap (s.left-1)=s.left-1:=i64_in _ ⟨by omega,by omega⟩;have hp5:Pre (5+3*mA1 d) (3*mS1 d) s1:=⟨⟨by omega,by omega⟩,⟨by omega,by omega⟩,qc⟩;subst h;have h97b:=fun K=>f97 l hl uses 3 (by omega) s1 ⟨by omega,by omega⟩ b0 K;have r1:=Ax l 3 s1 qc;generalize nx l 3 s1=Y at *;obtain⟨x,s2⟩:=Y;simp only at h97b r1 |-;have h97c:=fun K=>f97 l hl uses 2 (by omega) s2 ⟨by have:=r1.a;omega,by have:=r1.a;omega⟩ b0 K;have hv:=Bo l (n:=2) (by omega) s2;have r2:=r1.trans (Ax l 2 s2 r1.c);generalize nx l 2 s2=Y at *;obtain⟨y,s3⟩:=Y;simp only at h97c hv r2 |-;have h44:=fun K=>ht s3 b0 K (hp5.step r2 (by omega) (by omega));generalize treeF l uses d s3=Y at *;obtain⟨Y1,Y2⟩:=Y;simp only at h44 |-;have fr:frzArgs pol1 52 0 [.rf 1 1 0 0,I ((d+1:Nat):Int)] (mH b0 l uses s K)=some ([.rf 1 1 0 0,I ((d+1:Nat):Int)],mH b0 l uses s K):=AL _ _ _ rfl;refine AP (pol:=pol1) Tryz.func52 rfl rfl rfl rfl fr ?_;simp +contextual (disch:=omega) only[Tryz.f52,dd52,go_sem,simprocAttr,mu52,↓AD,↓AC,↓AB,↓AA,h97,hw,An,Av,B8,B3,B7,B6,Bk,Bf,Bd,BY,Bc,BZ,Ba,Bb,AM,Ay,AZ,BK,append_nil,h97b,h97c,h44];repeat' (first|intro _|apply And.intro|(unfold dOk;kernel_rfl)|exact St.beq_refl _|(show altO _ _ _ _=true;kernel_rfl)|(show (_||_)=true;kernel_rfl)|(show (_&&_)=true;kernel_rfl))
 exact CE (by rfl) (by rfl) s _ (ex1 ..) true true (7+y) [] [Y1] 0 0 0 0 (x==0)
theorem Ph {l:List Int} (hl:∀ x∈l,In64 x) {uses:Int}{d:Nat} (hd:d<=5) (ht:TreeLaw l uses d) (hb:TreeB l uses d) (s:MS) (b0:MB) (K:List MB) (hp:Pre (mA1 (d+1)) (mS1 (d+1)) s) (k:Int) (s1:MS) (hk:nx l 20 ⟨s.at_,s.left-1,s.caps⟩=(k,s1)) (hn1:¬ s1.left<3) (hn2:¬ (l.length:Int)<s1.at_) (h:k=16) (u:0<andI uses 8) :
  call Pg pol1 52 [.rf 1 1 0 0,I ((d+1:Nat):Int)] (mH b0 l uses s K)=some (reAV ((.mk 9 [] [(treeF l uses d s1).1] 0 0 0 0 false,(treeF l uses d s1).2):Re×MS).1,mH b0 l uses ((.mk 9 [] [(treeF l uses d s1).1] 0 0 0 0 false,(treeF l uses d s1).2):Re×MS).2 K):=by
 simp only[mA1,mS1]at hp;have hA:=Bi d;have hS:=Bh d;have hq:=Bo l (n:=20) (by omega) ⟨s.at_,s.left-1,s.caps⟩;have p1:=Ax l 20 ⟨s.at_,s.left-1,s.caps⟩ hp.c;obtain⟨pa,pl,pc⟩:=hp;have h97:=fun K=>f97 l hl uses 20 (by omega) ⟨s.at_,s.left-1,s.caps⟩ ⟨pa.1,by simp only;omega⟩ b0 K;rw[hk]at hq p1 h97;clear hk;simp only at hq p1 h97;obtain⟨qa,ql,qc⟩:=p1;simp only at qa ql;have hw:IntKind.i64.wrap (s.left-1)=s.left-1:=i64_in _ ⟨by omega,by omega⟩;have hp5:Pre (5+3*mA1 d) (3*mS1 d) s1:=⟨⟨by omega,by omega⟩,⟨by omega,by omega⟩,qc⟩;subst h;have h44:=fun K=>ht s1 b0 K ⟨⟨by omega,by omega⟩,⟨by omega,by omega⟩,qc⟩;generalize treeF l uses d s1=Y at *;obtain⟨Y1,Y2⟩:=Y;simp only at h44 |-;have fr:frzArgs pol1 52 0 [.rf 1 1 0 0,I ((d+1:Nat):Int)] (mH b0 l uses s K)=some ([.rf 1 1 0 0,I ((d+1:Nat):Int)],mH b0 l uses s K):=AL _ _ _ rfl;refine AP (pol:=pol1) Tryz.func52 rfl rfl rfl rfl fr ?_;simp +contextual (disch:=omega) only[Tryz.f52,dd52,go_sem,simprocAttr,mu52,↓AD,↓AC,↓AB,↓AA,h97,hw,An,Av,B8,B3,B7,B6,Bk,Bf,Bd,BY,Bc,BZ,Ba,Bb,AM,Ay,AZ,BK,append_nil,h44];repeat' (first|intro _|apply And.intro|(unfold dOk;kernel_rfl)|exact St.beq_refl _|(show altO _ _ _ _=true;kernel_rfl)|(show (_||_)=true;kernel_rfl)|(show (_&&_)=true;kernel_rfl))
 exact CE (by rfl) (by rfl) s _ (ex1 ..) true true 9 [] [Y1] 0 0 0 0 false
theorem Q6 {l:List Int} (hl:∀ x∈l,In64 x) {uses:Int}{d:Nat} (hd:d<=5) (ht:TreeLaw l uses d) (hb:TreeB l uses d) (s:MS) (b0:MB) (K:List MB) (hp:Pre (mA1 (d+1)) (mS1 (d+1)) s) (k:Int) (s1:MS) (hk:nx l 20 ⟨s.at_,s.left-1,s.caps⟩=(k,s1)) (hn1:¬ s1.left<3) (hn2:¬ (l.length:Int)<s1.at_) (h:k=17) (u:0<andI uses 1) (c:0<s1.caps) :
  call Pg pol1 52 [.rf 1 1 0 0,I ((d+1:Nat):Int)] (mH b0 l uses s K)=some (reAV ((.mk 6 [] [] 0 0 0 (1+(nx l s1.caps s1).1) false,(nx l s1.caps s1).2):Re×MS).1,mH b0 l uses ((.mk 6 [] [] 0 0 0 (1+(nx l s1.caps s1).1) false,(nx l s1.caps s1).2):Re×MS).2 K):=by
 simp only[mA1,mS1]at hp;have hA:=Bi d;have hS:=Bh d;have hq:=Bo l (n:=20) (by omega) ⟨s.at_,s.left-1,s.caps⟩;have p1:=Ax l 20 ⟨s.at_,s.left-1,s.caps⟩ hp.c;obtain⟨pa,pl,pc⟩:=hp;have h97:=fun K=>f97 l hl uses 20 (by omega) ⟨s.at_,s.left-1,s.caps⟩ ⟨pa.1,by simp only;omega⟩ b0 K;rw[hk]at hq p1 h97;clear hk;simp only at hq p1 h97;obtain⟨qa,ql,qc⟩:=p1;simp only at qa ql;have hw:IntKind.i64.wrap (s.left-1)=s.left-1:=i64_in _ ⟨by omega,by omega⟩;have hp5:Pre (5+3*mA1 d) (3*mS1 d) s1:=⟨⟨by omega,by omega⟩,⟨by omega,by omega⟩,qc⟩;subst h;have h97b:=fun K=>f97 l hl uses s1.caps (by omega) s1 ⟨by omega,by omega⟩ b0 K;have hv:=Bo l c s1;generalize nx l s1.caps s1=Y at *;obtain⟨Y1,Y2⟩:=Y;simp only at h97b hv |-;have fr:frzArgs pol1 52 0 [.rf 1 1 0 0,I ((d+1:Nat):Int)] (mH b0 l uses s K)=some ([.rf 1 1 0 0,I ((d+1:Nat):Int)],mH b0 l uses s K):=AL _ _ _ rfl;refine AP (pol:=pol1) Tryz.func52 rfl rfl rfl rfl fr ?_;simp +contextual (disch:=omega) only[Tryz.f52,dd52,go_sem,simprocAttr,mu52,↓AD,↓AC,↓AB,↓AA,h97,hw,An,Av,B8,B3,B7,B6,Bk,Bf,Bd,BY,Bc,BZ,Ba,Bb,AM,Ay,AZ,BK,append_nil,h97b];repeat' (first|intro _|apply And.intro|(unfold dOk;kernel_rfl)|exact St.beq_refl _|(show altO _ _ _ _=true;kernel_rfl)|(show (_||_)=true;kernel_rfl)|(show (_&&_)=true;kernel_rfl))
 exact CE (by rfl) (by rfl) s _ (ex1 ..) true true 6 [] [] 0 0 0 (1+Y1) false
theorem Pf {l:List Int} (hl:∀ x∈l,In64 x) {uses:Int}{d:Nat} (hd:d<=5) (ht:TreeLaw l uses d) (hb:TreeB l uses d) (s:MS) (b0:MB) (K:List MB) (hp:Pre (mA1 (d+1)) (mS1 (d+1)) s) (k:Int) (s1:MS) (hk:nx l 20 ⟨s.at_,s.left-1,s.caps⟩=(k,s1)) (hn1:¬ s1.left<3) (hn2:¬ (l.length:Int)<s1.at_) (h:k=18) (u:0<andI uses 2) (c:0<s1.caps) :
  call Pg pol1 52 [.rf 1 1 0 0,I ((d+1:Nat):Int)] (mH b0 l uses s K)=some (reAV ((.mk 10 [] [(treeF l uses d (nx l s1.caps s1).2).1,(treeF l uses d (treeF l uses d (nx l s1.caps s1).2).2).1] 0 0 0 (1+(nx l s1.caps s1).1) false,(treeF l uses d (treeF l uses d (nx l s1.caps s1).2).2).2):Re×MS).1,mH b0 l uses ((.mk 10 [] [(treeF l uses d (nx l s1.caps s1).2).1,(treeF l uses d (treeF l uses d (nx l s1.caps s1).2).2).1] 0 0 0 (1+(nx l s1.caps s1).1) false,(treeF l uses d (treeF l uses d (nx l s1.caps s1).2).2).2):Re×MS).2 K):=by
 simp only[mA1,mS1]at hp;have hA:=Bi d;have hS:=Bh d;have hq:=Bo l (n:=20) (by omega) ⟨s.at_,s.left-1,s.caps⟩;have p1:=Ax l 20 ⟨s.at_,s.left-1,s.caps⟩ hp.c;obtain⟨pa,pl,pc⟩:=hp;have h97:=fun K=>f97 l hl uses 20 (by omega) ⟨s.at_,s.left-1,s.caps⟩ ⟨pa.1,by simp only;omega⟩ b0 K;rw[hk]at hq p1 h97;clear hk;simp only at hq p1 h97;obtain⟨qa,ql,qc⟩:=p1;simp only at qa ql;have hw:IntKind.i64.wrap (s.left-1)=s.left-1:=i64_in _ ⟨by omega,by omega⟩;have hp5:Pre (5+3*mA1 d) (3*mS1 d) s1:=⟨⟨by omega,by omega⟩,⟨by omega,by omega⟩,qc⟩;subst h;have h97b:=fun K=>f97 l hl uses s1.caps (by omega) s1 ⟨by omega,by omega⟩ b0 K;have hv:=Bo l c s1;have r1:=Ax l s1.caps s1 qc;generalize nx l s1.caps s1=Y at *;obtain⟨x,s2⟩:=Y;simp only at h97b hv r1 |-;have pr1:Pre (mA1 d) (mS1 d) s2:=hp5.step r1 (by omega) (by omega);have h44a:=fun K=>ht s2 b0 K pr1;have r2:=r1.trans (hb s2 pr1);generalize treeF l uses d s2=Y at *;obtain⟨y,s3⟩:=Y;simp only at h44a r2 |-;have h44b:=fun K=>ht s3 b0 K (hp5.step r2 (by omega) (by omega));generalize treeF l uses d s3=Y at *;obtain⟨Y1,Y2⟩:=Y;simp only at h44b |-;have fr:frzArgs pol1 52 0 [.rf 1 1 0 0,I ((d+1:Nat):Int)] (mH b0 l uses s K)=some ([.rf 1 1 0 0,I ((d+1:Nat):Int)],mH b0 l uses s K):=AL _ _ _ rfl;refine AP (pol:=pol1) Tryz.func52 rfl rfl rfl rfl fr ?_;simp +contextual (disch:=omega) only[Tryz.f52,dd52,go_sem,simprocAttr,mu52,↓AD,↓AC,↓AB,↓AA,h97,hw,An,Av,B8,B3,B7,B6,Bk,Bf,Bd,BY,Bc,BZ,Ba,Bb,AM,Ay,AZ,BK,append_nil,h97b,h44a,h44b];repeat' (first|intro _|apply And.intro|(unfold dOk;kernel_rfl)|exact St.beq_refl _|(show altO _ _ _ _=true;kernel_rfl)|(show (_||_)=true;kernel_rfl)|(show (_&&_)=true;kernel_rfl))
 exact CE (by rfl) (by rfl) s _ (ex2 ..) true true 10 [] [y,Y1] 0 0 0 (1+x) false
theorem Pe {l:List Int} (hl:∀ x∈l,In64 x) {uses:Int}{d:Nat} (hd:d<=5) (ht:TreeLaw l uses d) (hb:TreeB l uses d) (s:MS) (b0:MB) (K:List MB) (hp:Pre (mA1 (d+1)) (mS1 (d+1)) s) (k:Int) (s1:MS) (hk:nx l 20 ⟨s.at_,s.left-1,s.caps⟩=(k,s1)) (hn1:¬ s1.left<3) (hn2:¬ (l.length:Int)<s1.at_) (h:12<=k) (n12:¬ (k=12/\0<andI uses 64)) (n13:¬ (k=13/\0<andI uses 64)) (n14:¬ (k=14/\0<andI uses 16)) (n15:¬ (k=15/\0<andI uses 4)) (n16:¬ (k=16/\0<andI uses 8)) (n17:¬ (k=17/\0<andI uses 1/\0<s1.caps)) (n18:¬ (k=18/\0<andI uses 2/\0<s1.caps)) :
  call Pg pol1 52 [.rf 1 1 0 0,I ((d+1:Nat):Int)] (mH b0 l uses s K)=some (reAV (setM l s1).1,mH b0 l uses (setM l s1).2 K):=by
 simp only[mA1,mS1]at hp;have hA:=Bi d;have hS:=Bh d;have hq:=Bo l (n:=20) (by omega) ⟨s.at_,s.left-1,s.caps⟩;have p1:=Ax l 20 ⟨s.at_,s.left-1,s.caps⟩ hp.c;obtain⟨pa,pl,pc⟩:=hp;have h97:=fun K=>f97 l hl uses 20 (by omega) ⟨s.at_,s.left-1,s.caps⟩ ⟨pa.1,by simp only;omega⟩ b0 K;rw[hk]at hq p1 h97;clear hk;simp only at hq p1 h97;obtain⟨qa,ql,qc⟩:=p1;simp only at qa ql;have hw:IntKind.i64.wrap (s.left-1)=s.left-1:=i64_in _ ⟨by omega,by omega⟩;have hp5:Pre (5+3*mA1 d) (3*mS1 d) s1:=⟨⟨by omega,by omega⟩,⟨by omega,by omega⟩,qc⟩;have h98:=fun K=>f98 l hl uses s1 ⟨by omega,by omega⟩ b0 K;generalize setM l s1=Y at *;obtain⟨Y1,Y2⟩:=Y;simp only at h98 |-;have fr:frzArgs pol1 52 0 [.rf 1 1 0 0,I ((d+1:Nat):Int)] (mH b0 l uses s K)=some ([.rf 1 1 0 0,I ((d+1:Nat):Int)],mH b0 l uses s K):=AL _ _ _ rfl;refine AP (pol:=pol1) Tryz.func52 rfl rfl rfl rfl fr ?_;simp +contextual (disch:=omega) only[Tryz.f52,dd52,go_sem,simprocAttr,mu52,↓AD,↓AC,↓AB,↓AA,h97,hw,An,Av,B8,B3,B7,B6,Bk,Bf,Bd,BY,Bc,BZ,Ba,Bb,AM,Ay,AZ,BK,append_nil,h98];repeat' (first|intro _|apply And.intro|(unfold dOk;kernel_rfl)|exact St.beq_refl _|(show altO _ _ _ _=true;kernel_rfl)|(show (_||_)=true;kernel_rfl)|(show (_&&_)=true;kernel_rfl))
 all_goals exact Dn rfl rfl s _ (ex1 ..) (fun H=>Au H (CA _)) (CA _)
theorem O5 {l:List Int} (hl:∀ x∈l,In64 x) {uses:Int}{d:Nat} (hd:d<=5) (ht:TreeLaw l uses d) (hb:TreeB l uses d):TreeLaw l uses (d+1):=by
 intro s b0 K hp;simp only[treeF];generalize hk:nx l 20 ⟨s.at_,s.left-1,s.caps⟩=Y;obtain⟨k,s1⟩:=Y;simp only;have hq:=Bo l (n:=20) (by omega) ⟨s.at_,s.left-1,s.caps⟩;rw[hk]at hq;simp only at hq;unfold treeStep;by_cases hc:s1.left<3∨(l.length:Int)<s1.at_
 ·rw[if_pos hc];exact Sj hl hd s b0 K hp k s1 hk hc
 rw[if_neg hc];have hn1:¬ s1.left<3:=fun h=>hc (.inl h);have hn2:¬ (l.length:Int)<s1.at_:=fun h=>hc (.inr h);by_cases h5:k<5
 ·rw[if_pos h5];exact Q7 hl hd ht hb s b0 K hp k s1 hk hn1 hn2 h5
 rw[if_neg h5];by_cases h8:k<8
 ·rw[if_pos h8];exact Q8 hl hd ht hb s b0 K hp k s1 hk hn1 hn2 (by omega) h8
 rw[if_neg h8];by_cases h12:k<12
 ·rw[if_pos h12];exact Q5 hl hd ht hb s b0 K hp k s1 hk hn1 hn2 (by omega) h12
 rw[if_neg h12];by_cases c1:(k=12∨k=13)/\0<andI uses 64
 ·rw[if_pos c1];rcases c1.1 with e|e
  ·exact N4 hl hd ht hb s b0 K hp k s1 hk hn1 hn2 e c1.2
  ·exact N3 hl hd ht hb s b0 K hp k s1 hk hn1 hn2 e c1.2
 rw[if_neg c1];by_cases c2:k=14/\0<andI uses 16
 ·rw[if_pos c2];exact SD hl hd ht hb s b0 K hp k s1 hk hn1 hn2 c2.1 c2.2
 rw[if_neg c2];by_cases c3:k=15/\0<andI uses 4
 ·rw[if_pos c3];exact Pd hl hd ht hb s b0 K hp k s1 hk hn1 hn2 c3.1 c3.2
 rw[if_neg c3];by_cases c4:k=16/\0<andI uses 8
 ·rw[if_pos c4];exact Ph hl hd ht hb s b0 K hp k s1 hk hn1 hn2 c4.1 c4.2
 rw[if_neg c4];by_cases c5:k=17/\0<andI uses 1/\0<s1.caps
 ·rw[if_pos c5];exact Q6 hl hd ht hb s b0 K hp k s1 hk hn1 hn2 c5.1 c5.2.1 c5.2.2
 rw[if_neg c5];by_cases c6:k=18/\0<andI uses 2/\0<s1.caps
 ·rw[if_pos c6];exact Pf hl hd ht hb s b0 K hp k s1 hk hn1 hn2 c6.1 c6.2.1 c6.2.2
 rw[if_neg c6];exact Pe hl hd ht hb s b0 K hp k s1 hk hn1 hn2 (by omega) (fun h=>c1 ⟨.inl h.1,h.2⟩) (fun h=>c1 ⟨.inr h.1,h.2⟩) c2 c3 c4 c5 c6
theorem Gr {l:List Int} (hl:∀ x∈l,In64 x) (uses:Int):∀ d,d<=6->TreeLaw l uses d/\TreeB l uses d
 | 0,_=>⟨fun s b0 K hp=>by
    simp only[treeF];generalize hk:nx l 20 ⟨s.at_,s.left-1,s.caps⟩=Y;obtain⟨k,s1⟩:=Y;exact Sk hl s b0 K hp k s1 hk,LW⟩
 | d+1,h=>by
   obtain⟨h1,h2⟩:=Gr hl uses d (by omega);exact⟨O5 hl (by omega) h1 h2,LX h2⟩
theorem f11m (l:List Int) (hl:∀ x∈l,In64 x) (uses most:Int) (hmo:0<=most/\most<=1000) (H:List MB) :
  call Pg pol1 24 [.sl false (l.map I),I uses,I most] H=some (patAV ⟨(treeF l uses 5 ⟨0,most,0⟩).1,(treeF l uses 5 ⟨0,most,0⟩).2.caps,false⟩,H):=by
 refine AT Tryz.func24 rfl rfl rfl rfl rfl rfl (fun _=>rfl) (by simp[AV.plain,AV.plainL,AF]) (show AV.plain (patAV _)=true from Az _) ?_ H;have hpre:Pre (mA1 5) (mS1 5) ⟨0,most,0⟩:=by
  have h1:mS1 5=364:=rfl;have h2:mA1 5=1818:=rfl;exact⟨by simp only[h2];omega,by simp only[h1];omega,by simp only[];omega⟩
 have h44:∀ b0,call Pg pol1 52 [.rf 1 1 0 0,I 5] [b0,.row 5 [.agg [.sl false (l.map I),I 0,I uses,I most,I 0]] 0]=some (reAV (treeF l uses 5 ⟨0,most,0⟩).1,mH b0 l uses (treeF l uses 5 ⟨0,most,0⟩).2 []):=fun b0=>(Gr hl uses 5 (by omega)).1 ⟨0,most,0⟩ b0 [] hpre;generalize treeF l uses 5 ⟨0,most,0⟩=Y at *;obtain⟨r,s⟩:=Y;simp only at h44 |-;have htk8:∀ r l,List.take 8 (reC r++l)=reC r:=fun r l=>by
  have:=AM r;rw[List.take_append_of_le_length (by omega)];exact take_of_length_le (by omega)
 have hdr9:∀ r (a b:AV),List.drop 9 (reC r++[a,b])=[b]:=fun r a b=>by
  have:=AM r;rw[show (9:Nat)=8+1 from rfl,<- List.drop_drop,List.drop_append_of_le_length (by omega),BK];rfl
 have ht10:∀ a b:AV,List.take 10 (reC r++[a,b])=reC r++[a,b]:=fun a b=>take_of_length_le (by simp[AM]);simp +contextual (disch:=omega) only[Tryz.f24,dd24,go_sem,simprocAttr,evBin,mu24,↓AD,↓AC,↓AB,↓AA,h44,htk8,hdr9,ht10,AM,Ay,AZ,BK,List.all_append];repeat' (first|intro _|apply And.intro|(unfold dOk;kernel_rfl)|exact St.beq_refl _|(show altO _ _ _ _=true;kernel_rfl)|(show (_||_)=true;kernel_rfl)|(show (_&&_)=true;kernel_rfl))
 exact⟨_,Au _ (Az ⟨r,s.caps,false⟩)⟩
end
section
attribute [local go_sem] evAppend map_append
structure FitsOk (cap:Bool) (re:Re) (caps:Int) (t:List Int):Prop where
 val:validP ⟨re,caps,false⟩=0
 gen:genG cap re=true
 len:lenG re<=727
 wt2:re.wt<=850
 tl:t.length<=12
 txt:∀ x∈t,0<=x/\x<=255
 cost:∀ i,i<=t.length->costR t re i<=3000
theorem FitsOk.wt {cap:Bool}{re:Re}{caps:Int}{t:List Int} (h:FitsOk cap re caps t):re.wt<=1000000:=Nat.le_trans h.wt2 (by decide)
theorem L6 (cap:Bool) {caps:Int} (hc:0<=caps/\caps<=4):FitsOk cap (.mk 0 [] [] 0 0 0 0 false) caps []:=by
 refine⟨?_,by simp[genG,genL],by simp[lenG,lenL],by simp[Re.wt,Re.wtL],by simp,by simp,fun i _=>by simp[costR]⟩;simp[validP,Re.size,Re.sizeL,Re.depth,Re.depthL,wholeG,wholeL,formedG,kidsG,spansG,topI];omega
theorem RA (cap:Bool) (re:Re) (n:Nat) (t:List Int) (at_:Nat) (hw:re.wt<=1000000) (hn:n<=4) (hl:t.length<=12) (ht:∀ x∈t,0<=x/\x<=255) (hg:genG cap re=true) (ha:at_<=t.length) :
  ∃(out:AV) (k e:Int),AV.plain out=true/\(e=0->validP ⟨re,n,false⟩=0/\costR t re at_<=3000)/\∀ H,call Pg pol1 95 [patAV ⟨re,n,false⟩,.sl false (t.map I),I at_,I (-1),I 3000] H=some (.tup [out,I k,I e],H):=by
 by_cases hv:validP ⟨re,n,false⟩=0
 ·obtain⟨hsz,hdp,hc0,hc9,hwg⟩:=CR hv;obtain⟨g1,g2,g3⟩:=I5 cap re hg;obtain⟨out,k,e,h1,h2,h3,h4⟩:=f123 re n t at_ 3000 hw hv (by omega) (by omega) ht (by omega) ⟨⟨hwg,g1⟩,g2,hsz⟩ g3 ha;exact⟨out,k,e,h1,fun he=>⟨hv,by have:=h3 he;omega⟩,h4⟩
 ·exact⟨_,_,_,rfl,fun he=>absurd he hv,Sn re n t at_ 3000 hw hv⟩
abbrev patZ:AV:=.agg [I 0,.sl true [],.sl true [],I 0,I 0,I 0,I 0,.bool false,I 0,.bool false]
theorem Q3:Uses 64:=⟨by decide,by decide,by decide,by decide,by decide⟩
end
section
attribute [local go_sem] evAppend evBin map_append
theorem s121 (x:Int) (hx:0<=x/\x<=255) (k:Nat) (H:List MB) (h:H[k]?=some (.row 1 [I 255] 0)):call Pg pol1 121 [I x,.rf k 1 0 0] H=some (.bool false,H):=by
 refine AP (pol:=pol1) Tryz.func121 rfl rfl rfl rfl (AL _ _ 0 rfl) ?_;have h1:(x<0)=False:=eq_false (by omega);have h2:(255<x)=False:=eq_false (by omega);have hret:retPol pol1 121 H (.bool false) H=some (.bool false,H):=by
  have:=DP (f:=121) (H:=H) (B:=[]) (B':=[]) (a:=.bool false) (r:=.bool false) rfl rfl rfl rfl
  simpa using this
 simp +contextual (disch:=omega) only[Tryz.f121,TF,go_sem,simprocAttr,Sd,↓AD,↓AC,↓AB,↓AA,h,h1,h2];exact hret
theorem s146 (t:List Int) (ht:∀ x∈t,0<=x/\x<=255) (htl:t.length<=1000000) (k:Nat) (H:List MB) (h:H[k]?=some (.row 1 [I 255] 0)):call Pg pol1 146 [.sl false (t.map I),.clo 121 [.rf k 1 0 0]] H=some (I (-1),H):=by
 refine AP (pol:=pol1) Tryz.func146 rfl rfl rfl rfl (AL _ _ 0 rfl) ?_;have hret:retPol pol1 146 H (I (-1)) H=some (I (-1),H):=by
  have:=DP (f:=146) (H:=H) (B:=[]) (B':=[]) (a:=I (-1)) (r:=I (-1)) rfl rfl rfl rfl
  simpa using this
 simp +contextual (disch:=omega) only[Tryz.f146,PG,go_sem,simprocAttr,Of,↓AD,↓AC,↓AB,↓AA];refine Af (M:=⟨some [8,7,1,0],none,[]⟩) (by rfl) t.length (fun i=>(⟨19,[(8,NV i),(7,NV t.length),(1,.clo 121 [.rf k 1 0 0]),(0,.sl false (t.map I))],H⟩:St)) (fun _=>True) ?_ ?_ trivial _ rfl
 ·intro i hi _;obtain⟨x,hx⟩:∃ x,t[i]?=some x:=⟨_,List.getElem?_eq_getElem hi⟩;have hx':(t.map I)[i]?=some (I x):=by simp[hx]
  have hxx:=ht x (List.mem_of_getElem? hx);have h121:=s121 x hxx k H h;have hlt:((i:Int)<((t.length:Nat):Int))=True:=eq_true (by omega);have hw:IntKind.i64.wrap ((i:Int)+1)=((i+1:Nat):Int):=by rw[i64_in]<;>omega
  simp +contextual (disch:=omega) only[Tryz.f146,PG,go_sem,simprocAttr,Of,↓AD,↓AC,↓AB,↓AA,h121,hx',hlt,hw,Ab];rfl
 ·intro _;simp +contextual (disch:=omega) only[Tryz.f146,PG,go_sem,simprocAttr,Of,↓AD,↓AC,↓AB,↓AA];exact hret
theorem s120 (t:List Int) (ht:∀ x∈t,0<=x/\x<=255) (htl:t.length<=1000000) (k:Nat) (H:List MB) (h:H[k]?=some (.row 1 [I 255] 0)):call Pg pol1 120 [.sl false (t.map I),.clo 121 [.rf k 1 0 0]] H=some (.bool false,H):=by
 have h146:=s146 t ht htl k H h;refine AP (pol:=pol1) Tryz.func120 rfl rfl rfl rfl (AL _ _ 0 rfl) ?_;have hret:retPol pol1 120 H (.bool false) H=some (.bool false,H):=by
  have:=DP (f:=120) (H:=H) (B:=[]) (B':=[]) (a:=.bool false) (r:=.bool false) rfl rfl rfl rfl
  simpa using this
 simp +contextual (disch:=omega) only[Tryz.f120,TG,go_sem,simprocAttr,Se,↓AD,↓AC,↓AB,↓AA,h146];exact hret
theorem s98 (r:Re) (n:Int) (t:List Int) (ht:∀ x∈t,0<=x/\x<=255) (htl:t.length<=1000000) (H:List MB):call Pg pol1 98 [patAV ⟨r,n,false⟩,.sl false (t.map I)] H=some (I 0,H):=by
 have hpl:=Az ⟨r,n,false⟩;have h120:=fun b=>s120 t ht htl 1 [b,.row 1 [I 255] 0] rfl;refine AT Tryz.func98 rfl rfl rfl rfl rfl rfl (fun _=>rfl) (by simp only[AV.plain,AV.plainL,AF,hpl];rfl) rfl ?_ H;have hrl:=AM r;have hd:(patC ⟨r,n,false⟩)[9]?=some (.bool false):=by
  show (reC r++[I n,.bool false])[9]?=_;rw[List.getElem?_append_right (by omega),hrl];rfl
 have hl10:(patC ⟨r,n,false⟩).length=10:=by simp[hrl]
 have hall:(patC ⟨r,n,false⟩).all AV.ok=true:=by simp[Ay,AV.ok]
 show W _ _ _ _ _ _ ⟨_,initT 0 [.agg (patC ⟨r,n,false⟩),.sl false (t.map I)] [],_⟩ _ _;generalize patC ⟨r,n,false⟩=pc at *;simp +contextual (disch:=omega) only[Tryz.f98,dd98,go_sem,simprocAttr,mu98,↓AD,↓AC,↓AB,↓AA,hd,hl10,hall,h120];exact⟨_,rfl⟩
theorem s68 (r:Re) (n:Int) (hv:validP ⟨r,n,false⟩=0) (hw:r.wt<=1000000) (t:List Int) (ht:∀ x∈t,0<=x/\x<=255) (htl:t.length<=65536) (F:Nat) (hF:F<=1048576) (H:List MB) :
  call Pg pol1 68 [.sl false (t.map I),NV F,.sl false [patAV ⟨r,n,false⟩]] H=some (I 0,H):=by
 have hpl:=Az ⟨r,n,false⟩;have h98:=s98 r n t ht (by omega);have h53:=f48 ⟨r,n,false⟩ hw;rw[hv]at h53;have hrl:=AM r;have hl10:(patC ⟨r,n,false⟩).length=10:=by simp[hrl]
 have hall:(patC ⟨r,n,false⟩).all AV.ok=true:=by simp[Ay,AV.ok]
 have htk:(patC ⟨r,n,false⟩).take 10=patC ⟨r,n,false⟩:=take_of_length_le (by omega);refine AT Tryz.func68 rfl rfl rfl rfl rfl rfl (fun _=>rfl) (by simp only[AV.plain,AV.plainL,AF,hpl];rfl) rfl ?_ H;simp only[patAV]at h98 h53 |-;generalize patC ⟨r,n,false⟩=pc at *;simp +contextual (disch:=omega) only[Tryz.f68,dd68,go_sem,simprocAttr,mu68,↓AD,↓AC,↓AB,↓AA,hl10,hall,htk,h53];have kp:∀ i:Nat,AV.underL 0 [NV i,I 1,.sl false [.agg pc],.sl false [.agg pc],NV F,.sl false (t.map I)]=true:=fun i=>by
  have h1:=AE 0 _ hpl;have h2:=AE 0 _ (AF t);simp[AV.underL,AV.under,h1,h2]
 have kp2:∀ i:Nat,AV.underL 0 [NV i,I 1,.sl false [.agg pc],NV F,.sl false (t.map I)]=true:=fun i=>by
  have h1:=AE 0 _ hpl;have h2:=AE 0 _ (AF t);simp[AV.underL,AV.under,h1,h2]
 refine Af (M:=⟨some [15,14,13,2,1,0],some 0,[]⟩) (by rfl) 1 (fun i=>(⟨47,[(15,NV i),(14,I 1),(13,.sl false [.agg pc]),(2,.sl false [.agg pc]),(1,NV F),(0,.sl false (t.map I))],[]⟩:St)) (fun _=>True) ?_ ?_ trivial _ (Ac rfl rfl (kp 0) rfl rfl)
 ·intro i hi _;obtain rfl:i=0:=by omega
  simp +contextual (disch:=omega) only[Tryz.f68,dd68,go_sem,simprocAttr,mu68,↓AD,↓AC,↓AB,↓AA,hl10,hall,htk,h53];exact Ac rfl rfl (kp 1) rfl rfl
 ·intro _;have htl':((65536:Int)<((t.length:Nat):Int))=False:=eq_false (by omega);simp +contextual (disch:=omega) only[Tryz.f68,dd68,go_sem,simprocAttr,mu68,↓AD,↓AC,↓AB,↓AA,hl10,hall,htk,h53,htl'];refine Af (M:=⟨some [30,29,28,1,0],some 0,[]⟩) (by rfl) 1 (fun i=>(⟨47,[(30,NV i),(29,I 1),(28,.sl false [.agg pc]),(1,NV F),(0,.sl false (t.map I))],[]⟩:St)) (fun _=>True) ?_ ?_ trivial _ (Ac rfl rfl (kp2 0) rfl rfl)
  ·intro i hi _;obtain rfl:i=0:=by omega
   simp +contextual (disch:=omega) only[Tryz.f68,dd68,go_sem,simprocAttr,mu68,↓AD,↓AC,↓AB,↓AA,hl10,hall,htk,h98];exact Ac rfl rfl (kp2 1) rfl rfl
  ·intro _;have hF1:((F:Int)<0)=False:=eq_false (by omega);have hF2:((1099511627776:Int)<(F:Int))=False:=eq_false (by omega);simp +contextual (disch:=omega) only[Tryz.f68,dd68,go_sem,simprocAttr,mu68,↓AD,↓AC,↓AB,↓AA,hl10,hall,htk,hF1,hF2];exact⟨_,rfl⟩
end
section
attribute [local go_sem] evAppend evBin map_append
def allA (at_ n:Nat) (s:Nat):Option Pt->AV
 | some p=>.tup [.sl false [matAV at_ p.i (pairsN p.c n)],NV s,I 0]
 | none=>.tup [.sl false [],NV s,I 0]
theorem NM (at_ n s:Nat) (q:Option Pt):AV.plain (allA at_ n s q)=true:=by
 cases q with
 | none=>rfl
 | some p=>
   have:=C9 at_ p.i (pairsN p.c n);simp[allA,AV.plain,AV.plainL,this]
theorem QK {x x':AV}{G G':List MB} (a b:Int) (h:fz x G=some (x',G')):fz (.tup [x,I a,I b]) G=some (.tup [x',I a,I b],G'):=by
 unfold fz at *;simp only[fzA,fzL,h]
theorem s33 (r:Re) (n:Nat) (hn:n<=9) (hv:validP ⟨r,n,false⟩=0) (hw:r.wt<=1000000) (t:List Int) (ht:∀ x∈t,0<=x/\x<=255) (htl:t.length<=65536) (at_:Nat) (hat:at_<=t.length) (F:Nat) (hF:F<=1048576)
  (m:Nat) (q:Option Pt) (hq:∀ p,q=some p->p.c.length=18) (O':List Pt) (s':Nat) (h:runM t F m none [⟨at_,cap0,[.re r]⟩] 0=some (q,O',s')) (H:List MB) :
  call Pg pol1 33 [patAV ⟨r,n,false⟩,.sl false (t.map I),NV at_,I 1,NV F] H=some (allA at_ n s' q,H):=by
 have hpc:=Az ⟨r,n,false⟩;have h68:∀ H,call Pg pol1 68 [.sl false (t.map I),NV F,.sl true [patAV ⟨r,n,false⟩]] H=some (I 0,H):=fun H=>by
  rw[Dk (l:=[.sl false (t.map I),NV F,.sl false [patAV ⟨r,n,false⟩]]) (H1:=H) rfl ?_ ?_]
  ·exact s68 r n hv hw t ht htl F hF H
  ·have h1:fz (.sl false (t.map I)) H=some (.sl false (t.map I),H):=Au H (by simp only[AV.plain,AF];rfl);have h2:fz (.sl true [patAV ⟨r,n,false⟩]) H=some (.sl false [patAV ⟨r,n,false⟩],H):=by
    unfold fz;have:=Be (fzJ 6) [patAV ⟨r,n,false⟩] H (by simp only[AV.plainL,AV.plain,hpc];rfl);simp only[fzA,this]
   have h3:fz (NV F) H=some (NV F,H):=rfl;have hby:∀ i,pol1.byref 68 i=false:=fun i=>rfl;simp only[frzArgs,hby,Bool.false_eq_true,if_false,h1,h2,h3]
  ·simp only[AV.plainL,AV.plain,AF,hpc];rfl
 have hrl:=AM r;have hl10:(patC ⟨r,n,false⟩).length=10:=by simp[hrl]
 have hall:(patC ⟨r,n,false⟩).all AV.ok=true:=by simp[Ay,AV.ok]
 have htk:(patC ⟨r,n,false⟩).take 10=patC ⟨r,n,false⟩:=take_of_length_le (by omega);have hfz:fz (.rf 0 1 0 0) [MB.row 10 [patAV ⟨r,n,false⟩] 0]=some (.pt (patC ⟨r,n,false⟩),[MB.row 10 [patAV ⟨r,n,false⟩] 1]):=DZ (G:=[MB.row 10 [patAV ⟨r,n,false⟩] 0]) (id:=0) (k:=10) (z:=0) (x:=patAV ⟨r,n,false⟩) rfl hpc;have hU:∀ k,([MB.row 3 [] 0]:List MB).length+4<=k->(MB.row 10 [patAV ⟨r,n,false⟩] 1::[MB.row 3 [] 0]).all (MB.under k)=true:=fun k hk=>by
  have:=AE k _ hpc;simp only[all_cons,all_nil,MB.under,AV.underL,AV.under,this];rfl
 have h69:=s69 (MB.row 10 [patAV ⟨r,n,false⟩] 1) (patC ⟨r,n,false⟩) t F;have h70:=s70 (MB.row 10 [patAV ⟨r,n,false⟩] 1) r n false t at_ F;obtain⟨J',hJ',h71⟩:=s71 (MB.row 10 [patAV ⟨r,n,false⟩] 1) [MB.row 3 [] 0] hU r n hn false t (by omega) at_ F hF m [⟨at_,cap0,[.re r]⟩] 0 [] (fun m hm=>rfl) (fun x hx=>by simp at hx;subst hx;exact⟨hat,rfl⟩) (by simp) (by omega) q hq O' s' h;refine AT Tryz.func33 rfl rfl rfl rfl rfl rfl (fun _=>rfl) (by simp only[AV.plain,AV.plainL,AF,hpc];rfl) (NM _ _ _ _) ?_ H;have hat1:((at_:Int)<0)=False:=eq_false (by omega);have hat2:(((t.length:Nat):Int)<(at_:Int))=False:=eq_false (by omega);simp only[patAV,hpS]at *;have hpd:patC ⟨r,n,false⟩=patC ⟨r,n,false⟩:=rfl;generalize patC ⟨r,n,false⟩=pc at *;have h70':call Pg pol1 70 [.rf 2 1 0 0,NV at_] (hp4 (MB.row 10 [.agg pc] 1) [] (mcA pc t 0 0 0 0 F) [])=some (.tup [],[MB.row 10 [.agg pc] 1,.mp (.int .i64) opsA,.row 8 [mcA pc t 1 1 at_ 0 F] 0,.row 3 [ptA ⟨at_,cap0,[.re r]⟩] 0]):=h70
 have h71':call Pg pol1 71 [.rf 2 1 0 0] [MB.row 10 [.agg pc] 1,.mp (.int .i64) opsA,.row 8 [mcA pc t 1 1 at_ 0 F] 0,.row 3 [ptA ⟨at_,cap0,[.re r]⟩] 0,.row 3 [] 0] =
  some (nextA at_ n q,[MB.row 10 [.agg pc] 1,.mp (.int .i64) opsA,.row 8 [mcA pc t (O'.length+J'.length) O'.length at_ s' F] 0,.row 3 (O'.reverse.map ptA++J') 0,.row 3 [] 0]):=h71
 have uE0:AV.underL 5 [ptA ⟨at_,cap0,[.re r]⟩]=true:=Ck 5 (by omega) [⟨at_,cap0,[.re r]⟩] [] (fun m hm=>rfl);have uE1:AV.underL 5 (O'.reverse.map ptA++J')=true:=Ck 5 (by omega) O' J' hJ';have uM:∀ L k (s:Nat),AV.underL 5 [mcA pc t L k at_ s F]=true:=fun L k s=>Cn hpc t L k at_ s F 5 (by omega);have uO:MB.under 5 (.mp (.int .i64) opsA)=true:=rfl;have uP:MB.under 5 (.row 10 [.agg pc] 1)=true:=by
  have:=AE 5 _ hpc;simp only[MB.under,AV.underL,AV.under,this];rfl
 have v0:MB.under 5 (.row 3 [ptA ⟨at_,cap0,[.re r]⟩] 0)=true:=uE0;have v1:∀ L k (s:Nat),MB.under 5 (.row 8 [mcA pc t L k at_ s F] 0)=true:=uM;have vE:MB.under 5 (.row 3 (O'.reverse.map ptA++J') 0)=true:=uE1;have vn:MB.under 5 (.row 3 [] 0)=true:=rfl;clear h70 h71 hU;generalize opsA=OP at *;generalize ptA ⟨at_,cap0,[.re r]⟩=P0 at *;generalize O'.reverse.map ptA++J' = E1 at *;generalize O'.length+J'.length=L1 at *;generalize O'.length=n1 at *;simp +contextual (disch:=omega) only[Tryz.f33,dd33,go_sem,simprocAttr,mu33,↓AD,↓AC,↓AB,↓AA,hl10,hall,htk,hfz,h68,h69,h70',hat1,hat2];cases q with
 | none=>
   refine Af (M:=⟨some [15,14,3],some 5,[]⟩) (by rfl) 0 (fun i=>(⟨66,[(15,.ms 4 3 0 0 0),(14,.rf 2 1 0 0),(3,I 1)],[MB.row 10 [.agg pc] 1,.mp (.int .i64) OP,.row 8 [mcA pc t 1 1 at_ 0 F] 0,.row 3 [P0] 0,.row 3 [] 0]⟩:St)) (fun _=>True) ?_ ?_ trivial _ ?_
   ·intro i hi _;omega
   ·intro _;simp only[nextA]at h71';simp +contextual (disch:=omega) only[Tryz.f33,dd33,go_sem,simprocAttr,mu33,↓AD,↓AC,↓AB,↓AA,hl10,hall,htk,h71'];repeat' (first|intro _|apply And.intro|(unfold dOk;kernel_rfl)|exact St.beq_refl _|(show altO _ _ _ _=true;kernel_rfl)|(show (_||_)=true;kernel_rfl)|(show (_&&_)=true;kernel_rfl))
    exact⟨_,rfl⟩
   ·exact A0 rfl rfl rfl rfl (by rfl) (by simp only[all_cons,all_nil,v0,v1,vn,uO,uP];rfl)
 | some p=>
   simp only[nextA]at h71';have hpm:=C9 at_ p.i (pairsN p.c n);have hmc:matAV at_ p.i (pairsN p.c n)=.agg [I at_,NV p.i,.sl false ((pairsN p.c n).map spanAV)]:=rfl;have um:AV.underL 5 [matAV at_ p.i (pairsN p.c n)]=true:=by simp only[AV.underL,AJ 5 _ hpm];rfl
   refine Cw (σ:=Bool) (M:=⟨some [15,14,3],some 5,[]⟩) (by rfl) (fun b=>(⟨66,[(15,.ms 4 3 (if b then 1 else 0) 0 (if b then 1 else 0)),(14,.rf 2 1 0 0),(3,I 1)],
    [MB.row 10 [.agg pc] 1,.mp (.int .i64) OP,.row 8 [if b then mcA pc t L1 n1 at_ s' F else mcA pc t 1 1 at_ 0 F] 0,.row 3 (if b then E1 else [P0]) 0,.row 3 (if b then [matAV at_ p.i (pairsN p.c n)] else []) 0]⟩:St)) (fun _=>True) (fun b=>if b then 0 else 1) false ?_ trivial _ ?_
   ·intro b _;cases b with
    | false=>
      simp only[Bool.false_eq_true,if_false];rw[hmc]at h71';have hrm:roomFor (0+1) 40=true:=by decide
      simp +contextual (disch:=omega) only[Tryz.f33,dd33,go_sem,simprocAttr,mu33,↓AD,↓AC,↓AB,↓AA,hl10,hall,htk,h71'];have um2:MB.under 5 (.row 3 [matAV at_ p.i (pairsN p.c n)] 0)=true:=um;exact⟨true,by simp,A0 rfl rfl rfl rfl (by rfl) (by simp only[all_cons,all_nil,if_true,v1,vE,um2,uO,uP];rfl)⟩
    | true=>
      simp only[if_true];simp +contextual (disch:=omega) only[Tryz.f33,dd33,go_sem,simprocAttr,mu33,↓AD,↓AC,↓AB,↓AA,hl10,hall,htk];refine⟨by unfold dOk;kernel_rfl,?_⟩;have h1:=fun G (hG:getRow G 4=some (3,[matAV at_ p.i (pairsN p.c n)],0))=>Dq hG (tot:=1) rfl (by simp only[AV.plainL,hpm];rfl);have h2:=h1 [MB.row 10 [.agg pc] 1,.mp (.int .i64) OP,.row 8 [mcA pc t L1 n1 at_ s' F] 0,.row 3 E1 0,.row 3 [matAV at_ p.i (pairsN p.c n)] 0] rfl;exact⟨_,QK _ _ h2⟩
   ·exact A0 rfl rfl rfl rfl (by rfl) (by simp only[all_cons,all_nil,v0,v1,vn,uO,uP,Bool.false_eq_true,if_false];rfl)
end
end Go.Ev
