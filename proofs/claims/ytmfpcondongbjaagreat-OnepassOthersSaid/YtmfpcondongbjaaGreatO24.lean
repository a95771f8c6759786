/- Functions of the program, each with what it computes; no further conditions. -/
import Derived.Test.YtmfpcondongbjaaGreatO07
import Derived.Test.YtmfpcondongbjaaGreatO23
import Derived.Test.YtmfpcondongbjaaGreatO16
import Derived.Test.YtmfpcondongbjaaGreatO20
import Derived.Test.YtmfpcondongbjaaGreatO15
import Derived.Test.YtmfpcondongbjaaGreatO13
import Derived.Test.YtmfpcondongbjaaGreatO08
import Derived.Test.YtmfpcondongbjaaGreatO19
set_option linter.unusedVariables false
set_option linter.unusedSimpArgs false
namespace Go.Ev
attribute [local go_sem] evBuild AV.cells splice List.length_append List.map_append tySzE List.head?_drop Nat.mul_one zAP zAU zAN zAQ zAR zAX
section
attribute [local go_sem] evAppend
open Go.Proofs Go.RowKit Go.IntWalk
set_option maxRecDepth 100000
set_option maxHeartbeats 8000000
theorem zBL (b0 x x' a a' b:MB) (K:List MB):sameAt (K.length+1+1+1) (b0::x::(K++[a]++[b])) (b0::x'::(K++[a']++[b]))=true:=by
 have h:∀ x a,(b0::x::(K++[a]++[b]))[K.length+1+1+1]?=some b:=fun x a=>by
  rw[List.getElem?_cons_succ,List.getElem?_cons_succ]
  exact zBu K a b
 unfold sameAt
 rw[h,h]
 exact MB.beq_refl b
section
variable {l:List Int} (hl:∀ x∈l,In64 x) {uses:Int} {d:Nat} (hd:d≤5) (ht:TreeLaw l uses d) (hb:TreeB l uses d)
include hb
theorem zLq {s:MS} (hp:Pre (5+3 * mA1 d) (3 * mS1 d) s):Post (5+3 * mA1 d) (3 * mS1 d) s (repF l uses (treeF l uses d) s).2:=by
 have hA:=zBT d
 have hS:=zBS d
 unfold repF
 simp only
 have p1:=zAk l 12 s hp.c
 have p2:=p1.trans (zAk l 2 _ p1.c)
 obtain⟨s3,e3,p3⟩:∃ s3,(if 0 < andI uses 8 then(if(nx l 4 (nx l 2 (nx l 12 s).2).2).1=0 then 2 else(nx l 2 (nx l 12 s).2).1,(nx l 4 (nx l 2 (nx l 12 s).2).2).2) else nx l 2 (nx l 12 s).2).2=s3∧Post (1+1+1) (0+0+0) s s3:=by
  split
  ·exact⟨_,rfl,p2.trans (zAk l 4 _ p2.c)⟩
  ·exact⟨_,rfl,p2.up (by omega) (by omega)⟩
 rw[e3]
 have q:=hb s3 (hp.step p3 (by omega) (by omega))
 have r:=p3.trans q
 split
 ·exact(r.trans (zEs l _ r.c)).up (by omega) (by omega)
 ·exact r.up (by omega) (by omega)
theorem zMc {s:MS} (hp:Pre (5+3 * mA1 d) (3 * mS1 d) s):Post (5+3 * mA1 d) (3 * mS1 d) s (capF l (treeF l uses d) s).2:=by
 have hA:=zBT d
 have hS:=zBS d
 have hc:=hp.c
 unfold capF
 simp only
 obtain⟨b,s2,e2,p2,c2,hbb⟩:∃(b:Bool) (s2:MS),(if 4 < s.caps+1 then(true,s) else if 0 < s.caps then(decide ((nx l 9 s).1=0),(nx l 9 s).2) else(false,s))=(b,s2)∧Post 1 0 s s2∧s2.caps=s.caps∧(b=false→¬ 4 < s.caps+1):=by
  have p0:Post 1 0 s s:=⟨by omega,by omega,hc⟩
  split
  ·exact⟨_,_,rfl,p0,rfl,fun h=>by cases h⟩
  ·rename_i h4
   split
   ·exact⟨_,_,rfl,zAk l 9 s hc,rfl,fun _=>h4⟩
   ·exact⟨_,_,rfl,p0,rfl,fun _=>h4⟩
 rw[e2]
 simp only
 have hm1:0 < max 1 s2.caps:=by omega
 have hv:=zBo l hm1 s2
 have p3:=p2.trans (zAk l (max 1 s2.caps) s2 p2.c)
 have c3:(nx l (max 1 s2.caps) s2).2.caps=s2.caps:=rfl
 obtain⟨m,s4,e4,p4,c4,hm⟩:∃(m:Int) (s4:MS),(if b=true then(1+(nx l (max 1 s2.caps) s2).1,(nx l (max 1 s2.caps) s2).2) else(s.caps+1,s2))=(m,s4)∧Post (1+1) (0+0) s s4∧s4.caps=s.caps∧(0≤m∧m≤4):=by
  cases b with
  | true=>exact⟨_,_,if_pos rfl,p3,by rw[c3,c2],by omega⟩
  | false=>
    have:=hbb rfl
    exact⟨_,_,if_neg Bool.false_ne_true,p2.up (by omega) (by omega),c2,by omega⟩
 rw[e4]
 simp only
 have p5:Post 2 0 s ⟨s4.at_,s4.left,max s4.caps m⟩:=⟨by have:=p4.a;simp only;omega,by have:=p4.l;simp only;omega,by simp only;omega⟩
 have q:=hb _ (hp.step p5 (by omega) (by omega))
 exact(p5.trans q).up (by omega) (by omega)
theorem zLd {s:MS} (k:Int) (hp:Pre (8+3 * mA1 d) (3 * mS1 d) s):Post (8+3 * mA1 d) (3 * mS1 d) s (treeStep l uses (treeF l uses d) k s).2:=by
 have hA:=zBT d
 have hS:=zBS d
 have hp5:Pre (5+3 * mA1 d) (3 * mS1 d) s:=⟨⟨hp.a.1,by have:=hp.a;omega⟩,hp.l,hp.c⟩
 have hlf:Post 1 0 s (leafF l k s).2:=by
  unfold leafF
  split
  ·exact⟨by simp only;omega,by simp only;omega,hp.c⟩
  ·exact zEs l s hp.c
 have n6:=zAk l 6 s hp.c
 have n3:=zAk l 3 s hp.c
 have n32:=n3.trans (zAk l 2 _ n3.c)
 have nc:=zAk l s.caps s hp.c
 have hA2:Pre (mA1 d) (mS1 d) s:=hp.step (x:=0) (y:=0) ⟨by omega,by omega,hp.c⟩ (by omega) (by omega)
 unfold treeStep
 split
 ·exact hlf.up (by omega) (by omega)
 split
 ·exact(zHA hb hp5).up (by omega) (by omega)
 split
 ·exact(zHA hb hp5).up (by omega) (by omega)
 split
 ·exact(zLq hb hp5).up (by omega) (by omega)
 split
 ·exact(zMc hb hp5).up (by omega) (by omega)
 split
 ·exact n6.up (by omega) (by omega)
 split
 ·exact(n32.trans (hb _ (hp.step n32 (by omega) (by omega)))).up (by omega) (by omega)
 split
 ·exact(hb _ hA2).up (by omega) (by omega)
 split
 ·exact nc.up (by omega) (by omega)
 split
 ·have y:=nc.trans (hb _ (hp.step nc (by omega) (by omega)))
  exact(y.trans (hb _ (hp.step y (by omega) (by omega)))).up (by omega) (by omega)
 ·exact(zEs l s hp.c).up (by omega) (by omega)
theorem zK7:TreeB l uses (d+1):=by
 intro s hp
 have hA:=zBT d
 have hS:=zBS d
 simp only[mA1,mS1]at hp ⊢
 have hc:=hp.c
 have p0:Post 0 1 s ⟨s.at_,s.left - 1,s.caps⟩:=⟨by simp only;omega,by simp only;omega,hc⟩
 have p1:=p0.trans (zAk l 20 _ p0.c)
 exact(p1.trans (zLd hb _ (hp.step p1 (by omega) (by omega)))).up (by omega) (by omega)
end
theorem zK6 {l:List Int} {uses:Int}:TreeB l uses 0:=by
 intro s hp
 have hc:=hp.c
 have p0:Post 0 1 s ⟨s.at_,s.left - 1,s.caps⟩:=⟨by simp only;omega,by simp only;omega,hc⟩
 have p1:=p0.trans (zAk l 20 _ p0.c)
 simp only[treeF,mA1,mS1]
 unfold leafF
 split
 ·exact p1.up (by omega) (by omega)
 ·exact(p1.trans (zEs l _ p1.c)).up (by omega) (by omega)
theorem leaf0 {l:List Int} (hl:∀ x∈l,In64 x) {uses:Int} (s:MS) (b0:MB) (K:List MB) (hp:Pre (mA1 0) (mS1 0) s) (k:Int) (s1:MS) (hk:nx l 20 ⟨s.at_,s.left - 1,s.caps⟩=(k,s1)) :
  call Tryz.prog pol1 52 [.rf 1 1 0 0,I ((0:Nat):Int)] (mH b0 l uses s K)=some (reAV (leafF l k s1).1,mH b0 l uses (leafF l k s1).2 K):=by
 simp only[mA1,mS1]at hp
 have hq:=zBo l (n:=20) (by omega) ⟨s.at_,s.left - 1,s.caps⟩
 have p1:=zAk l 20 ⟨s.at_,s.left - 1,s.caps⟩ hp.c
 obtain⟨pa,pl,pc⟩:=hp
 have h97:=fun K=>f97 l hl uses 20 (by omega) ⟨s.at_,s.left - 1,s.caps⟩ ⟨pa.1,by simp only;omega⟩ b0 K
 rw[hk]at hq p1 h97
 clear hk
 simp only at hq p1 h97
 obtain⟨qa,ql,qc⟩:=p1
 simp only at qa ql
 have hw:IntKind.i64.wrap (s.left - 1)=s.left - 1:=i64_in _ ⟨by omega,by omega⟩
 have h98:=fun K=>f98 l hl uses s1 ⟨by omega,by omega⟩ b0 K
 generalize hY:setM l s1=Y at *
 have fr:frzArgs pol1 52 0 [.rf 1 1 0 0,I ((0:Nat):Int)] (mH b0 l uses s K)=some ([.rf 1 1 0 0,I ((0:Nat):Int)],mH b0 l uses s K):=zAO _ _ _ rfl
 by_cases hk0:k=0
 ·subst hk0
  rw[show leafF l 0 s1=(.mk 0 [] [] 0 0 0 0 false,s1) from if_pos rfl]
  refine zAY (pol:=pol1) Tryz.func52 rfl rfl rfl rfl fr ?_
  all_goals simp +contextual (disch:=omega) only[Tryz.f52,dd52,go_sem,simprocAttr,mu52,↓zAD,↓zAC,↓zAB,↓zAA,h97,hw,zAc,zAg,zB5,zBu,zB4,zB3,zBL,zBF,zA4,zAz,zA3,zA0,zA1,zA2,zAM,zAs,zAT,zAt,List.append_nil]
  all_goals repeat' (first|intro _|apply And.intro|(unfold dOk;kernel_rfl)|exact St.beq_refl _|(show altO _ _ _ _=true;kernel_rfl)|(show (_ || _)=true;kernel_rfl)|(show (_ && _)=true;kernel_rfl))
  all_goals exact zCI (by rfl) (by rfl) s s1 (ex1 ..) true true 0 [] [] 0 0 0 0 false
 ·rw[show leafF l k s1=Y from(if_neg hk0).trans hY]
  obtain⟨Y1,Y2⟩:=Y
  refine zAY (pol:=pol1) Tryz.func52 rfl rfl rfl rfl fr ?_
  all_goals simp +contextual (disch:=omega) only[Tryz.f52,dd52,go_sem,simprocAttr,mu52,↓zAD,↓zAC,↓zAB,↓zAA,h97,hw,zAc,zAg,zB5,zBu,zB4,zB3,zBL,zBF,zA4,zAz,zA3,zA0,zA1,zA2,zAM,zAs,zAT,zAt,List.append_nil,h98]
  all_goals repeat' (first|intro _|apply And.intro|(unfold dOk;kernel_rfl)|exact St.beq_refl _|(show altO _ _ _ _=true;kernel_rfl)|(show (_ || _)=true;kernel_rfl)|(show (_ && _)=true;kernel_rfl))
  all_goals exact zEb rfl rfl s _ (ex1 ..) (fun H=>zAf H (zB2 _)) (zB2 _)
theorem leafS {l:List Int} (hl:∀ x∈l,In64 x) {uses:Int} {d:Nat} (hd:d≤5) (s:MS) (b0:MB) (K:List MB) (hp:Pre (mA1 (d+1)) (mS1 (d+1)) s) (k:Int) (s1:MS) (hk:nx l 20 ⟨s.at_,s.left - 1,s.caps⟩=(k,s1)) (hc:s1.left < 3∨(l.length:Int) < s1.at_) :
  call Tryz.prog pol1 52 [.rf 1 1 0 0,I (((d+1):Nat):Int)] (mH b0 l uses s K)=some (reAV (leafF l k s1).1,mH b0 l uses (leafF l k s1).2 K):=by
 simp only[mA1,mS1]at hp
 have hA:=zBT d
 have hS:=zBS d
 have hq:=zBo l (n:=20) (by omega) ⟨s.at_,s.left - 1,s.caps⟩
 have p1:=zAk l 20 ⟨s.at_,s.left - 1,s.caps⟩ hp.c
 obtain⟨pa,pl,pc⟩:=hp
 have h97:=fun K=>f97 l hl uses 20 (by omega) ⟨s.at_,s.left - 1,s.caps⟩ ⟨pa.1,by simp only;omega⟩ b0 K
 rw[hk]at hq p1 h97
 clear hk
 simp only at hq p1 h97
 obtain⟨qa,ql,qc⟩:=p1
 simp only at qa ql
 have hw:IntKind.i64.wrap (s.left - 1)=s.left - 1:=i64_in _ ⟨by omega,by omega⟩
 have hc':s1.left < 3∨(¬ s1.left < 3∧(l.length:Int) < s1.at_):=by omega
 have h98:=fun K=>f98 l hl uses s1 ⟨by omega,by omega⟩ b0 K
 generalize hY:setM l s1=Y at *
 have fr:frzArgs pol1 52 0 [.rf 1 1 0 0,I (((d+1):Nat):Int)] (mH b0 l uses s K)=some ([.rf 1 1 0 0,I (((d+1):Nat):Int)],mH b0 l uses s K):=zAO _ _ _ rfl
 by_cases hk0:k=0
 ·subst hk0
  rw[show leafF l 0 s1=(.mk 0 [] [] 0 0 0 0 false,s1) from if_pos rfl]
  refine zAY (pol:=pol1) Tryz.func52 rfl rfl rfl rfl fr ?_
  rcases hc' with hc1|⟨hc1,hc2⟩
  all_goals simp +contextual (disch:=omega) only[Tryz.f52,dd52,go_sem,simprocAttr,mu52,↓zAD,↓zAC,↓zAB,↓zAA,h97,hw,zAc,zAg,zB5,zBu,zB4,zB3,zBL,zBF,zA4,zAz,zA3,zA0,zA1,zA2,zAM,zAs,zAT,zAt,List.append_nil]
  all_goals repeat' (first|intro _|apply And.intro|(unfold dOk;kernel_rfl)|exact St.beq_refl _|(show altO _ _ _ _=true;kernel_rfl)|(show (_ || _)=true;kernel_rfl)|(show (_ && _)=true;kernel_rfl))
  all_goals exact zCI (by rfl) (by rfl) s s1 (ex1 ..) true true 0 [] [] 0 0 0 0 false
 ·rw[show leafF l k s1=Y from(if_neg hk0).trans hY]
  obtain⟨Y1,Y2⟩:=Y
  refine zAY (pol:=pol1) Tryz.func52 rfl rfl rfl rfl fr ?_
  rcases hc' with hc1|⟨hc1,hc2⟩
  all_goals simp +contextual (disch:=omega) only[Tryz.f52,dd52,go_sem,simprocAttr,mu52,↓zAD,↓zAC,↓zAB,↓zAA,h97,hw,zAc,zAg,zB5,zBu,zB4,zB3,zBL,zBF,zA4,zAz,zA3,zA0,zA1,zA2,zAM,zAs,zAT,zAt,List.append_nil,h98]
  all_goals repeat' (first|intro _|apply And.intro|(unfold dOk;kernel_rfl)|exact St.beq_refl _|(show altO _ _ _ _=true;kernel_rfl)|(show (_ || _)=true;kernel_rfl)|(show (_ && _)=true;kernel_rfl))
  all_goals exact zEb rfl rfl s _ (ex1 ..) (fun H=>zAf H (zB2 _)) (zB2 _)
theorem zOX {l:List Int} (hl:∀ x∈l,In64 x) {uses:Int} {d:Nat} (hd:d≤5) (ht:TreeLaw l uses d) (hb:TreeB l uses d) (s:MS) (b0:MB) (K:List MB) (hp:Pre (mA1 (d+1)) (mS1 (d+1)) s) (k:Int) (s1:MS) (hk:nx l 20 ⟨s.at_,s.left - 1,s.caps⟩=(k,s1)) (hn1:¬ s1.left < 3) (hn2:¬ (l.length:Int) < s1.at_) (h:k < 5) :
  call Tryz.prog pol1 52 [.rf 1 1 0 0,I ((d+1:Nat):Int)] (mH b0 l uses s K)=some (reAV ((.mk 2 [] (kidsF l (treeF l uses d) s1).1 0 0 0 0 false,(kidsF l (treeF l uses d) s1).2):Re×MS).1,mH b0 l uses ((.mk 2 [] (kidsF l (treeF l uses d) s1).1 0 0 0 0 false,(kidsF l (treeF l uses d) s1).2):Re×MS).2 K):=by
 simp only[mA1,mS1]at hp
 have hA:=zBT d
 have hS:=zBS d
 have hq:=zBo l (n:=20) (by omega) ⟨s.at_,s.left - 1,s.caps⟩
 have p1:=zAk l 20 ⟨s.at_,s.left - 1,s.caps⟩ hp.c
 obtain⟨pa,pl,pc⟩:=hp
 have h97:=fun K=>f97 l hl uses 20 (by omega) ⟨s.at_,s.left - 1,s.caps⟩ ⟨pa.1,by simp only;omega⟩ b0 K
 rw[hk]at hq p1 h97
 clear hk
 simp only at hq p1 h97
 obtain⟨qa,ql,qc⟩:=p1
 simp only at qa ql
 have hw:IntKind.i64.wrap (s.left - 1)=s.left - 1:=i64_in _ ⟨by omega,by omega⟩
 have hp5:Pre (5+3 * mA1 d) (3 * mS1 d) s1:=⟨⟨by omega,by omega⟩,⟨by omega,by omega⟩,qc⟩
 have h99:=fun K=>f99 hl hd ht hb s1 hp5 b0 K
 generalize kidsF l (treeF l uses d) s1=Y at *
 obtain⟨Y1,Y2⟩:=Y
 simp only at h99 ⊢
 have fr:frzArgs pol1 52 0 [.rf 1 1 0 0,I ((d+1:Nat):Int)] (mH b0 l uses s K)=some ([.rf 1 1 0 0,I ((d+1:Nat):Int)],mH b0 l uses s K):=zAO _ _ _ rfl
 refine zAY (pol:=pol1) Tryz.func52 rfl rfl rfl rfl fr ?_
 simp +contextual (disch:=omega) only[Tryz.f52,dd52,go_sem,simprocAttr,mu52,↓zAD,↓zAC,↓zAB,↓zAA,h97,hw,zAc,zAg,zB5,zBu,zB4,zB3,zBL,zBF,zA4,zAz,zA3,zA0,zA1,zA2,zAM,zAs,zAT,zAt,List.append_nil,h99]
 repeat' (first|intro _|apply And.intro|(unfold dOk;kernel_rfl)|exact St.beq_refl _|(show altO _ _ _ _=true;kernel_rfl)|(show (_ || _)=true;kernel_rfl)|(show (_ && _)=true;kernel_rfl))
 exact zCI (by rfl) (by rfl) s _ (ex1 ..) true false 2 [] Y1 0 0 0 0 false
theorem zOY {l:List Int} (hl:∀ x∈l,In64 x) {uses:Int} {d:Nat} (hd:d≤5) (ht:TreeLaw l uses d) (hb:TreeB l uses d) (s:MS) (b0:MB) (K:List MB) (hp:Pre (mA1 (d+1)) (mS1 (d+1)) s) (k:Int) (s1:MS) (hk:nx l 20 ⟨s.at_,s.left - 1,s.caps⟩=(k,s1)) (hn1:¬ s1.left < 3) (hn2:¬ (l.length:Int) < s1.at_) (h:5≤k) (h2:k < 8) :
  call Tryz.prog pol1 52 [.rf 1 1 0 0,I ((d+1:Nat):Int)] (mH b0 l uses s K)=some (reAV ((.mk 3 [] (kidsF l (treeF l uses d) s1).1 0 0 0 0 false,(kidsF l (treeF l uses d) s1).2):Re×MS).1,mH b0 l uses ((.mk 3 [] (kidsF l (treeF l uses d) s1).1 0 0 0 0 false,(kidsF l (treeF l uses d) s1).2):Re×MS).2 K):=by
 simp only[mA1,mS1]at hp
 have hA:=zBT d
 have hS:=zBS d
 have hq:=zBo l (n:=20) (by omega) ⟨s.at_,s.left - 1,s.caps⟩
 have p1:=zAk l 20 ⟨s.at_,s.left - 1,s.caps⟩ hp.c
 obtain⟨pa,pl,pc⟩:=hp
 have h97:=fun K=>f97 l hl uses 20 (by omega) ⟨s.at_,s.left - 1,s.caps⟩ ⟨pa.1,by simp only;omega⟩ b0 K
 rw[hk]at hq p1 h97
 clear hk
 simp only at hq p1 h97
 obtain⟨qa,ql,qc⟩:=p1
 simp only at qa ql
 have hw:IntKind.i64.wrap (s.left - 1)=s.left - 1:=i64_in _ ⟨by omega,by omega⟩
 have hp5:Pre (5+3 * mA1 d) (3 * mS1 d) s1:=⟨⟨by omega,by omega⟩,⟨by omega,by omega⟩,qc⟩
 have h99:=fun K=>f99 hl hd ht hb s1 hp5 b0 K
 generalize kidsF l (treeF l uses d) s1=Y at *
 obtain⟨Y1,Y2⟩:=Y
 simp only at h99 ⊢
 have fr:frzArgs pol1 52 0 [.rf 1 1 0 0,I ((d+1:Nat):Int)] (mH b0 l uses s K)=some ([.rf 1 1 0 0,I ((d+1:Nat):Int)],mH b0 l uses s K):=zAO _ _ _ rfl
 refine zAY (pol:=pol1) Tryz.func52 rfl rfl rfl rfl fr ?_
 simp +contextual (disch:=omega) only[Tryz.f52,dd52,go_sem,simprocAttr,mu52,↓zAD,↓zAC,↓zAB,↓zAA,h97,hw,zAc,zAg,zB5,zBu,zB4,zB3,zBL,zBF,zA4,zAz,zA3,zA0,zA1,zA2,zAM,zAs,zAT,zAt,List.append_nil,h99]
 repeat' (first|intro _|apply And.intro|(unfold dOk;kernel_rfl)|exact St.beq_refl _|(show altO _ _ _ _=true;kernel_rfl)|(show (_ || _)=true;kernel_rfl)|(show (_ && _)=true;kernel_rfl))
 exact zCI (by rfl) (by rfl) s _ (ex1 ..) true false 3 [] Y1 0 0 0 0 false
theorem zOV {l:List Int} (hl:∀ x∈l,In64 x) {uses:Int} {d:Nat} (hd:d≤5) (ht:TreeLaw l uses d) (hb:TreeB l uses d) (s:MS) (b0:MB) (K:List MB) (hp:Pre (mA1 (d+1)) (mS1 (d+1)) s) (k:Int) (s1:MS) (hk:nx l 20 ⟨s.at_,s.left - 1,s.caps⟩=(k,s1)) (hn1:¬ s1.left < 3) (hn2:¬ (l.length:Int) < s1.at_) (h:8≤k) (h2:k < 12) :
  call Tryz.prog pol1 52 [.rf 1 1 0 0,I ((d+1:Nat):Int)] (mH b0 l uses s K)=some (reAV (repF l uses (treeF l uses d) s1).1,mH b0 l uses (repF l uses (treeF l uses d) s1).2 K):=by
 simp only[mA1,mS1]at hp
 have hA:=zBT d
 have hS:=zBS d
 have hq:=zBo l (n:=20) (by omega) ⟨s.at_,s.left - 1,s.caps⟩
 have p1:=zAk l 20 ⟨s.at_,s.left - 1,s.caps⟩ hp.c
 obtain⟨pa,pl,pc⟩:=hp
 have h97:=fun K=>f97 l hl uses 20 (by omega) ⟨s.at_,s.left - 1,s.caps⟩ ⟨pa.1,by simp only;omega⟩ b0 K
 rw[hk]at hq p1 h97
 clear hk
 simp only at hq p1 h97
 obtain⟨qa,ql,qc⟩:=p1
 simp only at qa ql
 have hw:IntKind.i64.wrap (s.left - 1)=s.left - 1:=i64_in _ ⟨by omega,by omega⟩
 have hp5:Pre (5+3 * mA1 d) (3 * mS1 d) s1:=⟨⟨by omega,by omega⟩,⟨by omega,by omega⟩,qc⟩
 have h100:=fun K=>f100 hl hd ht hb s1 hp5 b0 K
 generalize repF l uses (treeF l uses d) s1=Y at *
 obtain⟨Y1,Y2⟩:=Y
 simp only at h100 ⊢
 have fr:frzArgs pol1 52 0 [.rf 1 1 0 0,I ((d+1:Nat):Int)] (mH b0 l uses s K)=some ([.rf 1 1 0 0,I ((d+1:Nat):Int)],mH b0 l uses s K):=zAO _ _ _ rfl
 refine zAY (pol:=pol1) Tryz.func52 rfl rfl rfl rfl fr ?_
 simp +contextual (disch:=omega) only[Tryz.f52,dd52,go_sem,simprocAttr,mu52,↓zAD,↓zAC,↓zAB,↓zAA,h97,hw,zAc,zAg,zB5,zBu,zB4,zB3,zBL,zBF,zA4,zAz,zA3,zA0,zA1,zA2,zAM,zAs,zAT,zAt,List.append_nil,h100]
 repeat' (first|intro _|apply And.intro|(unfold dOk;kernel_rfl)|exact St.beq_refl _|(show altO _ _ _ _=true;kernel_rfl)|(show (_ || _)=true;kernel_rfl)|(show (_ && _)=true;kernel_rfl))
 exact zEb rfl rfl s _ (ex1 ..) (fun H=>zAf H (zB2 _)) (zB2 _)
theorem zMq {l:List Int} (hl:∀ x∈l,In64 x) {uses:Int} {d:Nat} (hd:d≤5) (ht:TreeLaw l uses d) (hb:TreeB l uses d) (s:MS) (b0:MB) (K:List MB) (hp:Pre (mA1 (d+1)) (mS1 (d+1)) s) (k:Int) (s1:MS) (hk:nx l 20 ⟨s.at_,s.left - 1,s.caps⟩=(k,s1)) (hn1:¬ s1.left < 3) (hn2:¬ (l.length:Int) < s1.at_) (h:k=12) (u:0 < andI uses 64) :
  call Tryz.prog pol1 52 [.rf 1 1 0 0,I ((d+1:Nat):Int)] (mH b0 l uses s K)=some (reAV (capF l (treeF l uses d) s1).1,mH b0 l uses (capF l (treeF l uses d) s1).2 K):=by
 simp only[mA1,mS1]at hp
 have hA:=zBT d
 have hS:=zBS d
 have hq:=zBo l (n:=20) (by omega) ⟨s.at_,s.left - 1,s.caps⟩
 have p1:=zAk l 20 ⟨s.at_,s.left - 1,s.caps⟩ hp.c
 obtain⟨pa,pl,pc⟩:=hp
 have h97:=fun K=>f97 l hl uses 20 (by omega) ⟨s.at_,s.left - 1,s.caps⟩ ⟨pa.1,by simp only;omega⟩ b0 K
 rw[hk]at hq p1 h97
 clear hk
 simp only at hq p1 h97
 obtain⟨qa,ql,qc⟩:=p1
 simp only at qa ql
 have hw:IntKind.i64.wrap (s.left - 1)=s.left - 1:=i64_in _ ⟨by omega,by omega⟩
 have hp5:Pre (5+3 * mA1 d) (3 * mS1 d) s1:=⟨⟨by omega,by omega⟩,⟨by omega,by omega⟩,qc⟩
 subst h
 have h101:=fun K=>f101 hl hd ht hb s1 hp5 b0 K
 generalize capF l (treeF l uses d) s1=Y at *
 obtain⟨Y1,Y2⟩:=Y
 simp only at h101 ⊢
 have fr:frzArgs pol1 52 0 [.rf 1 1 0 0,I ((d+1:Nat):Int)] (mH b0 l uses s K)=some ([.rf 1 1 0 0,I ((d+1:Nat):Int)],mH b0 l uses s K):=zAO _ _ _ rfl
 refine zAY (pol:=pol1) Tryz.func52 rfl rfl rfl rfl fr ?_
 simp +contextual (disch:=omega) only[Tryz.f52,dd52,go_sem,simprocAttr,mu52,↓zAD,↓zAC,↓zAB,↓zAA,h97,hw,zAc,zAg,zB5,zBu,zB4,zB3,zBL,zBF,zA4,zAz,zA3,zA0,zA1,zA2,zAM,zAs,zAT,zAt,List.append_nil,h101]
 repeat' (first|intro _|apply And.intro|(unfold dOk;kernel_rfl)|exact St.beq_refl _|(show altO _ _ _ _=true;kernel_rfl)|(show (_ || _)=true;kernel_rfl)|(show (_ && _)=true;kernel_rfl))
 exact zEb rfl rfl s _ (ex1 ..) (fun H=>zAf H (zB2 _)) (zB2 _)
theorem zMp {l:List Int} (hl:∀ x∈l,In64 x) {uses:Int} {d:Nat} (hd:d≤5) (ht:TreeLaw l uses d) (hb:TreeB l uses d) (s:MS) (b0:MB) (K:List MB) (hp:Pre (mA1 (d+1)) (mS1 (d+1)) s) (k:Int) (s1:MS) (hk:nx l 20 ⟨s.at_,s.left - 1,s.caps⟩=(k,s1)) (hn1:¬ s1.left < 3) (hn2:¬ (l.length:Int) < s1.at_) (h:k=13) (u:0 < andI uses 64) :
  call Tryz.prog pol1 52 [.rf 1 1 0 0,I ((d+1:Nat):Int)] (mH b0 l uses s K)=some (reAV (capF l (treeF l uses d) s1).1,mH b0 l uses (capF l (treeF l uses d) s1).2 K):=by
 simp only[mA1,mS1]at hp
 have hA:=zBT d
 have hS:=zBS d
 have hq:=zBo l (n:=20) (by omega) ⟨s.at_,s.left - 1,s.caps⟩
 have p1:=zAk l 20 ⟨s.at_,s.left - 1,s.caps⟩ hp.c
 obtain⟨pa,pl,pc⟩:=hp
 have h97:=fun K=>f97 l hl uses 20 (by omega) ⟨s.at_,s.left - 1,s.caps⟩ ⟨pa.1,by simp only;omega⟩ b0 K
 rw[hk]at hq p1 h97
 clear hk
 simp only at hq p1 h97
 obtain⟨qa,ql,qc⟩:=p1
 simp only at qa ql
 have hw:IntKind.i64.wrap (s.left - 1)=s.left - 1:=i64_in _ ⟨by omega,by omega⟩
 have hp5:Pre (5+3 * mA1 d) (3 * mS1 d) s1:=⟨⟨by omega,by omega⟩,⟨by omega,by omega⟩,qc⟩
 subst h
 have h101:=fun K=>f101 hl hd ht hb s1 hp5 b0 K
 generalize capF l (treeF l uses d) s1=Y at *
 obtain⟨Y1,Y2⟩:=Y
 simp only at h101 ⊢
 have fr:frzArgs pol1 52 0 [.rf 1 1 0 0,I ((d+1:Nat):Int)] (mH b0 l uses s K)=some ([.rf 1 1 0 0,I ((d+1:Nat):Int)],mH b0 l uses s K):=zAO _ _ _ rfl
 refine zAY (pol:=pol1) Tryz.func52 rfl rfl rfl rfl fr ?_
 simp +contextual (disch:=omega) only[Tryz.f52,dd52,go_sem,simprocAttr,mu52,↓zAD,↓zAC,↓zAB,↓zAA,h97,hw,zAc,zAg,zB5,zBu,zB4,zB3,zBL,zBF,zA4,zAz,zA3,zA0,zA1,zA2,zAM,zAs,zAT,zAt,List.append_nil,h101]
 repeat' (first|intro _|apply And.intro|(unfold dOk;kernel_rfl)|exact St.beq_refl _|(show altO _ _ _ _=true;kernel_rfl)|(show (_ || _)=true;kernel_rfl)|(show (_ && _)=true;kernel_rfl))
 exact zEb rfl rfl s _ (ex1 ..) (fun H=>zAf H (zB2 _)) (zB2 _)
theorem t44as {l:List Int} (hl:∀ x∈l,In64 x) {uses:Int} {d:Nat} (hd:d≤5) (ht:TreeLaw l uses d) (hb:TreeB l uses d) (s:MS) (b0:MB) (K:List MB) (hp:Pre (mA1 (d+1)) (mS1 (d+1)) s) (k:Int) (s1:MS) (hk:nx l 20 ⟨s.at_,s.left - 1,s.caps⟩=(k,s1)) (hn1:¬ s1.left < 3) (hn2:¬ (l.length:Int) < s1.at_) (h:k=14) (u:0 < andI uses 16) :
  call Tryz.prog pol1 52 [.rf 1 1 0 0,I ((d+1:Nat):Int)] (mH b0 l uses s K)=some (reAV ((.mk 11 [] [] 0 0 0 (nx l 6 s1).1 false,(nx l 6 s1).2):Re×MS).1,mH b0 l uses ((.mk 11 [] [] 0 0 0 (nx l 6 s1).1 false,(nx l 6 s1).2):Re×MS).2 K):=by
 simp only[mA1,mS1]at hp
 have hA:=zBT d
 have hS:=zBS d
 have hq:=zBo l (n:=20) (by omega) ⟨s.at_,s.left - 1,s.caps⟩
 have p1:=zAk l 20 ⟨s.at_,s.left - 1,s.caps⟩ hp.c
 obtain⟨pa,pl,pc⟩:=hp
 have h97:=fun K=>f97 l hl uses 20 (by omega) ⟨s.at_,s.left - 1,s.caps⟩ ⟨pa.1,by simp only;omega⟩ b0 K
 rw[hk]at hq p1 h97
 clear hk
 simp only at hq p1 h97
 obtain⟨qa,ql,qc⟩:=p1
 simp only at qa ql
 have hw:IntKind.i64.wrap (s.left - 1)=s.left - 1:=i64_in _ ⟨by omega,by omega⟩
 have hp5:Pre (5+3 * mA1 d) (3 * mS1 d) s1:=⟨⟨by omega,by omega⟩,⟨by omega,by omega⟩,qc⟩
 subst h
 have h97b:=fun K=>f97 l hl uses 6 (by omega) s1 ⟨by omega,by omega⟩ b0 K
 generalize nx l 6 s1=Y at *
 obtain⟨Y1,Y2⟩:=Y
 simp only at h97b ⊢
 have fr:frzArgs pol1 52 0 [.rf 1 1 0 0,I ((d+1:Nat):Int)] (mH b0 l uses s K)=some ([.rf 1 1 0 0,I ((d+1:Nat):Int)],mH b0 l uses s K):=zAO _ _ _ rfl
 refine zAY (pol:=pol1) Tryz.func52 rfl rfl rfl rfl fr ?_
 simp +contextual (disch:=omega) only[Tryz.f52,dd52,go_sem,simprocAttr,mu52,↓zAD,↓zAC,↓zAB,↓zAA,h97,hw,zAc,zAg,zB5,zBu,zB4,zB3,zBL,zBF,zA4,zAz,zA3,zA0,zA1,zA2,zAM,zAs,zAT,zAt,List.append_nil,h97b]
 repeat' (first|intro _|apply And.intro|(unfold dOk;kernel_rfl)|exact St.beq_refl _|(show altO _ _ _ _=true;kernel_rfl)|(show (_ || _)=true;kernel_rfl)|(show (_ && _)=true;kernel_rfl))
 exact zCI (by rfl) (by rfl) s _ (ex1 ..) true true 11 [] [] 0 0 0 Y1 false
theorem zNf {l:List Int} (hl:∀ x∈l,In64 x) {uses:Int} {d:Nat} (hd:d≤5) (ht:TreeLaw l uses d) (hb:TreeB l uses d) (s:MS) (b0:MB) (K:List MB) (hp:Pre (mA1 (d+1)) (mS1 (d+1)) s) (k:Int) (s1:MS) (hk:nx l 20 ⟨s.at_,s.left - 1,s.caps⟩=(k,s1)) (hn1:¬ s1.left < 3) (hn2:¬ (l.length:Int) < s1.at_) (h:k=15) (u:0 < andI uses 4) :
  call Tryz.prog pol1 52 [.rf 1 1 0 0,I ((d+1:Nat):Int)] (mH b0 l uses s K)=some (reAV ((.mk (7+(nx l 2 (nx l 3 s1).2).1) [] [(treeF l uses d (nx l 2 (nx l 3 s1).2).2).1] 0 0 0 0 ((nx l 3 s1).1 == 0),(treeF l uses d (nx l 2 (nx l 3 s1).2).2).2):Re×MS).1,mH b0 l uses ((.mk (7+(nx l 2 (nx l 3 s1).2).1) [] [(treeF l uses d (nx l 2 (nx l 3 s1).2).2).1] 0 0 0 0 ((nx l 3 s1).1 == 0),(treeF l uses d (nx l 2 (nx l 3 s1).2).2).2):Re×MS).2 K):=by
 simp only[mA1,mS1]at hp
 have hA:=zBT d
 have hS:=zBS d
 have hq:=zBo l (n:=20) (by omega) ⟨s.at_,s.left - 1,s.caps⟩
 have p1:=zAk l 20 ⟨s.at_,s.left - 1,s.caps⟩ hp.c
 obtain⟨pa,pl,pc⟩:=hp
 have h97:=fun K=>f97 l hl uses 20 (by omega) ⟨s.at_,s.left - 1,s.caps⟩ ⟨pa.1,by simp only;omega⟩ b0 K
 rw[hk]at hq p1 h97
 clear hk
 simp only at hq p1 h97
 obtain⟨qa,ql,qc⟩:=p1
 simp only at qa ql
 have hw:IntKind.i64.wrap (s.left - 1)=s.left - 1:=i64_in _ ⟨by omega,by omega⟩
 have hp5:Pre (5+3 * mA1 d) (3 * mS1 d) s1:=⟨⟨by omega,by omega⟩,⟨by omega,by omega⟩,qc⟩
 subst h
 have h97b:=fun K=>f97 l hl uses 3 (by omega) s1 ⟨by omega,by omega⟩ b0 K
 have r1:=zAk l 3 s1 qc
 generalize nx l 3 s1=Y at *
 obtain⟨x,s2⟩:=Y
 simp only at h97b r1 ⊢
 have h97c:=fun K=>f97 l hl uses 2 (by omega) s2 ⟨by have:=r1.a;omega,by have:=r1.a;omega⟩ b0 K
 have hv:=zBo l (n:=2) (by omega) s2
 have r2:=r1.trans (zAk l 2 s2 r1.c)
 generalize nx l 2 s2=Y at *
 obtain⟨y,s3⟩:=Y
 simp only at h97c hv r2 ⊢
 have h44:=fun K=>ht s3 b0 K (hp5.step r2 (by omega) (by omega))
 generalize treeF l uses d s3=Y at *
 obtain⟨Y1,Y2⟩:=Y
 simp only at h44 ⊢
 have fr:frzArgs pol1 52 0 [.rf 1 1 0 0,I ((d+1:Nat):Int)] (mH b0 l uses s K)=some ([.rf 1 1 0 0,I ((d+1:Nat):Int)],mH b0 l uses s K):=zAO _ _ _ rfl
 refine zAY (pol:=pol1) Tryz.func52 rfl rfl rfl rfl fr ?_
 simp +contextual (disch:=omega) only[Tryz.f52,dd52,go_sem,simprocAttr,mu52,↓zAD,↓zAC,↓zAB,↓zAA,h97,hw,zAc,zAg,zB5,zBu,zB4,zB3,zBL,zBF,zA4,zAz,zA3,zA0,zA1,zA2,zAM,zAs,zAT,zAt,List.append_nil,h97b,h97c,h44]
 repeat' (first|intro _|apply And.intro|(unfold dOk;kernel_rfl)|exact St.beq_refl _|(show altO _ _ _ _=true;kernel_rfl)|(show (_ || _)=true;kernel_rfl)|(show (_ && _)=true;kernel_rfl))
 exact zCI (by rfl) (by rfl) s _ (ex1 ..) true true (7+y) [] [Y1] 0 0 0 0 (x == 0)
theorem zNi {l:List Int} (hl:∀ x∈l,In64 x) {uses:Int} {d:Nat} (hd:d≤5) (ht:TreeLaw l uses d) (hb:TreeB l uses d) (s:MS) (b0:MB) (K:List MB) (hp:Pre (mA1 (d+1)) (mS1 (d+1)) s) (k:Int) (s1:MS) (hk:nx l 20 ⟨s.at_,s.left - 1,s.caps⟩=(k,s1)) (hn1:¬ s1.left < 3) (hn2:¬ (l.length:Int) < s1.at_) (h:k=16) (u:0 < andI uses 8) :
  call Tryz.prog pol1 52 [.rf 1 1 0 0,I ((d+1:Nat):Int)] (mH b0 l uses s K)=some (reAV ((.mk 9 [] [(treeF l uses d s1).1] 0 0 0 0 false,(treeF l uses d s1).2):Re×MS).1,mH b0 l uses ((.mk 9 [] [(treeF l uses d s1).1] 0 0 0 0 false,(treeF l uses d s1).2):Re×MS).2 K):=by
 simp only[mA1,mS1]at hp
 have hA:=zBT d
 have hS:=zBS d
 have hq:=zBo l (n:=20) (by omega) ⟨s.at_,s.left - 1,s.caps⟩
 have p1:=zAk l 20 ⟨s.at_,s.left - 1,s.caps⟩ hp.c
 obtain⟨pa,pl,pc⟩:=hp
 have h97:=fun K=>f97 l hl uses 20 (by omega) ⟨s.at_,s.left - 1,s.caps⟩ ⟨pa.1,by simp only;omega⟩ b0 K
 rw[hk]at hq p1 h97
 clear hk
 simp only at hq p1 h97
 obtain⟨qa,ql,qc⟩:=p1
 simp only at qa ql
 have hw:IntKind.i64.wrap (s.left - 1)=s.left - 1:=i64_in _ ⟨by omega,by omega⟩
 have hp5:Pre (5+3 * mA1 d) (3 * mS1 d) s1:=⟨⟨by omega,by omega⟩,⟨by omega,by omega⟩,qc⟩
 subst h
 have h44:=fun K=>ht s1 b0 K ⟨⟨by omega,by omega⟩,⟨by omega,by omega⟩,qc⟩
 generalize treeF l uses d s1=Y at *
 obtain⟨Y1,Y2⟩:=Y
 simp only at h44 ⊢
 have fr:frzArgs pol1 52 0 [.rf 1 1 0 0,I ((d+1:Nat):Int)] (mH b0 l uses s K)=some ([.rf 1 1 0 0,I ((d+1:Nat):Int)],mH b0 l uses s K):=zAO _ _ _ rfl
 refine zAY (pol:=pol1) Tryz.func52 rfl rfl rfl rfl fr ?_
 simp +contextual (disch:=omega) only[Tryz.f52,dd52,go_sem,simprocAttr,mu52,↓zAD,↓zAC,↓zAB,↓zAA,h97,hw,zAc,zAg,zB5,zBu,zB4,zB3,zBL,zBF,zA4,zAz,zA3,zA0,zA1,zA2,zAM,zAs,zAT,zAt,List.append_nil,h44]
 repeat' (first|intro _|apply And.intro|(unfold dOk;kernel_rfl)|exact St.beq_refl _|(show altO _ _ _ _=true;kernel_rfl)|(show (_ || _)=true;kernel_rfl)|(show (_ && _)=true;kernel_rfl))
 exact zCI (by rfl) (by rfl) s _ (ex1 ..) true true 9 [] [Y1] 0 0 0 0 false
theorem zOW {l:List Int} (hl:∀ x∈l,In64 x) {uses:Int} {d:Nat} (hd:d≤5) (ht:TreeLaw l uses d) (hb:TreeB l uses d) (s:MS) (b0:MB) (K:List MB) (hp:Pre (mA1 (d+1)) (mS1 (d+1)) s) (k:Int) (s1:MS) (hk:nx l 20 ⟨s.at_,s.left - 1,s.caps⟩=(k,s1)) (hn1:¬ s1.left < 3) (hn2:¬ (l.length:Int) < s1.at_) (h:k=17) (u:0 < andI uses 1) (c:0 < s1.caps) :
  call Tryz.prog pol1 52 [.rf 1 1 0 0,I ((d+1:Nat):Int)] (mH b0 l uses s K)=some (reAV ((.mk 6 [] [] 0 0 0 (1+(nx l s1.caps s1).1) false,(nx l s1.caps s1).2):Re×MS).1,mH b0 l uses ((.mk 6 [] [] 0 0 0 (1+(nx l s1.caps s1).1) false,(nx l s1.caps s1).2):Re×MS).2 K):=by
 simp only[mA1,mS1]at hp
 have hA:=zBT d
 have hS:=zBS d
 have hq:=zBo l (n:=20) (by omega) ⟨s.at_,s.left - 1,s.caps⟩
 have p1:=zAk l 20 ⟨s.at_,s.left - 1,s.caps⟩ hp.c
 obtain⟨pa,pl,pc⟩:=hp
 have h97:=fun K=>f97 l hl uses 20 (by omega) ⟨s.at_,s.left - 1,s.caps⟩ ⟨pa.1,by simp only;omega⟩ b0 K
 rw[hk]at hq p1 h97
 clear hk
 simp only at hq p1 h97
 obtain⟨qa,ql,qc⟩:=p1
 simp only at qa ql
 have hw:IntKind.i64.wrap (s.left - 1)=s.left - 1:=i64_in _ ⟨by omega,by omega⟩
 have hp5:Pre (5+3 * mA1 d) (3 * mS1 d) s1:=⟨⟨by omega,by omega⟩,⟨by omega,by omega⟩,qc⟩
 subst h
 have h97b:=fun K=>f97 l hl uses s1.caps (by omega) s1 ⟨by omega,by omega⟩ b0 K
 have hv:=zBo l c s1
 generalize nx l s1.caps s1=Y at *
 obtain⟨Y1,Y2⟩:=Y
 simp only at h97b hv ⊢
 have fr:frzArgs pol1 52 0 [.rf 1 1 0 0,I ((d+1:Nat):Int)] (mH b0 l uses s K)=some ([.rf 1 1 0 0,I ((d+1:Nat):Int)],mH b0 l uses s K):=zAO _ _ _ rfl
 refine zAY (pol:=pol1) Tryz.func52 rfl rfl rfl rfl fr ?_
 simp +contextual (disch:=omega) only[Tryz.f52,dd52,go_sem,simprocAttr,mu52,↓zAD,↓zAC,↓zAB,↓zAA,h97,hw,zAc,zAg,zB5,zBu,zB4,zB3,zBL,zBF,zA4,zAz,zA3,zA0,zA1,zA2,zAM,zAs,zAT,zAt,List.append_nil,h97b]
 repeat' (first|intro _|apply And.intro|(unfold dOk;kernel_rfl)|exact St.beq_refl _|(show altO _ _ _ _=true;kernel_rfl)|(show (_ || _)=true;kernel_rfl)|(show (_ && _)=true;kernel_rfl))
 exact zCI (by rfl) (by rfl) s _ (ex1 ..) true true 6 [] [] 0 0 0 (1+Y1) false
theorem zNh {l:List Int} (hl:∀ x∈l,In64 x) {uses:Int} {d:Nat} (hd:d≤5) (ht:TreeLaw l uses d) (hb:TreeB l uses d) (s:MS) (b0:MB) (K:List MB) (hp:Pre (mA1 (d+1)) (mS1 (d+1)) s) (k:Int) (s1:MS) (hk:nx l 20 ⟨s.at_,s.left - 1,s.caps⟩=(k,s1)) (hn1:¬ s1.left < 3) (hn2:¬ (l.length:Int) < s1.at_) (h:k=18) (u:0 < andI uses 2) (c:0 < s1.caps) :
  call Tryz.prog pol1 52 [.rf 1 1 0 0,I ((d+1:Nat):Int)] (mH b0 l uses s K)=some (reAV ((.mk 10 [] [(treeF l uses d (nx l s1.caps s1).2).1,(treeF l uses d (treeF l uses d (nx l s1.caps s1).2).2).1] 0 0 0 (1+(nx l s1.caps s1).1) false,(treeF l uses d (treeF l uses d (nx l s1.caps s1).2).2).2):Re×MS).1,mH b0 l uses ((.mk 10 [] [(treeF l uses d (nx l s1.caps s1).2).1,(treeF l uses d (treeF l uses d (nx l s1.caps s1).2).2).1] 0 0 0 (1+(nx l s1.caps s1).1) false,(treeF l uses d (treeF l uses d (nx l s1.caps s1).2).2).2):Re×MS).2 K):=by
 simp only[mA1,mS1]at hp
 have hA:=zBT d
 have hS:=zBS d
 have hq:=zBo l (n:=20) (by omega) ⟨s.at_,s.left - 1,s.caps⟩
 have p1:=zAk l 20 ⟨s.at_,s.left - 1,s.caps⟩ hp.c
 obtain⟨pa,pl,pc⟩:=hp
 have h97:=fun K=>f97 l hl uses 20 (by omega) ⟨s.at_,s.left - 1,s.caps⟩ ⟨pa.1,by simp only;omega⟩ b0 K
 rw[hk]at hq p1 h97
 clear hk
 simp only at hq p1 h97
 obtain⟨qa,ql,qc⟩:=p1
 simp only at qa ql
 have hw:IntKind.i64.wrap (s.left - 1)=s.left - 1:=i64_in _ ⟨by omega,by omega⟩
 have hp5:Pre (5+3 * mA1 d) (3 * mS1 d) s1:=⟨⟨by omega,by omega⟩,⟨by omega,by omega⟩,qc⟩
 subst h
 have h97b:=fun K=>f97 l hl uses s1.caps (by omega) s1 ⟨by omega,by omega⟩ b0 K
 have hv:=zBo l c s1
 have r1:=zAk l s1.caps s1 qc
 generalize nx l s1.caps s1=Y at *
 obtain⟨x,s2⟩:=Y
 simp only at h97b hv r1 ⊢
 have pr1:Pre (mA1 d) (mS1 d) s2:=hp5.step r1 (by omega) (by omega)
 have h44a:=fun K=>ht s2 b0 K pr1
 have r2:=r1.trans (hb s2 pr1)
 generalize treeF l uses d s2=Y at *
 obtain⟨y,s3⟩:=Y
 simp only at h44a r2 ⊢
 have h44b:=fun K=>ht s3 b0 K (hp5.step r2 (by omega) (by omega))
 generalize treeF l uses d s3=Y at *
 obtain⟨Y1,Y2⟩:=Y
 simp only at h44b ⊢
 have fr:frzArgs pol1 52 0 [.rf 1 1 0 0,I ((d+1:Nat):Int)] (mH b0 l uses s K)=some ([.rf 1 1 0 0,I ((d+1:Nat):Int)],mH b0 l uses s K):=zAO _ _ _ rfl
 refine zAY (pol:=pol1) Tryz.func52 rfl rfl rfl rfl fr ?_
 simp +contextual (disch:=omega) only[Tryz.f52,dd52,go_sem,simprocAttr,mu52,↓zAD,↓zAC,↓zAB,↓zAA,h97,hw,zAc,zAg,zB5,zBu,zB4,zB3,zBL,zBF,zA4,zAz,zA3,zA0,zA1,zA2,zAM,zAs,zAT,zAt,List.append_nil,h97b,h44a,h44b]
 repeat' (first|intro _|apply And.intro|(unfold dOk;kernel_rfl)|exact St.beq_refl _|(show altO _ _ _ _=true;kernel_rfl)|(show (_ || _)=true;kernel_rfl)|(show (_ && _)=true;kernel_rfl))
 exact zCI (by rfl) (by rfl) s _ (ex2 ..) true true 10 [] [y,Y1] 0 0 0 (1+x) false
theorem zNg {l:List Int} (hl:∀ x∈l,In64 x) {uses:Int} {d:Nat} (hd:d≤5) (ht:TreeLaw l uses d) (hb:TreeB l uses d) (s:MS) (b0:MB) (K:List MB) (hp:Pre (mA1 (d+1)) (mS1 (d+1)) s) (k:Int) (s1:MS) (hk:nx l 20 ⟨s.at_,s.left - 1,s.caps⟩=(k,s1)) (hn1:¬ s1.left < 3) (hn2:¬ (l.length:Int) < s1.at_) (h:12≤k) (n12:¬ (k=12∧0 < andI uses 64)) (n13:¬ (k=13∧0 < andI uses 64)) (n14:¬ (k=14∧0 < andI uses 16)) (n15:¬ (k=15∧0 < andI uses 4)) (n16:¬ (k=16∧0 < andI uses 8)) (n17:¬ (k=17∧0 < andI uses 1∧0 < s1.caps)) (n18:¬ (k=18∧0 < andI uses 2∧0 < s1.caps)) :
  call Tryz.prog pol1 52 [.rf 1 1 0 0,I ((d+1:Nat):Int)] (mH b0 l uses s K)=some (reAV (setM l s1).1,mH b0 l uses (setM l s1).2 K):=by
 simp only[mA1,mS1]at hp
 have hA:=zBT d
 have hS:=zBS d
 have hq:=zBo l (n:=20) (by omega) ⟨s.at_,s.left - 1,s.caps⟩
 have p1:=zAk l 20 ⟨s.at_,s.left - 1,s.caps⟩ hp.c
 obtain⟨pa,pl,pc⟩:=hp
 have h97:=fun K=>f97 l hl uses 20 (by omega) ⟨s.at_,s.left - 1,s.caps⟩ ⟨pa.1,by simp only;omega⟩ b0 K
 rw[hk]at hq p1 h97
 clear hk
 simp only at hq p1 h97
 obtain⟨qa,ql,qc⟩:=p1
 simp only at qa ql
 have hw:IntKind.i64.wrap (s.left - 1)=s.left - 1:=i64_in _ ⟨by omega,by omega⟩
 have hp5:Pre (5+3 * mA1 d) (3 * mS1 d) s1:=⟨⟨by omega,by omega⟩,⟨by omega,by omega⟩,qc⟩
 have h98:=fun K=>f98 l hl uses s1 ⟨by omega,by omega⟩ b0 K
 generalize setM l s1=Y at *
 obtain⟨Y1,Y2⟩:=Y
 simp only at h98 ⊢
 have fr:frzArgs pol1 52 0 [.rf 1 1 0 0,I ((d+1:Nat):Int)] (mH b0 l uses s K)=some ([.rf 1 1 0 0,I ((d+1:Nat):Int)],mH b0 l uses s K):=zAO _ _ _ rfl
 refine zAY (pol:=pol1) Tryz.func52 rfl rfl rfl rfl fr ?_
 simp +contextual (disch:=omega) only[Tryz.f52,dd52,go_sem,simprocAttr,mu52,↓zAD,↓zAC,↓zAB,↓zAA,h97,hw,zAc,zAg,zB5,zBu,zB4,zB3,zBL,zBF,zA4,zAz,zA3,zA0,zA1,zA2,zAM,zAs,zAT,zAt,List.append_nil,h98]
 repeat' (first|intro _|apply And.intro|(unfold dOk;kernel_rfl)|exact St.beq_refl _|(show altO _ _ _ _=true;kernel_rfl)|(show (_ || _)=true;kernel_rfl)|(show (_ && _)=true;kernel_rfl))
 all_goals exact zEb rfl rfl s _ (ex1 ..) (fun H=>zAf H (zB2 _)) (zB2 _)
theorem zND {l:List Int} (hl:∀ x∈l,In64 x) {uses:Int} {d:Nat} (hd:d≤5) (ht:TreeLaw l uses d) (hb:TreeB l uses d):TreeLaw l uses (d+1):=by
 intro s b0 K hp
 simp only[treeF]
 generalize hk:nx l 20 ⟨s.at_,s.left - 1,s.caps⟩=Y
 obtain⟨k,s1⟩:=Y
 simp only
 have hq:=zBo l (n:=20) (by omega) ⟨s.at_,s.left - 1,s.caps⟩
 rw[hk]at hq
 simp only at hq
 unfold treeStep
 by_cases hc:s1.left < 3∨(l.length:Int) < s1.at_
 ·rw[if_pos hc];exact leafS hl hd s b0 K hp k s1 hk hc
 rw[if_neg hc]
 have hn1:¬ s1.left < 3:=fun h=>hc (.inl h)
 have hn2:¬ (l.length:Int) < s1.at_:=fun h=>hc (.inr h)
 by_cases h5:k < 5
 ·rw[if_pos h5];exact zOX hl hd ht hb s b0 K hp k s1 hk hn1 hn2 h5
 rw[if_neg h5]
 by_cases h8:k < 8
 ·rw[if_pos h8];exact zOY hl hd ht hb s b0 K hp k s1 hk hn1 hn2 (by omega) h8
 rw[if_neg h8]
 by_cases h12:k < 12
 ·rw[if_pos h12];exact zOV hl hd ht hb s b0 K hp k s1 hk hn1 hn2 (by omega) h12
 rw[if_neg h12]
 by_cases c1:(k=12∨k=13)∧0 < andI uses 64
 ·rw[if_pos c1]
  rcases c1.1 with e|e
  ·exact zMq hl hd ht hb s b0 K hp k s1 hk hn1 hn2 e c1.2
  ·exact zMp hl hd ht hb s b0 K hp k s1 hk hn1 hn2 e c1.2
 rw[if_neg c1]
 by_cases c2:k=14∧0 < andI uses 16
 ·rw[if_pos c2];exact t44as hl hd ht hb s b0 K hp k s1 hk hn1 hn2 c2.1 c2.2
 rw[if_neg c2]
 by_cases c3:k=15∧0 < andI uses 4
 ·rw[if_pos c3];exact zNf hl hd ht hb s b0 K hp k s1 hk hn1 hn2 c3.1 c3.2
 rw[if_neg c3]
 by_cases c4:k=16∧0 < andI uses 8
 ·rw[if_pos c4];exact zNi hl hd ht hb s b0 K hp k s1 hk hn1 hn2 c4.1 c4.2
 rw[if_neg c4]
 by_cases c5:k=17∧0 < andI uses 1∧0 < s1.caps
 ·rw[if_pos c5];exact zOW hl hd ht hb s b0 K hp k s1 hk hn1 hn2 c5.1 c5.2.1 c5.2.2
 rw[if_neg c5]
 by_cases c6:k=18∧0 < andI uses 2∧0 < s1.caps
 ·rw[if_pos c6];exact zNh hl hd ht hb s b0 K hp k s1 hk hn1 hn2 c6.1 c6.2.1 c6.2.2
 rw[if_neg c6]
 exact zNg hl hd ht hb s b0 K hp k s1 hk hn1 hn2 (by omega) (fun h=>c1 ⟨.inl h.1,h.2⟩) (fun h=>c1 ⟨.inr h.1,h.2⟩) c2 c3 c4 c5 c6
theorem zHY {l:List Int} (hl:∀ x∈l,In64 x) (uses:Int):∀ d,d≤6→TreeLaw l uses d∧TreeB l uses d
 | 0,_=>⟨fun s b0 K hp=>by
    simp only[treeF]
    generalize hk:nx l 20 ⟨s.at_,s.left - 1,s.caps⟩=Y
    obtain⟨k,s1⟩:=Y
    exact leaf0 hl s b0 K hp k s1 hk,zK6⟩
 | d+1,h=>by
   obtain⟨h1,h2⟩:=zHY hl uses d (by omega)
   exact⟨zND hl (by omega) h1 h2,zK7 h2⟩
theorem f11m (l:List Int) (hl:∀ x∈l,In64 x) (uses most:Int) (hmo:0≤most∧most≤1000) (H:List MB) :
  call Tryz.prog pol1 24 [.sl false (l.map I),I uses,I most] H=some (patAV ⟨(treeF l uses 5 ⟨0,most,0⟩).1,(treeF l uses 5 ⟨0,most,0⟩).2.caps,false⟩,H):=by
 refine zAS Tryz.func24 rfl rfl rfl rfl rfl rfl (fun _=>rfl) (by simp[AV.plain,AV.plainL,zAE]) (show AV.plain (patAV _)=true from zAx _) ?_ H
 have hpre:Pre (mA1 5) (mS1 5) ⟨0,most,0⟩:=by
  have h1:mS1 5=364:=rfl
  have h2:mA1 5=1818:=rfl
  exact⟨by simp only[h2];omega,by simp only[h1];omega,by simp only[];omega⟩
 have h44:∀ b0,call Tryz.prog pol1 52 [.rf 1 1 0 0,I 5] [b0,.row 5 [.agg [.sl false (l.map I),I 0,I uses,I most,I 0]] 0]=some (reAV (treeF l uses 5 ⟨0,most,0⟩).1,mH b0 l uses (treeF l uses 5 ⟨0,most,0⟩).2 []):=fun b0=>(zHY hl uses 5 (by omega)).1 ⟨0,most,0⟩ b0 [] hpre
 generalize treeF l uses 5 ⟨0,most,0⟩=Y at *
 obtain⟨r,s⟩:=Y
 simp only at h44 ⊢
 have htk8:∀ r l,List.take 8 (reC r++l)=reC r:=fun r l=>by
  have:=zAM r
  rw[List.take_append_of_le_length (by omega)];exact List.take_of_length_le (by omega)
 have hdr9:∀ r (a b:AV),List.drop 9 (reC r++[a,b])=[b]:=fun r a b=>by
  have:=zAM r
  rw[show (9:Nat)=8+1 from rfl,← List.drop_drop,List.drop_append_of_le_length (by omega),zAt];rfl
 have ht10:∀ a b:AV,List.take 10 (reC r++[a,b])=reC r++[a,b]:=fun a b=>List.take_of_length_le (by simp[zAM])
 simp +contextual (disch:=omega) only[Tryz.f24,dd24,go_sem,simprocAttr,evBin,mu24,↓zAD,↓zAC,↓zAB,↓zAA,h44,htk8,hdr9,ht10,zAM,zAs,zAT,zAt,List.all_append]
 repeat' (first|intro _|apply And.intro|(unfold dOk;kernel_rfl)|exact St.beq_refl _|(show altO _ _ _ _=true;kernel_rfl)|(show (_ || _)=true;kernel_rfl)|(show (_ && _)=true;kernel_rfl))
 exact⟨_,zAf _ (zAx ⟨r,s.caps,false⟩)⟩
end
section
attribute [local go_sem] evAppend
open Go.Proofs Go.RowKit Go.IntWalk
set_option maxRecDepth 100000
set_option maxHeartbeats 8000000
structure FitsOk (cap:Bool) (re:Re) (caps:Int) (t:List Int):Prop where
 val:validP ⟨re,caps,false⟩=0
 gen:genG cap re=true
 len:lenG re≤727
 wt2:re.wt≤850
 tl:t.length≤12
 txt:∀ x∈t,0≤x∧x≤255
 cost:∀ i,i≤t.length→costR t re i≤3000
theorem FitsOk.wt {cap:Bool} {re:Re} {caps:Int} {t:List Int} (h:FitsOk cap re caps t):re.wt≤1000000:=Nat.le_trans h.wt2 (by decide)
theorem zLL (cap:Bool) {caps:Int} (hc:0≤caps∧caps≤4):FitsOk cap (.mk 0 [] [] 0 0 0 0 false) caps []:=by
 refine⟨?_,by simp[genG,genL],by simp[lenG,lenL],by simp[Re.wt,Re.wtL],by simp,by simp,fun i _=>by simp[costR]⟩
 simp[validP,Re.size,Re.sizeL,Re.depth,Re.depthL,wholeG,wholeL,formedG,kidsG,spansG,topI]
 omega
theorem zOb (cap:Bool) (re:Re) (n:Nat) (t:List Int) (at_:Nat) (hw:re.wt≤1000000) (hn:n≤4) (hl:t.length≤12) (ht:∀ x∈t,0≤x∧x≤255) (hg:genG cap re=true) (ha:at_≤t.length) :
  ∃(out:AV) (k e:Int),AV.plain out=true∧(e=0→validP ⟨re,n,false⟩=0∧costR t re at_≤3000)∧∀ H,call Tryz.prog pol1 95 [patAV ⟨re,n,false⟩,.sl false (t.map I),I at_,I (-1),I 3000] H=some (.tup [out,I k,I e],H):=by
 by_cases hv:validP ⟨re,n,false⟩=0
 ·obtain⟨hsz,hdp,hc0,hc9,hwg⟩:=zCq hv
  obtain⟨g1,g2,g3⟩:=zJB cap re hg
  obtain⟨out,k,e,h1,h2,h3,h4⟩:=f123 re n t at_ 3000 hw hv (by omega) (by omega) ht (by omega) ⟨⟨hwg,g1⟩,g2,hsz⟩ g3 ha
  exact⟨out,k,e,h1,fun he=>⟨hv,by have:=h3 he;omega⟩,h4⟩
 ·exact⟨_,_,_,rfl,fun he=>absurd he hv,f123e re n t at_ 3000 hw hv⟩
abbrev patZ:AV:=.agg [I 0,.sl true [],.sl true [],I 0,I 0,I 0,I 0,.bool false,I 0,.bool false]
theorem f70 (l m:List Int) (hl:∀ x∈l,In64 x) (hm:∀ x∈m,In64 x) (uses:Int) (hu:Uses uses) :
  ∃ r,(∃ re caps t,FitsOk (decide (0 < andI uses 64)) re caps t∧r=.tup [patAV ⟨re,caps,false⟩,.sl false (t.map I)])∧∀ H,call Tryz.prog pol1 60 [.sl false (l.map I),.sl false (m.map I),I uses,I 24,I 3000] H=some (r,H):=by
 have hpre:Pre (mA1 5) (mS1 5) ⟨0,24,0⟩:=by
  have h1:mS1 5=364:=rfl
  have h2:mA1 5=1818:=rfl
  exact⟨by simp only[h2];omega,by simp only[h1];omega,by simp only[];omega⟩
 have h11:=f11m l hl uses 24 (by omega)
 have hcap:=((zHY hl uses 5 (by omega)).2 ⟨0,24,0⟩ hpre).c
 have hwt:=zHZ l uses 5 ⟨0,24,0⟩
 have hgen:=zKW hu l 5 ⟨0,24,0⟩
 have hlen:=zKV hu l 5 ⟨0,24,0⟩
 generalize treeF l uses 5 ⟨0,24,0⟩=Y at *
 obtain⟨re,s⟩:=Y
 simp only at h11 hcap hwt hgen hlen
 obtain⟨n,hn⟩:∃ n:Nat,s.caps=n:=⟨s.caps.toNat,by omega⟩
 rw[hn]at h11 hcap
 have h122:=f122 m hm
 have hT:=zMo m (min m.length 12)
 have hTl:=zDU m (min m.length 12)
 generalize textT m (min m.length 12)=T at *
 have hTl12:T.length≤12:=by omega
 have h123:=fun(k i:Nat) (hk:i≤(T.take k).length)=>zOb (decide (0 < andI uses 64)) re n (T.take k) i (Nat.le_trans hwt (by decide)) (by omega) (by simp;omega) (fun x hx=>hT x (List.mem_of_mem_take hx)) hgen hk
 have hpl:=zAx ⟨re,n,false⟩
 have hl8:=zAM re
 have hget8:(reC re++[I n,.bool false])[8]?=some (I n):=by rw[List.getElem?_append_right (by omega),hl8];rfl
 have htk:List.take 10 (reC re++[I n,.bool false])=reC re++[I n,.bool false]:=List.take_of_length_le (by simp[zAM])
 have hall:=zAs re
 refine zCX Tryz.func60 rfl rfl rfl rfl rfl rfl (fun _=>rfl) (by simp[AV.plain,AV.plainL,zAE,zAG,zAH,zAI]) ?_ ?_
 ·rintro _ ⟨re,caps,t,_,rfl⟩
  have h:=zAx ⟨re,caps,false⟩
  simp only[AV.plain,AV.plainL,zAE,h]
  rfl
 simp +contextual (disch:=omega) only[Tryz.f60,dd60,go_sem,simprocAttr,evBin,mu60,↓zAD,↓zAC,↓zAB,↓zAA,h11,h122,hl8,hget8,htk,hall,List.all_append]
 repeat' (first|intro _|apply And.intro|(unfold dOk;kernel_rfl)|exact St.beq_refl _|(show altO _ _ _ _=true;kernel_rfl)|(show (_ || _)=true;kernel_rfl)|(show (_ && _)=true;kernel_rfl))
 refine zFD (M:=(mskOf (pol1.mask 60) (pol1.gc 60) (pol1.acts 60) 0 4)) rfl (fun k:Nat=>(⟨61,[(14,I ((k:Int) - 1)),(13,.sl false (T.map I)),(12,.rf 1 1 0 0),(10,.rf 0 1 0 0),(4,I 3000)],[.row 10 [patZ] 0,.row 10 [patAV ⟨re,n,false⟩] 0]⟩:St)) (fun k=>k≤T.length+1) (fun k=>k) (T.length+1) ?_ (Nat.le_refl _) _ ?_
 ·intro k hk
  cases k with
  | zero=>
    have hget8':(patC ⟨re,n,false⟩)[8]?=some (I n):=hget8
    simp +contextual (disch:=omega) only[Tryz.f60,dd60,go_sem,simprocAttr,evBin,mu60,↓zAD,↓zAC,↓zAB,↓zAA,hget8']
    exact⟨_,⟨.mk 0 [] [] 0 0 0 0 false,n,[],zLL _ (by omega),rfl⟩,_,rfl⟩
  | succ k=>
    have e1:((k+1:Nat):Int) - 1=(k:Int):=by omega
    rw[e1]
    have hTk:(T.take k).length=k:=by simp;omega
    simp +contextual (disch:=omega) only[Tryz.f60,dd60,go_sem,simprocAttr,evBin,mu60,↓zAD,↓zAC,↓zAB,↓zAA]
    refine zFD (M:=(mskOf (pol1.mask 60) (pol1.gc 60) (pol1.acts 60) 0 8)) rfl (fun g:Nat×Bool=>(⟨61,[(16,I g.1),(15,.bool g.2),(14,I k),(13,.sl false (T.map I)),(12,.rf 1 1 0 0),(10,.rf 0 1 0 0),(4,I 3000)],[.row 10 [patZ] 0,.row 10 [patAV ⟨re,n,false⟩] 0]⟩:St))
     (fun g=>g.1≤k+1∧(g.2=true→∀ j,j < g.1→validP ⟨re,n,false⟩=0∧costR (T.take k) re j≤3000)) (fun g=>k+1 - g.1) (0,true) ?_ ⟨by simp,fun _ j hj=>absurd hj (Nat.not_lt_zero j)⟩ _ ?_
    ·rintro⟨i,good⟩ ⟨hi,hg⟩
     simp only at hi hg ⊢
     cases good with
     | false=>
       simp +contextual (disch:=omega) only[Tryz.f60,dd60,go_sem,simprocAttr,evBin,mu60,↓zAD,↓zAC,↓zAB,↓zAA]
       exact⟨fun _=>⟨k,by omega,by omega,rfl⟩,fun _=>⟨k,by omega,by omega,rfl⟩⟩
     | true=>
       by_cases hik:i≤k
       ·obtain⟨out,q,e,h1,h2,h3⟩:=h123 k i (by omega)
        rw[List.map_take]at h3
        simp +contextual (disch:=omega) only[Tryz.f60,dd60,go_sem,simprocAttr,evBin,mu60,↓zAD,↓zAC,↓zAB,↓zAA,h3,htk,hall,List.all_append,hl8,Bool.false_and]
        repeat' (first|intro _|apply And.intro|(unfold dOk;kernel_rfl)|exact St.beq_refl _|(show altO _ _ _ _=true;kernel_rfl)|(show (_ || _)=true;kernel_rfl)|(show (_ && _)=true;kernel_rfl))
        ·simp
        refine⟨(i+1,e == 0),⟨by simp only[];omega,fun he j hj=>?_⟩,by simp only[];omega,rfl⟩
        simp only at he hj
        rcases Nat.lt_or_ge j i with hji|hji
        ·exact hg rfl j hji
        ·obtain rfl:j=i:=by omega
         exact h2 (by simpa using he)
       ·simp +contextual (disch:=omega) only[Tryz.f60,dd60,go_sem,simprocAttr,evBin,mu60,↓zAD,↓zAC,↓zAB,↓zAA,htk,hall,List.all_append,hl8,Bool.false_and]
        repeat' (first|intro _|apply And.intro|(unfold dOk;kernel_rfl)|exact St.beq_refl _|(show altO _ _ _ _=true;kernel_rfl)|(show (_ || _)=true;kernel_rfl)|(show (_ && _)=true;kernel_rfl))
        ·simp
        have hik1:i=k+1:=by omega
        refine⟨_,⟨re,n,T.take k,⟨(hg rfl 0 (by omega)).1,hgen,Nat.le_trans hlen (by decide),Nat.le_trans hwt (by decide),by omega,fun x hx=>hT x (List.mem_of_mem_take hx),fun j hj=>(hg rfl j (by omega)).2⟩,rfl⟩,?_⟩
        rw[← List.map_take]
        exact⟨_,zAf _ (by
         have h:=zAx ⟨re,n,false⟩
         simp only[AV.plain,AV.plainL,zAE,h]
         rfl)⟩
    ·rfl
 ·have e2:((T.length+1:Nat):Int) - 1=(T.length:Int):=by omega
  rw[e2]
  rfl
theorem zOS:Uses 64:=⟨by decide,by decide,by decide,by decide,by decide⟩
theorem uses0:Uses 0:=⟨by decide,by decide,by decide,by decide,by decide⟩
theorem f31 (l m:List Int) (hl:∀ x∈l,In64 x) (hm:∀ x∈m,In64 x) (asserts:Bool) :
  ∃ r,(∃ cap re caps t,FitsOk cap re caps t∧compG [] re=true∧r=.tup [patAV ⟨re,caps,false⟩,.sl false (t.map I)])∧∀ H,call Tryz.prog pol1 29 [.sl false (l.map I),.sl false (m.map I),.bool asserts] H=some (r,H):=by
 have key:∀(uses:Int) (hu:Uses uses),∃(cap:Bool) (re:Re) (caps:Int) (t:List Int),cap=decide (0 < andI uses 64)∧FitsOk cap re caps t∧∀ H,call Tryz.prog pol1 60 [.sl false (l.map I),.sl false (m.map I),I uses,I 24,I 3000] H=some (.tup [patAV ⟨re,caps,false⟩,.sl false (t.map I)],H):=by
  intro uses hu
  obtain⟨_,⟨re,caps,t,h1,rfl⟩,h2⟩:=f70 l m hl hm uses hu
  exact⟨_,re,caps,t,rfl,h1,h2⟩
 refine zCX Tryz.func29 rfl rfl rfl rfl rfl rfl (fun _=>rfl) (by simp[AV.plain,AV.plainL,zAE,zAG,zAH,zAI]) ?_ ?_
 ·rintro _ ⟨cap,re,caps,t,_,_,rfl⟩
  have h:=zAx ⟨re,caps,false⟩
  simp only[AV.plain,AV.plainL,zAE,h]
  rfl
 have pl:∀(re:Re) (caps:Int) (t:List Int),AV.plain (.tup [.agg (reC re++[I caps,.bool false]),.sl false (t.map I)])=true:=fun re caps t=>by
  have h:=zAx ⟨re,caps,false⟩
  simp only[AV.plain,AV.plainL,zAE,h]
  rfl
 have hor:evBin .or .i64 64 16=some (I 80):=rfl
 have h16:evBin .sub .i64 80 64=some (I 16):=rfl
 have h00:evBin .sub .i64 64 64=some (I 0):=rfl
 cases asserts with
 | true=>
   obtain⟨cap,re,caps,t,hc,hf,h70⟩:=key 80 zOR
   obtain⟨cap2,re2,caps2,t2,hc2,hf2,h70b⟩:=key 16 zOT
   have hwg:=(zCq hf.val).2.2.2.2
   have h53:=f53n _ _ re hf.wt hwg
   have hl8:=zAM re
   have htk:List.take 10 (reC re++[I caps,.bool false])=reC re++[I caps,.bool false]:=List.take_of_length_le (by simp[zAM])
   have hall:=zAs re
   have hl8b:=zAM re2
   have htkb:List.take 10 (reC re2++[I caps2,.bool false])=reC re2++[I caps2,.bool false]:=List.take_of_length_le (by simp[zAM])
   have hallb:=zAs re2
   have htk8:∀ l,List.take 8 (reC re++l)=reC re:=fun l=>by
    rw[List.take_append_of_le_length (by omega)];exact List.take_of_length_le (by omega)
   cases hcp:compG [] re with
   | true=>
     rw[hcp]at h53
     simp +contextual (disch:=omega) only[Tryz.f29,dd29,go_sem,simprocAttr,mu29,↓zAD,↓zAC,↓zAB,↓zAA,hor,h70,h53,hl8,htk,hall,htk8,List.all_append]
     exact⟨_,⟨cap,re,caps,t,hf,hcp,rfl⟩,_,zAf _ (pl re caps t)⟩
   | false=>
     rw[hcp]at h53
     simp +contextual (disch:=omega) only[Tryz.f29,dd29,go_sem,simprocAttr,mu29,↓zAD,↓zAC,↓zAB,↓zAA,hor,h16,h70,h70b,h53,hl8,htk,hall,htk8,hl8b,htkb,hallb,List.all_append]
     exact⟨_,⟨cap2,re2,caps2,t2,hf2,zH1 re2 [] (by rw[← hc2.trans (by decide:decide (0 < andI 16 64)=false)];exact hf2.gen),rfl⟩,_,zAf _ (pl re2 caps2 t2)⟩
 | false=>
   obtain⟨cap,re,caps,t,hc,hf,h70⟩:=key 64 zOS
   obtain⟨cap2,re2,caps2,t2,hc2,hf2,h70b⟩:=key 0 uses0
   have hwg:=(zCq hf.val).2.2.2.2
   have h53:=f53n _ _ re hf.wt hwg
   have hl8:=zAM re
   have htk:List.take 10 (reC re++[I caps,.bool false])=reC re++[I caps,.bool false]:=List.take_of_length_le (by simp[zAM])
   have hall:=zAs re
   have hl8b:=zAM re2
   have htkb:List.take 10 (reC re2++[I caps2,.bool false])=reC re2++[I caps2,.bool false]:=List.take_of_length_le (by simp[zAM])
   have hallb:=zAs re2
   have htk8:∀ l,List.take 8 (reC re++l)=reC re:=fun l=>by
    rw[List.take_append_of_le_length (by omega)];exact List.take_of_length_le (by omega)
   cases hcp:compG [] re with
   | true=>
     rw[hcp]at h53
     simp +contextual (disch:=omega) only[Tryz.f29,dd29,go_sem,simprocAttr,mu29,↓zAD,↓zAC,↓zAB,↓zAA,h70,h53,hl8,htk,hall,htk8,List.all_append]
     exact⟨_,⟨cap,re,caps,t,hf,hcp,rfl⟩,_,zAf _ (pl re caps t)⟩
   | false=>
     rw[hcp]at h53
     simp +contextual (disch:=omega) only[Tryz.f29,dd29,go_sem,simprocAttr,mu29,↓zAD,↓zAC,↓zAB,↓zAA,h00,h70,h70b,h53,hl8,htk,hall,htk8,hl8b,htkb,hallb,List.all_append]
     exact⟨_,⟨cap2,re2,caps2,t2,hf2,zH1 re2 [] (by rw[← hc2.trans (by decide:decide (0 < andI 0 64)=false)];exact hf2.gen),rfl⟩,_,zAf _ (pl re2 caps2 t2)⟩
end
theorem zMr {l:List (Int×Int)} {runes:Bool} (h:spansG l (topI runes)=true):refSpans l=0∧lastOk l (if runes then 1114111 else 255)=true:=by
 simp only[spansG,Bool.and_eq_true,decide_eq_true_eq,Bool.not_eq_true']at h
 have ht:=zJk runes
 have hg:∀ k,k < l.length→badS l (topI runes) k=false:=fun k hk=>by
  have:=List.any_eq_false.1 h.2 k (List.mem_range.2 hk)
  simpa using this
 refine⟨?_,?_⟩
 ·rw[zEw,if_neg (by omega)]
  intro k hk
  have hb:=hg k hk
  obtain⟨p,hp⟩:∃ p,l[k]?=some p:=⟨_,List.getElem?_eq_getElem hk⟩
  simp only[badS,hp,Bool.or_eq_false_iff,decide_eq_false_iff_not]at hb
  simp only[badAt,hp]
  have hd:decide (0≤p.1∧p.1≤p.2∧p.2≤1114111)=true:=by rw[decide_eq_true_eq];omega
  rw[hd]
  cases k with
  | zero=>rfl
  | succ k=>
    obtain⟨q,hq⟩:∃ q,l[k]?=some q:=⟨_,List.getElem?_eq_getElem (by omega)⟩
    have:=hb.2
    simp only[hq,decide_eq_false_iff_not]at this ⊢
    have hd2:decide (p.1 - q.2 < 2)=false:=by rw[decide_eq_false_iff_not];omega
    rw[hd2];rfl
 ·unfold lastOk
  split
  ·rename_i p hp
   have hk:=(List.getElem?_eq_some_iff.1 hp).1
   have hb:=hg _ hk
   simp only[badS,hp,Bool.or_eq_false_iff,decide_eq_false_iff_not]at hb
   have:=hb.1.2
   rw[decide_eq_true_eq]
   unfold topI at this
   omega
  ·rfl
def OkL (N:Nat) (caps:Int) (runes:Bool) (l:List Ins):Prop:=∀ i∈l,okIns N caps runes i=true
theorem OkL.app {N:Nat} {caps:Int} {runes:Bool} {a b:List Ins} (ha:OkL N caps runes a) (hb:OkL N caps runes b):OkL N caps runes (a++b):=fun i hi=>by
 rcases List.mem_append.1 hi with h|h
 ·exact ha i h
 ·exact hb i h
theorem OkL.cons {N:Nat} {caps:Int} {runes:Bool} {x:Ins} {b:List Ins} (ha:okIns N caps runes x=true) (hb:OkL N caps runes b):OkL N caps runes (x::b):=fun i hi=>by
 rcases List.mem_cons.1 hi with rfl|h
 ·exact ha
 ·exact hb i h
theorem OkL.nil {N:Nat} {caps:Int} {runes:Bool}:OkL N caps runes []:=fun i hi=>by simp at hi
theorem OkL.flat {α:Type} {N:Nat} {caps:Int} {runes:Bool} {l:List α} {g:α→List Ins} (h:∀ x∈l,OkL N caps runes (g x)):OkL N caps runes (l.flatMap g):=fun i hi=>by
 obtain⟨x,hx,hi⟩:=List.mem_flatMap.1 hi
 exact h x hx i hi
theorem zHk {N:Nat} {caps:Int} {runes:Bool} {md:Int} {a b:Nat} (ha:a < N) (hb:b < N):okIns N caps runes (insSplit md (a:Int) (b:Int))=true:=by
 unfold insSplit
 split<;>simp[okIns,ha,hb]
theorem zL4 {N:Nat} {caps:Int} {runes:Bool} {a:Nat} (ha:a < N):okIns N caps runes ⟨3,(a:Int),0,0,[]⟩=true:=by simp[okIns,ha]
mutual
theorem zIN {caps:Int} {runes:Bool} {N:Nat}:∀ r:Re,GoodC caps (topI runes) r→∀ f,f+lenG r < N→OkL N caps runes (codeG r f)
 | .mk op set kids mn mx md n neg,h,f,hN=>by
   have hC:=zHO (N:=N) kids h.kids
   have hA:=zHP (N:=N) kids h.kids
   have hH:=zMY (N:=N) kids h.kids
   obtain⟨hk,hkd,hrp,hcp,_⟩:=zAv h.whole
   have hform:formedG caps (topI runes) (.mk op set kids mn mx md n neg)=true:=by
    have:=h.whole
    rw[wholeG,Bool.and_eq_true]at this
    exact this.1
   rw[codeG]
   rw[lenG]at hN
   rcases h.op with rfl|rfl|rfl|rfl|rfl|rfl|rfl
   ·simp;exact OkL.nil
   ·simp only[if_true]
    have hs:spansG set (topI runes)=true:=by
     simp only[formedG,Bool.and_eq_true]at hform
     simpa using hform.1.1.1.2
    obtain⟨s1,s2⟩:=zMr hs
    refine OkL.cons ?_ OkL.nil
    simp[okIns,s1,s2]
   ·simp only[show ¬(2:Int)=1 by decide,show ¬(2:Int)=11 by decide,if_false,if_true]
    exact hC f (by simpa using hN)
   ·simp only[show ¬(3:Int)=1 by decide,show ¬(3:Int)=11 by decide,show ¬(3:Int)=2 by decide,if_false,if_true]
    have h2:2≤kids.length:=by simpa [kidsG] using hkd
    exact hA f (by omega) (by simpa using hN)
   ·obtain⟨k,rfl⟩:∃ k,kids=[k]:=List.length_eq_one_iff.1 (by simpa [kidsG] using hkd)
    have hr:=hrp rfl
    simp only[repG,Bool.and_eq_true,Bool.or_eq_true,decide_eq_true_eq,beq_iff_eq]at hr
    simp only[show ¬(4:Int)=1 by decide,show ¬(4:Int)=11 by decide,show ¬(4:Int)=2 by decide,show ¬(4:Int)=3 by decide,show ¬(4:Int)=5 by decide,if_false,if_true,or_self,lenL,codeHd,Nat.add_zero]at hN ⊢
    simp only[codeHd]at hH
    generalize hL:lenG k=L at *
    by_cases hm:mx = -1
    ·simp only[if_pos hm]at hN ⊢
     rw[Nat.succ_mul]at hN
     refine OkL.app (OkL.flat fun i hi=>hH _ ?_) (OkL.cons (zHk (by omega) (by omega)) (OkL.app (hH _ (by rw[lenL,lenL,hL];omega)) (OkL.cons (zL4 (by omega)) OkL.nil)))
     have:=Nat.mul_le_mul_right L (show i+1≤mn.toNat by have:=List.mem_range.1 hi;omega)
     rw[Nat.succ_mul]at this
     rw[lenL,lenL,hL];omega
    ·simp only[if_neg hm]at hN ⊢
     obtain⟨e,he⟩:∃ e,mx.toNat=mn.toNat+e:=⟨mx.toNat - mn.toNat,by omega⟩
     rw[he,Nat.add_sub_cancel_left,Nat.add_mul]at hN ⊢
     refine OkL.app (OkL.flat fun i hi=>hH _ ?_) (OkL.flat fun j hj=>?_)
     ·have:=Nat.mul_le_mul_right L (show i+1≤mn.toNat by have:=List.mem_range.1 hi;omega)
      rw[Nat.succ_mul]at this
      rw[lenL,lenL,hL];omega
     ·have h1:=List.mem_range.1 hj
      have:=Nat.mul_le_mul_right L (show j+1≤e by omega)
      rw[Nat.succ_mul]at this
      have h2:j * (L+1)=j * L+j:=by rw[Nat.mul_add,Nat.mul_one]
      exact OkL.cons (zHk (by omega) (by omega)) (hH _ (by rw[lenL,lenL,hL];omega))
   ·obtain⟨k,rfl⟩:∃ k,kids=[k]:=List.length_eq_one_iff.1 (by simpa [kidsG] using hkd)
    simp only[show ¬(5:Int)=1 by decide,show ¬(5:Int)=11 by decide,show ¬(5:Int)=2 by decide,show ¬(5:Int)=3 by decide,if_false,if_true,or_self]at hN ⊢
    have hc:=hcp (.inl rfl)
    refine OkL.cons ?_ (OkL.app (hH _ (by omega)) (OkL.cons ?_ OkL.nil))
    ·simp[okIns];omega
    ·simp[okIns];omega
   ·simp only[show ¬(11:Int)=1 by decide,if_false,if_true]
    have hs:0≤n∧n≤5:=by
     simp only[formedG,Bool.and_eq_true]at hform
     simpa using hform.1.2
    refine OkL.cons ?_ OkL.nil
    simp[okIns,hs]
theorem zHO {caps:Int} {runes:Bool} {N:Nat}:∀ l:List Re,(∀ k∈l,GoodC caps (topI runes) k)→∀ f,f+lenL l < N→OkL N caps runes (codeCat l f)
 | [],_,_,_=>OkL.nil
 | k::ks,h,f,hN=>by
   rw[lenL]at hN
   rw[codeCat]
   exact OkL.app (zIN k (h k (by simp)) f (by omega)) (zHO ks (fun q hq=>h q (by simp[hq])) _ (by omega))
theorem zHP {caps:Int} {runes:Bool} {N:Nat}:∀ l:List Re,(∀ k∈l,GoodC caps (topI runes) k)→∀ f,1≤l.length→f+(lenL l+2 * (l.length - 1)) < N→OkL N caps runes (codeAlt l f)
 | [],_,_,_,_=>OkL.nil
 | k::ks,h,f,_,hN=>by
   rw[codeAlt]
   have hk:=fun f=>zIN (N:=N) k (h k (by simp)) f
   split
   ·rename_i h0
    have:ks=[]:=List.length_eq_zero_iff.1 h0
    subst this
    exact hk f (by simp[lenL]at hN;omega)
   ·rename_i h0
    have hs:=zHP (N:=N) ks (fun q hq=>h q (by simp[hq])) (f+lenG k+2) (by omega)
    simp only[lenL,List.length_cons]at hN
    refine OkL.cons ?_ (OkL.app (hk _ (by omega)) (OkL.cons (zL4 (by simp only[lenL];omega)) (hs (by omega))))
    have:=zHk (N:=N) (caps:=caps) (runes:=runes) (md:=0) (a:=f+1) (b:=f+lenG k+2) (by omega) (by omega)
    exact this
theorem zMY {caps:Int} {runes:Bool} {N:Nat}:∀ l:List Re,(∀ k∈l,GoodC caps (topI runes) k)→∀ f,f+lenL l < N→OkL N caps runes (codeHd l f)
 | [],_,_,_=>OkL.nil
 | k::ks,h,f,hN=>by
   rw[lenL]at hN
   rw[codeHd]
   exact zIN k (h k (by simp)) f (by omega)
end
abbrev prgOf (re:Re) (caps:Int) (runes:Bool):Prg:=⟨codeG re 0++[⟨0,0,0,0,[]⟩],caps,runes⟩
theorem zLx {re:Re} {caps:Int} {runes:Bool} (hv:validP ⟨re,caps,runes⟩=0) (hc:codable re=true) (hl:lenG re+1≤8192):validG (prgOf re caps runes)=0∧PrgB (prgOf re caps runes):=by
 obtain⟨hsz,hdp,hc0,hc9,hwg⟩:=zCq hv
 simp only at hc0 hc9 hwg
 have hg:GoodC caps (topI runes) re:=⟨hwg,hc⟩
 have hlen:=zBO caps (topI runes) re 0 hg
 have hok:OkL (lenG re+1) caps runes (codeG re 0++[⟨0,0,0,0,[]⟩]):=OkL.app (zIN re hg 0 (by omega)) (OkL.cons (by simp[okIns]) OkL.nil)
 have hn:(codeG re 0++[(⟨0,0,0,0,[]⟩:Ins)]).length=lenG re+1:=by simp[hlen]
 have hn':(prgOf re caps runes).ins.length=lenG re+1:=hn
 have hb:(prgOf re caps runes).ins.length≤1000000∧∀ i∈(prgOf re caps runes).ins,i.set.length≤1000000:=by
  refine⟨by omega,fun i hi=>?_⟩
  have:=hok i hi
  simp only[okIns,Bool.and_eq_true]at this
  obtain⟨⟨⟨⟨h1,_⟩,_⟩,_⟩,h2⟩:=this
  by_cases e:i.op=1
  ·have h3:refSpans i.set=0∧lastOk i.set (if runes=true then 1114111 else 255)=true:=by simpa [e] using h2
   have this:=h3.1
   unfold refSpans at this
   split at this
   ·cases this
   ·split at this
    ·cases this
    ·omega
  ·have:i.set.length=0:=by simpa [e] using h1
   omega
 refine⟨?_,hb⟩
 ·unfold validG
  simp only[hn]
  rw[if_neg (by omega),if_neg (by omega),if_pos]
  rw[Bool.and_eq_true]
  refine⟨List.all_eq_true.2 hok,?_⟩
  simp[lastGood]
end Go.Ev
namespace Go.Ev
attribute [local go_sem] evBuild AV.cells splice List.length_append List.map_append tySzE List.head?_drop Nat.mul_one zAP zAU zAN zAQ zAR zAX
section
attribute [local go_sem] evBin
open Go.Proofs Go.RowKit Go.IntWalk
set_option maxRecDepth 100000
set_option maxHeartbeats 16000000
theorem zMa {ins:List Ins} {t o:List Int} {st p:Nat} (h:t[p]?=o[p]?):chS ins t st p=chS ins o st p:=by
 have e:yiC ins t p=yiC ins o p:=by
  funext s a m
  simp only[yiC,chY,h]
 unfold chS
 rw[e]
theorem zG4 {ins:List Ins} {t o:List Int}:∀(k st p:Nat) (regs:List Int) (res:Option (Nat×List Int)),(∀ j,p≤j→t[j]?=o[j]?)→runO ins t k st p regs res=runO ins o k st p regs res
 | 0,_,_,_,_,_=>rfl
 | k+1,st,p,regs,res,h=>by
   unfold runO
   rw[zMa (h p (Nat.le_refl _))]
   split
   ·rfl
   ·exact zG4 k _ _ _ _ (fun j hj=>h j (by omega))
noncomputable def polQ:Pol:={ polL [12,20,21,25,29,31] with pure:=fun f=>!(30::19::([12,20,21,25,29,31]++notPure)).contains f,ext:=fun f=>if f=30 then some (call Tryz.prog polO 30) else(polL [12,20,21,25,29,31]).ext f }
theorem zDx:polQ.dead=pol1.dead:=rfl
theorem zDX:polQ.bdead=pol1.bdead:=rfl
theorem zDW:polQ.racts=pol1.racts:=rfl
theorem zDw:polQ.muts=pol1.muts:=rfl
theorem zDy:polQ.alts=pol1.alts:=rfl
theorem extQ:ExtOk Tryz.prog polQ:=by
 intro f g hg args H r H' h
 by_cases e:f=30
 ·subst e
  have:polQ.ext 30=some (call Tryz.prog polO 30):=rfl
  rw[this]at hg
  obtain rfl:=Option.some.inj hg
  exact okO.1 30 args H r H' (by decide) h
 have:polQ.ext f=(polL [12,20,21,25,29,31]).ext f:=by
  show (if f=30 then some (call Tryz.prog polO 30) else(polL [12,20,21,25,29,31]).ext f)=_
  rw[if_neg e]
 rw[this]at hg
 exact extL (by decide) f g hg args H r H' h
theorem okQ:CfOk Tryz.prog (call Tryz.prog polQ):=zGh extQ zAr
theorem zGs (f:Nat) (h19:f≠19) (hf:[12,20,21,25,29,31].contains f=true) {args:List AV} {H H':List MB} {r:AV} (h:call Tryz.prog pol1 f args H=some (r,H')):call Tryz.prog polQ f args H=some (r,H'):=by
 have hm:f∈[12,20,21,25,29,31]:=by simpa using hf
 have h30:f≠30:=fun e=>by subst e;simp at hm
 have hy:f≠yldF:=fun e=>by rw[e]at hf;exact absurd hf (by decide)
 have hp:polQ.pure f=false:=by
  simp at hm
  rcases hm with rfl|rfl|rfl|rfl|rfl|rfl<;>decide
 have he:polQ.ext f=some (call Tryz.prog pol1 f):=by
  show (if f=30 then some (call Tryz.prog polO 30) else(polL [12,20,21,25,29,31]).ext f)=_
  rw[if_neg h30,zIx hf h19]
 rw[zA5]
 unfold evStep evBody
 rw[if_neg (by rw[hp];decide),if_neg hy]
 simp only[he]
 exact h
theorem q19 (H:List MB):call Tryz.prog polQ 19 [] H=some (.bool true,H):=by
 have he:polQ.ext 19=some (call Tryz.prog polU 19):=rfl
 rw[zA5]
 unfold evStep evBody
 rw[if_neg (show ¬ polQ.pure 19=true by decide),if_neg (by decide)]
 simp only[he]
 exact u19 H
theorem q30 {args:List AV} {H H':List MB} {r:AV} (h:call Tryz.prog polO 30 args H=some (r,H')):call Tryz.prog polQ 30 args H=some (r,H'):=by
 have he:polQ.ext 30=some (call Tryz.prog polO 30):=rfl
 rw[zA5]
 unfold evStep evBody
 rw[if_neg (show ¬ polQ.pure 30=true by decide),if_neg (by decide)]
 simp only[he]
 exact h
theorem appZ (b0 b1 b2:MB) (T:List Int) (n i:Nat) (hn:T.length=n) (hn2:n≤1000) (hi:i≤1000) :
  evAppZ Tryz.prog [b0,b1,b2,.row 1 (T.map I) 0] 22 3 (.ms 3 1 n 0 n) (NV i)=some (.ms 3 1 (n+i) 0 (n+i),[b0,b1,b2,.row 1 ((T++List.replicate i 0).map I) 0]):=by
 have e1:tyElem Tryz.prog 22=some 3:=by kernel_rfl
 have e2:tySz Tryz.prog 3=some 1:=by kernel_rfl
 have e3:tyBytes Tryz.prog 3=some 8:=by kernel_rfl
 have e4:tyZero Tryz.prog 3=some (I 0):=by kernel_rfl
 have e5:tyInt Tryz.prog 3=some .i64:=by kernel_rfl
 have hg:getRow [b0,b1,b2,.row 1 (T.map I) 0] 3=some (1,T.map I,0):=rfl
 unfold evAppZ
 simp only[e1,e2,e3,e4,e5]
 rw[if_pos (by refine⟨by omega,by omega,by decide,rfl⟩),Int.toNat_natCast]
 unfold appCore
 rw[if_pos (by refine⟨?_,by omega,rfl⟩;simp[AV.cells,AV.ok])]
 simp only[hg]
 rw[if_pos (by simp[hn])]
 cases i with
 | zero=>simp
 | succ i=>
   have hr:roomFor (n+(List.replicate (i+1) (I 0)).length) 8=true:=by
    rw[List.length_replicate]
    exact zAX (by omega) (by omega)
   rw[List.replicate_succ]at hr ⊢
   simp only[]
   rw[if_pos ⟨by omega,hr⟩,if_neg (by simp)]
   have ht:List.take (0+n) (T.map I)=T.map I:=List.take_of_length_le (by simp[hn])
   rw[ht]
   simp[List.replicate_succ]
theorem app0 (H:List MB) (x:AV) (ys:List Int) (hs:srcElems Tryz.prog H 3 x=some (ys.map I)) (h0:ys≠[]) (hl:ys.length≤1000) :
  evAppend Tryz.prog H 22 22 (.sl true []) x=some (.ms H.length 1 ys.length 0 ys.length,H++[.row 1 (ys.map I) 0]):=by
 have e1:tyElem Tryz.prog 22=some 3:=by kernel_rfl
 have e2:tySz Tryz.prog 3=some 1:=by kernel_rfl
 have e3:tyBytes Tryz.prog 3=some 8:=by kernel_rfl
 have e4:tyZero Tryz.prog 3=some (I 0):=by kernel_rfl
 have e5:tyNotInt Tryz.prog 22=true:=by kernel_rfl
 unfold evAppend
 simp only[e1,e2,e3,e4,e5,hs]
 rw[if_pos (by refine⟨by simp[AV.cells,AV.ok],by omega,rfl⟩)]
 cases ys with
 | nil=>exact absurd rfl h0
 | cons y ys=>
   simp only[List.map_cons]
   rw[if_pos (by refine⟨trivial,zAX (by simp at hl ⊢;omega) (by omega),rfl⟩)]
   simp
theorem app00 (H:List MB) (x:AV) (hs:srcElems Tryz.prog H 3 x=some []):evAppend Tryz.prog H 22 22 (.sl true []) x=some (.sl true [],H):=by
 have e1:tyElem Tryz.prog 22=some 3:=by kernel_rfl
 have e2:tySz Tryz.prog 3=some 1:=by kernel_rfl
 have e3:tyBytes Tryz.prog 3=some 8:=by kernel_rfl
 have e4:tyZero Tryz.prog 3=some (I 0):=by kernel_rfl
 have e5:tyNotInt Tryz.prog 22=true:=by kernel_rfl
 unfold evAppend
 simp only[e1,e2,e3,e4,e5,hs]
 rfl
theorem q21m {cv:AV} (hc:AV.plain cv=true) {o:List Int} {L i:Nat} (hL:o.length=L) {r:AV} (h:∀ H,call Tryz.prog pol1 21 [cv,.sl false (o.map I),NV i] H=some (r,H)) (b0 b1 b2 b3:MB) :
  call Tryz.prog polQ 21 [cv,.ms 4 1 L 0 L,NV i] [b0,b1,b2,b3,.row 1 (o.map I) 0]=some (r,[b0,b1,b2,b3,.row 1 (o.map I) L]):=by
 refine zGs 21 (by decide) (by decide) ?_
 rw[zDc (l:=[cv,.sl false (o.map I),NV i]) (H1:=[b0,b1,b2,b3,.row 1 (o.map I) L]) rfl ?_ (by simp[AV.plainL,AV.plain,hc,zAE])]
 ·exact h _
 ·have h1:fz cv [b0,b1,b2,b3,.row 1 (o.map I) 0]=some (cv,[b0,b1,b2,b3,.row 1 (o.map I) 0]):=zAf _ hc
  have h2:fz (.ms 4 1 L 0 L) [b0,b1,b2,b3,.row 1 (o.map I) 0]=some (.sl false (o.map I),[b0,b1,b2,b3,.row 1 (o.map I) L]):=by
   rw[zFg (els:=o.map I) (k:=1) (z:=0) rfl (by simp[hL]) (zAE _)]
   simp[mark,getRow]
  have h3:∀ H,fz (NV i) H=some (NV i,H):=fun H=>rfl
  have hby:∀ i,pol1.byref 21 i=false:=fun i=>rfl
  simp only[frzArgs,hby,Bool.false_eq_true,if_false,h1,h2,h3]
theorem q21n {cv:AV} (hc:AV.plain cv=true) {i:Nat} {r:AV} (h:∀ H,call Tryz.prog pol1 21 [cv,.sl false [],NV i] H=some (r,H)) (H:List MB) :
  call Tryz.prog polQ 21 [cv,.sl true [],NV i] H=some (r,H):=by
 refine zGs 21 (by decide) (by decide) ?_
 rw[zDc (l:=[cv,.sl false [],NV i]) (H1:=H) rfl ?_ (by simp[AV.plainL,AV.plain,hc])]
 ·exact h _
 ·have h1:fz cv H=some (cv,H):=zAf _ hc
  have h2:fz (.sl true []) H=some (.sl false [],H):=rfl
  have h3:∀ H,fz (NV i) H=some (NV i,H):=fun H=>rfl
  have hby:∀ i,pol1.byref 21 i=false:=fun i=>rfl
  simp only[frzArgs,hby,Bool.false_eq_true,if_false,h1,h2,h3]
theorem law6 (l:List Int) (hl:∀ x∈l,In64 x) (m:List Int) (hm:∀ x∈m,In64 x) (a:Int) (ha:In64 a) (k:List Int) (hk:∀ x∈k,In64 x) (H:List MB) :
  call Tryz.prog polQ 6 [.sl false (l.map I),.sl false (m.map I),I a,.sl false (k.map I)] H=some (.bool true,H):=by
 have h19:=q19
 obtain⟨_,⟨cap,re,caps,t,hfit,hcomp,rfl⟩,h29⟩:=f31 l m hl hm false
 have h29:=fun H=>zGs 29 (by decide) (by decide) (h29 H)
 have htl:=hfit.tl
 have h25:=fun H=>zGs 25 (by decide) (by decide) (f14 ⟨re,caps,false⟩ hfit.wt H)
 have hcp:compP ⟨re,caps,false⟩=(prgOf re caps false,0):=by
  unfold compP
  rw[if_pos hfit.val,if_pos hcomp,if_pos (by have:=hfit.len;simp only;omega)]
 rw[hcp]at h25
 obtain⟨hv,hgb⟩:=zLx hfit.val (zFU re [] hcomp) (by have:=hfit.len;omega)
 have hpl:(patC ⟨re,caps,false⟩).length=10:=by simp[patC,zAM]
 have hpok:(patC ⟨re,caps,false⟩).all AV.ok=true:=by have:=zAs re;simp[patC,List.all_append,this,AV.ok]
 simp only[patAV]at h29 h25
 generalize patC ⟨re,caps,false⟩=pc at *
 have htk:List.take 10 pc=pc:=List.take_of_length_le (by omega)
 generalize prgOf re caps false=g at *
 have hnp:ofK (Value.pointer none)=.nilp:=rfl
 refine zAS Tryz.func6 rfl rfl rfl rfl rfl rfl (fun _=>rfl) (by simp[AV.plain,AV.plainL,zAE,zAG,zAH,zAI]) (by simp[AV.plain,AV.plainL,zAE,zAG,zAH,zAI]) ?_ H
 by_cases hac:acceptG g=0
 ·have hok:=zKl hac
  obtain⟨_,⟨xs,fk,hex,rfl⟩,h12⟩:=g12 g hgb hac
  obtain⟨_,⟨syms,_,hsy⟩,_⟩:=g40 hok
  cases fk with
  | true=>
    rw[if_pos rfl]at h12
    have h12:=fun H=>zGs 12 (by decide) (by decide) (h12 H)
    simp +contextual (disch:=omega) only[Tryz.f6,dd6,go_sem,simprocAttr,evAppend,mu6,↓zAD,↓zAC,↓zAB,↓zAA,zDx,zDX,zDW,zDw,zDy,h29,h25,h12,h19,hnp,hpl,hpok,htk]
    exact⟨_,rfl⟩
  | false=>
    rw[if_neg (by simp)]at h12
    have h12:=fun H=>zGs 12 (by decide) (by decide) (h12 H)
    obtain⟨hQ,hQ0⟩:=zMZ hok hsy hex
    obtain⟨c,hcc⟩:∃ c:Nat,g.caps=c:=⟨g.caps.toNat,by have:=(zL3 hv).caps;omega⟩
    have hc9:c≤9:=by have:=(zL3 hv).caps;omega
    have h20:=fun H=>zGs 20 (by decide) (by decide) (f12 a ((t.length+1:Nat):Int) ha (by omega) H)
    have har:=zJe (n:=a) (m:=((t.length+1:Nat):Int)) (by omega)
    obtain⟨i,hi⟩:∃ i:Nat,aroundI a ((t.length+1:Nat):Int)=i:=⟨(aroundI a ((t.length+1:Nat):Int)).toNat,by omega⟩
    rw[hi]at h20 har
    have hit:i≤t.length:=by omega
    have r21:∀ o:List Int,o.length=t.length→(∀ j,i≤j→t[j]?=o[j]?)→∀ H,call Tryz.prog pol1 21 [cAV g.ins c xs.length,.sl false (o.map I),NV i] H=some (.tup [mat21 false i c (runO g.ins t (t.length+1 - i) 0 i m18 none),.bool (runO g.ins t (t.length+1 - i) 0 i m18 none).isSome,I 0],H):=fun o ho hoj H=>by
     have:=g21 hok hQ hQ0 c hc9 xs.length o (by omega) i (by omega) H
     rw[ho,← zG4 (t:=t) (o:=o) _ _ _ _ _ hoj]at this
     exact this
    have ecv:cAV g.ins c xs.length=AV.pt [.sl false (g.ins.map insAV),I g.caps,NV xs.length]:=by rw[hcc]
    simp only[ecv]at r21
    have plc:AV.plain (.pt [.sl false (g.ins.map insAV),I g.caps,NV xs.length])=true:=by simp[AV.plain,AV.plainL,zAH]
    generalize hcv:[AV.sl false (g.ins.map insAV),I g.caps,NV xs.length]=cs at *
    have h21:=fun H=>zGs 21 (by decide) (by decide) (r21 t rfl (fun _ _=>rfl) H)
    obtain⟨M,rb,hM,h31,hr⟩:∃(M:M3) (rb:Bool),mat21 false i c (runO g.ins t (t.length+1 - i) 0 i m18 none)=mA M∧M.2.2.length≤1000∧(runO g.ins t (t.length+1 - i) 0 i m18 none).isSome=rb:=by
     cases runO g.ins t (t.length+1 - i) 0 i m18 none with
     | none=>exact⟨(0,0,[]),false,rfl,by simp,rfl⟩
     | some x=>exact⟨((i:Int),(x.1:Int),capsN x.2 c),true,rfl,by simp[zEB];omega,rfl⟩
    rw[hM,hr]at r21 h21
    have h31:=fun H=>zGs 31 (by decide) (by decide) (e31 M M h31 h31 H)
    simp only[decide_true]at h31
    simp only[mA,matAV]at h31 h21 r21
    generalize List.map spanAV M.2.2=mc at *
    generalize M.1=ms at *
    generalize M.2.1=me at *
    have h30:=fun H=>q30 (o30 k hk i (by omega) H)
    generalize hn:min k.length i=n at *
    have hTl:=zDU k n
    generalize textT k n=T at *
    have hz:=fun b0 b1 b2=>appZ b0 b1 b2 T n i hTl (by omega) (by omega)
    have hZl:(T++List.replicate i 0).length=n+i:=by simp[hTl]
    generalize T++List.replicate i 0=Z at *
    have htt:List.take t.length (t.map I)=t.map I:=List.take_of_length_le (by simp)
    have hdrop:List.drop i (t.map I)=(t.drop i).map I:=by rw[List.map_drop]
    have hDl:(t.drop i).length=t.length - i:=by simp
    have hDg:∀ j,i≤j→t[j]?=(t.drop i)[j - i]?:=fun j hj=>by rw[List.getElem?_drop];congr 1;omega
    generalize t.drop i=D at *
    have hsZ:∀ b0 b1 b2:MB,srcElems Tryz.prog [b0,b1,b2,.row 1 (Z.map I) 0] 3 (.ms 3 1 (n+i) 0 i)=some ((Z.take i).map I):=fun b0 b1 b2=>by
     simp[srcElems,elemsOf,getRow,hZl]
    have hZi:(Z.take i).length=i:=by simp[hZl]
    have w1:((0:Int)≤(i:Int))=True:=eq_true (by omega)
    have w2:((i:Int)≤((n+i:Nat):Int))=True:=eq_true (by omega)
    have w3:((i:Int)≤((t.length:Nat):Int))=True:=eq_true (by omega)
    by_cases hi0:i=0
    ·have hA:∀ b0 b1 b2:MB,evAppend Tryz.prog [b0,b1,b2,.row 1 (Z.map I) 0] 22 22 (.sl true []) (.ms 3 1 (n+i) 0 i)=some (.sl true [],[b0,b1,b2,.row 1 (Z.map I) 0]):=fun b0 b1 b2=>by
      refine app00 _ _ ?_
      rw[hsZ,hi0];rfl
     by_cases hD:D=[]
     ·have hB:∀ H,evAppend Tryz.prog H 22 22 (.sl true []) (.sl false (D.map I))=some (.sl true [],H):=fun H=>app00 _ _ (by rw[hD];rfl)
      have h21b:=fun H=>q21n plc (fun H=>r21 [] (by rw[hD]at hDl;simp at hDl ⊢;omega) (fun j hj=>by rw[hDg j hj,hD];simp) H) H
      simp +contextual (disch:=omega) only[Tryz.f6,dd6,go_sem,simprocAttr,mu6,↓zAD,↓zAC,↓zAB,↓zAA,zDx,zDX,zDW,zDw,zDy,h29,h25,h12,h19,hnp,hpl,hpok,htk,h20,h21,h30,hz,htt,hdrop,hA,hB,h21b,h31,w1,w2,w3,beq_self_eq_true,Bool.true_beq,Bool.false_beq,Nat.sub_zero]
      exact⟨(by unfold dOk;kernel_rfl),by simp,_,rfl⟩
     ·have hB:∀ b0 b1 b2 b3:MB,evAppend Tryz.prog [b0,b1,b2,b3] 22 22 (.sl true []) (.sl false (D.map I))=some (.ms 4 1 D.length 0 D.length,[b0,b1,b2,b3,.row 1 (D.map I) 0]):=fun b0 b1 b2 b3=>app0 _ _ D rfl hD (by omega)
      have h21b:=fun b0 b1 b2 b3=>q21m plc (o:=D) (L:=D.length) (i:=i) rfl (r21 D (by omega) (fun j hj=>by rw[hDg j hj];congr 1;omega)) b0 b1 b2 b3
      simp +contextual (disch:=omega) only[Tryz.f6,dd6,go_sem,simprocAttr,mu6,↓zAD,↓zAC,↓zAB,↓zAA,zDx,zDX,zDW,zDw,zDy,h29,h25,h12,h19,hnp,hpl,hpok,htk,h20,h21,h30,hz,htt,hdrop,hA,hB,h21b,h31,w1,w2,w3,beq_self_eq_true,Bool.true_beq,Bool.false_beq,Nat.sub_zero]
      exact⟨(by unfold dOk;kernel_rfl),by simp,by rw[Bool.or_eq_true];exact .inl (by kernel_rfl),_,rfl⟩
    ·have hA:∀ b0 b1 b2:MB,evAppend Tryz.prog [b0,b1,b2,.row 1 (Z.map I) 0] 22 22 (.sl true []) (.ms 3 1 (n+i) 0 i)=some (.ms 4 1 i 0 i,[b0,b1,b2,.row 1 (Z.map I) 0,.row 1 ((Z.take i).map I) 0]):=fun b0 b1 b2=>by
      have:=app0 [b0,b1,b2,.row 1 (Z.map I) 0] (.ms 3 1 (n+i) 0 i) (Z.take i) (hsZ b0 b1 b2) (fun e=>hi0 (by rw[e]at hZi;simpa using hZi.symm)) (by omega)
      rw[hZi]at this
      exact this
     generalize Z.take i=Y at *
     have hB:∀ b0 b1 b2 b3:MB,evAppend Tryz.prog [b0,b1,b2,b3,.row 1 (Y.map I) 0] 22 22 (.ms 4 1 i 0 i) (.sl false (D.map I))=some (.ms 4 1 (i+D.length) 0 (i+D.length),[b0,b1,b2,b3,.row 1 ((Y++D).map I) 0]):=fun b0 b1 b2 b3=>by
      have hs:srcElems Tryz.prog [b0,b1,b2,b3,.row 1 (Y.map I) 0] 3 (.sl false (D.map I))=some (D.map I):=rfl
      cases hDD:D with
      | nil=>
        unfold evAppend
        have e1:tyElem Tryz.prog 22=some 3:=by kernel_rfl
        have e2:tySz Tryz.prog 3=some 1:=by kernel_rfl
        have e3:tyBytes Tryz.prog 3=some 8:=by kernel_rfl
        have e4:tyZero Tryz.prog 3=some (I 0):=by kernel_rfl
        have e5:tyNotInt Tryz.prog 22=true:=by kernel_rfl
        simp[e1,e2,e3,e4,e5,srcElems,elemsOf,getRow,hZi,AV.cells]
      | cons y ys=>
        rw[← hDD]
        rw[zBI (e:=3) (by kernel_rfl) (by kernel_rfl) (k:=1) (by kernel_rfl) (by_:=8) (by kernel_rfl) (ze:=I 0) (by kernel_rfl) rfl (by omega) hs (by simp[AV.cells,AV.ok]) (els:=Y.map I) (z:=0) rfl (by simp[hZi]) (Nat.zero_le _) (zAX (by simp;omega) (by omega))]
        simp
     have h21b:=fun b0 b1 b2 b3=>q21m plc (o:=Y++D) (L:=i+D.length) (i:=i) (by simp[hZi]) (r21 (Y++D) (by simp[hZi];omega) (fun j hj=>by rw[hDg j hj,List.getElem?_append_right (by omega),hZi])) b0 b1 b2 b3
     generalize Y++D=o at *
     simp +contextual (disch:=omega) only[Tryz.f6,dd6,go_sem,simprocAttr,mu6,↓zAD,↓zAC,↓zAB,↓zAA,zDx,zDX,zDW,zDw,zDy,h29,h25,h12,h19,hnp,hpl,hpok,htk,h20,h21,h30,hz,htt,hdrop,hA,hB,h21b,h31,w1,w2,w3,beq_self_eq_true,Bool.true_beq,Bool.false_beq,Nat.sub_zero]
     exact⟨(by unfold dOk;kernel_rfl),by simp,by rw[Bool.or_eq_true];exact .inl (by kernel_rfl),_,rfl⟩
 ·have ha10:acceptG g=10:=by
   unfold acceptG at hac ⊢
   rw[if_neg (by simp[hv])]at hac ⊢
   split at hac
   ·rename_i h5;rw[if_pos h5]
   ·exact absurd rfl hac
  have h12:=fun H=>zGs 12 (by decide) (by decide) (zOA g hgb hac H)
  rw[ha10]at h12
  simp +contextual (disch:=omega) only[Tryz.f6,dd6,go_sem,simprocAttr,evAppend,mu6,↓zAD,↓zAC,↓zAB,↓zAA,zDx,zDX,zDW,zDw,zDy,h29,h25,h12,h19,hnp,hpl,hpok,htk]
  exact⟨_,rfl⟩
end
end Go.Ev
