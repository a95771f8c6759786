/- What functions of the program compute; no further conditions. -/
import Derived.Test.YtkolcijbdendhaaGreatW24
set_option linter.unusedVariables false
set_option linter.unusedSimpArgs false
open List (all_append all_eq_true append_assoc append_nil cons_append getElem?_eq_getElem length_append map_cons map_replicate map_set map_take mem_cons mem_map nil_append take_of_length_le)
open Go.Proofs Go.RowKit Go.IntWalk
set_option maxHeartbeats 8000000
set_option maxRecDepth 100000
namespace Go.Ev
attribute [local go_sem] AV.cells Ax BB bndO bnd evEq eqCells not_false_eq_true not_true_eq_false toList_some Array.size_empty length_append List.map_append tySzE List.head?_drop Nat.mul_one Ak At Ag Al Am Ad
section
attribute [local go_sem] evAppend
theorem BC (b0 x x' a a' b:MB) (K:List MB):sameAt (K.length+1+1+1) (b0::x::(K++[a]++[b])) (b0::x'::(K++[a']++[b]))=true:=by
 have h:∀ x a,(b0::x::(K++[a]++[b]))[K.length+1+1+1]?=some b:=fun x a=>by
  rw[List.getElem?_cons_succ,List.getElem?_cons_succ];exact BN K a b
 unfold sameAt;rw[h,h];exact MB.beq_refl b
section
variable {l:List Int} (hl:∀ x∈l,In64 x) {uses:Int}{d:Nat} (hd:d<=5) (ht:TreeLaw l uses d) (hb:TreeB l uses d)
include hb
theorem M4 {s:MS} (hp:Pre (5+3*mA1 d) (3*mS1 d) s):Post (5+3*mA1 d) (3*mS1 d) s (repF l uses (treeF l uses d) s).2:=by
 have hA:=BA d;have hS:=A9 d;unfold repF;simp only;have p1:=Af l 12 s hp.c;have p2:=p1.trans (Af l 2 _ p1.c);obtain⟨s3,e3,p3⟩:∃ s3,(if 0<andI uses 8 then(if(nx l 4 (nx l 2 (nx l 12 s).2).2).1=0 then 2 else(nx l 2 (nx l 12 s).2).1,(nx l 4 (nx l 2 (nx l 12 s).2).2).2) else nx l 2 (nx l 12 s).2).2=s3/\Post (1+1+1) (0+0+0) s s3:=by
  split
  ·exact⟨_,rfl,p2.trans (Af l 4 _ p2.c)⟩
  ·exact⟨_,rfl,p2.up (by omega) (by omega)⟩
 rw[e3];have q:=hb s3 (hp.step p3 (by omega) (by omega));have r:=p3.trans q;split
 ·exact(r.trans (Dl l _ r.c)).up (by omega) (by omega)
 ·exact r.up (by omega) (by omega)
theorem Nv {s:MS} (hp:Pre (5+3*mA1 d) (3*mS1 d) s):Post (5+3*mA1 d) (3*mS1 d) s (capF l (treeF l uses d) s).2:=by
 have hA:=BA d;have hS:=A9 d;have hc:=hp.c;unfold capF;simp only;obtain⟨b,s2,e2,p2,c2,hbb⟩:∃(b:Bool) (s2:MS),(if 4<s.caps+1 then(true,s) else if 0<s.caps then(decide ((nx l 9 s).1=0),(nx l 9 s).2) else(false,s))=(b,s2)/\Post 1 0 s s2/\s2.caps=s.caps/\(b=false->¬ 4<s.caps+1):=by
  have p0:Post 1 0 s s:=⟨by omega,by omega,hc⟩;split
  ·exact⟨_,_,rfl,p0,rfl,fun h=>by cases h⟩
  ·rename_i h4;split
   ·exact⟨_,_,rfl,Af l 9 s hc,rfl,fun _=>h4⟩
   ·exact⟨_,_,rfl,p0,rfl,fun _=>h4⟩
 rw[e2];simp only;have hm1:0<max 1 s2.caps:=by omega
 have hv:=BJ l hm1 s2;have p3:=p2.trans (Af l (max 1 s2.caps) s2 p2.c);have c3:(nx l (max 1 s2.caps) s2).2.caps=s2.caps:=rfl;obtain⟨m,s4,e4,p4,c4,hm⟩:∃(m:Int) (s4:MS),(if b=true then(1+(nx l (max 1 s2.caps) s2).1,(nx l (max 1 s2.caps) s2).2) else(s.caps+1,s2))=(m,s4)/\Post (1+1) (0+0) s s4/\s4.caps=s.caps/\(0<=m/\m<=4):=by
  cases b with
  | true=>exact⟨_,_,if_pos rfl,p3,by rw[c3,c2],by omega⟩
  | false=>
    have:=hbb rfl;exact⟨_,_,if_neg Bool.false_ne_true,p2.up (by omega) (by omega),c2,by omega⟩
 rw[e4];simp only;have p5:Post 2 0 s ⟨s4.at_,s4.left,max s4.caps m⟩:=⟨by have:=p4.a;simp only;omega,by have:=p4.l;simp only;omega,by simp only;omega⟩;have q:=hb _ (hp.step p5 (by omega) (by omega));exact(p5.trans q).up (by omega) (by omega)
theorem Mu {s:MS} (k:Int) (hp:Pre (8+3*mA1 d) (3*mS1 d) s):Post (8+3*mA1 d) (3*mS1 d) s (treeStep l uses (treeF l uses d) k s).2:=by
 have hA:=BA d;have hS:=A9 d;have hp5:Pre (5+3*mA1 d) (3*mS1 d) s:=⟨⟨hp.a.1,by have:=hp.a;omega⟩,hp.l,hp.c⟩;have hlf:Post 1 0 s (leafF l k s).2:=by
  unfold leafF;split
  ·exact⟨by simp only;omega,by simp only;omega,hp.c⟩
  ·exact Dl l s hp.c
 have n6:=Af l 6 s hp.c;have n3:=Af l 3 s hp.c;have n32:=n3.trans (Af l 2 _ n3.c);have nc:=Af l s.caps s hp.c;have hA2:Pre (mA1 d) (mS1 d) s:=hp.step (x:=0) (y:=0) ⟨by omega,by omega,hp.c⟩ (by omega) (by omega);unfold treeStep;split
 ·exact hlf.up (by omega) (by omega)
 split
 ·exact(Gu hb hp5).up (by omega) (by omega)
 split
 ·exact(Gu hb hp5).up (by omega) (by omega)
 split
 ·exact(M4 hb hp5).up (by omega) (by omega)
 split
 ·exact(Nv hb hp5).up (by omega) (by omega)
 split
 ·exact n6.up (by omega) (by omega)
 split
 ·exact(n32.trans (hb _ (hp.step n32 (by omega) (by omega)))).up (by omega) (by omega)
 split
 ·exact(hb _ hA2).up (by omega) (by omega)
 split
 ·exact nc.up (by omega) (by omega)
 split
 ·have y:=nc.trans (hb _ (hp.step nc (by omega) (by omega)));exact(y.trans (hb _ (hp.step y (by omega) (by omega)))).up (by omega) (by omega)
 ·exact(Dl l s hp.c).up (by omega) (by omega)
theorem K9:TreeB l uses (d+1):=by
 intro s hp;have hA:=BA d;have hS:=A9 d;simp only[mA1,mS1]at hp |-;have hc:=hp.c;have p0:Post 0 1 s ⟨s.at_,s.left-1,s.caps⟩:=⟨by simp only;omega,by simp only;omega,hc⟩;have p1:=p0.trans (Af l 20 _ p0.c);exact(p1.trans (Mu hb _ (hp.step p1 (by omega) (by omega)))).up (by omega) (by omega)
end
theorem K8 {l:List Int}{uses:Int}:TreeB l uses 0:=by
 intro s hp;have hc:=hp.c;have p0:Post 0 1 s ⟨s.at_,s.left-1,s.caps⟩:=⟨by simp only;omega,by simp only;omega,hc⟩;have p1:=p0.trans (Af l 20 _ p0.c);simp only[treeF,mA1,mS1];unfold leafF;split
 ·exact p1.up (by omega) (by omega)
 ·exact(p1.trans (Dl l _ p1.c)).up (by omega) (by omega)
theorem SK {l:List Int} (hl:∀ x∈l,In64 x) {uses:Int} (s:MS) (b0:MB) (K:List MB) (hp:Pre (mA1 0) (mS1 0) s) (k:Int) (s1:MS) (hk:nx l 20 ⟨s.at_,s.left-1,s.caps⟩=(k,s1)) :
  call Pg pol1 22 [.rf 1 1 0 0,I ((0:Nat):Int)] (mH b0 l uses s K)=some (reAV (leafF l k s1).1,mH b0 l uses (leafF l k s1).2 K):=by
 simp only[mA1,mS1]at hp;have hq:=BJ l (n:=20) (by omega) ⟨s.at_,s.left-1,s.caps⟩;have p1:=Af l 20 ⟨s.at_,s.left-1,s.caps⟩ hp.c;obtain⟨pa,pl,pc⟩:=hp;have h97:=fun K=>f97 l hl uses 20 (by omega) ⟨s.at_,s.left-1,s.caps⟩ ⟨pa.1,by simp only;omega⟩ b0 K;rw[hk]at hq p1 h97;clear hk;simp only at hq p1 h97;obtain⟨qa,ql,qc⟩:=p1;simp only at qa ql;have hw:IntKind.i64.wrap (s.left-1)=s.left-1:=i64_in _ ⟨by omega,by omega⟩;have h98:=fun K=>f98 l hl uses s1 ⟨by omega,by omega⟩ b0 K;generalize hY:setM l s1=Y at *;have fr:frzArgs pol1 22 0 [.rf 1 1 0 0,I ((0:Nat):Int)] (mH b0 l uses s K)=some ([.rf 1 1 0 0,I ((0:Nat):Int)],mH b0 l uses s K):=AS _ _ _ rfl;by_cases hk0:k=0
 ·subst hk0;rw[show leafF l 0 s1=(.mk 0 [] [] 0 0 0 0 false,s1) from if_pos rfl];refine AX (pol:=pol1) Tryz.func22 rfl rfl rfl rfl fr ?_
  all_goals simp +contextual (disch:=omega) only[Tryz.f22,dd22,go_sem,simprocAttr,mu22,↓AD,↓AC,↓AB,↓AA,h97,hw,Au,Aq,BT,BN,BS,BR,BC,A8,A5,Az,A4,A0,A1,A3,AI,AN,AJ,Ar,append_nil]
  all_goals repeat' (first|intro _|apply And.intro|(unfold dOk;kernel_rfl)|exact St.beq_refl _|exact AQ|(show altO _ _ _ _=true;kernel_rfl)|(show (_||_)=true;kernel_rfl)|(show (_&&_)=true;kernel_rfl))
  all_goals exact Bi (by rfl) (by rfl) s s1 (ex1 ..) true true 0 [] [] 0 0 0 0 false
 ·rw[show leafF l k s1=Y from(if_neg hk0).trans hY];obtain⟨Y1,Y2⟩:=Y;refine AX (pol:=pol1) Tryz.func22 rfl rfl rfl rfl fr ?_
  all_goals simp +contextual (disch:=omega) only[Tryz.f22,dd22,go_sem,simprocAttr,mu22,↓AD,↓AC,↓AB,↓AA,h97,hw,Au,Aq,BT,BN,BS,BR,BC,A8,A5,Az,A4,A0,A1,A3,AI,AN,AJ,Ar,append_nil,h98]
  all_goals repeat' (first|intro _|apply And.intro|(unfold dOk;kernel_rfl)|exact St.beq_refl _|exact AQ|(show altO _ _ _ _=true;kernel_rfl)|(show (_||_)=true;kernel_rfl)|(show (_&&_)=true;kernel_rfl))
  all_goals exact DH rfl rfl s _ (ex1 ..) (fun H=>Ab H (BG _)) (BG _)
theorem SJ {l:List Int} (hl:∀ x∈l,In64 x) {uses:Int}{d:Nat} (hd:d<=5) (s:MS) (b0:MB) (K:List MB) (hp:Pre (mA1 (d+1)) (mS1 (d+1)) s) (k:Int) (s1:MS) (hk:nx l 20 ⟨s.at_,s.left-1,s.caps⟩=(k,s1)) (hc:s1.left<3∨(l.length:Int)<s1.at_) :
  call Pg pol1 22 [.rf 1 1 0 0,I (((d+1):Nat):Int)] (mH b0 l uses s K)=some (reAV (leafF l k s1).1,mH b0 l uses (leafF l k s1).2 K):=by
 simp only[mA1,mS1]at hp;have hA:=BA d;have hS:=A9 d;have hq:=BJ l (n:=20) (by omega) ⟨s.at_,s.left-1,s.caps⟩;have p1:=Af l 20 ⟨s.at_,s.left-1,s.caps⟩ hp.c;obtain⟨pa,pl,pc⟩:=hp;have h97:=fun K=>f97 l hl uses 20 (by omega) ⟨s.at_,s.left-1,s.caps⟩ ⟨pa.1,by simp only;omega⟩ b0 K;rw[hk]at hq p1 h97;clear hk;simp only at hq p1 h97;obtain⟨qa,ql,qc⟩:=p1;simp only at qa ql;have hw:IntKind.i64.wrap (s.left-1)=s.left-1:=i64_in _ ⟨by omega,by omega⟩;have hc':s1.left<3∨(¬ s1.left<3/\(l.length:Int)<s1.at_):=by omega
 have h98:=fun K=>f98 l hl uses s1 ⟨by omega,by omega⟩ b0 K;generalize hY:setM l s1=Y at *;have fr:frzArgs pol1 22 0 [.rf 1 1 0 0,I (((d+1):Nat):Int)] (mH b0 l uses s K)=some ([.rf 1 1 0 0,I (((d+1):Nat):Int)],mH b0 l uses s K):=AS _ _ _ rfl;by_cases hk0:k=0
 ·subst hk0;rw[show leafF l 0 s1=(.mk 0 [] [] 0 0 0 0 false,s1) from if_pos rfl];refine AX (pol:=pol1) Tryz.func22 rfl rfl rfl rfl fr ?_;rcases hc' with hc1|⟨hc1,hc2⟩
  all_goals simp +contextual (disch:=omega) only[Tryz.f22,dd22,go_sem,simprocAttr,mu22,↓AD,↓AC,↓AB,↓AA,h97,hw,Au,Aq,BT,BN,BS,BR,BC,A8,A5,Az,A4,A0,A1,A3,AI,AN,AJ,Ar,append_nil]
  all_goals repeat' (first|intro _|apply And.intro|(unfold dOk;kernel_rfl)|exact St.beq_refl _|exact AQ|(show altO _ _ _ _=true;kernel_rfl)|(show (_||_)=true;kernel_rfl)|(show (_&&_)=true;kernel_rfl))
  all_goals exact Bi (by rfl) (by rfl) s s1 (ex1 ..) true true 0 [] [] 0 0 0 0 false
 ·rw[show leafF l k s1=Y from(if_neg hk0).trans hY];obtain⟨Y1,Y2⟩:=Y;refine AX (pol:=pol1) Tryz.func22 rfl rfl rfl rfl fr ?_;rcases hc' with hc1|⟨hc1,hc2⟩
  all_goals simp +contextual (disch:=omega) only[Tryz.f22,dd22,go_sem,simprocAttr,mu22,↓AD,↓AC,↓AB,↓AA,h97,hw,Au,Aq,BT,BN,BS,BR,BC,A8,A5,Az,A4,A0,A1,A3,AI,AN,AJ,Ar,append_nil,h98]
  all_goals repeat' (first|intro _|apply And.intro|(unfold dOk;kernel_rfl)|exact St.beq_refl _|exact AQ|(show altO _ _ _ _=true;kernel_rfl)|(show (_||_)=true;kernel_rfl)|(show (_&&_)=true;kernel_rfl))
  all_goals exact DH rfl rfl s _ (ex1 ..) (fun H=>Ab H (BG _)) (BG _)
theorem RQ {l:List Int} (hl:∀ x∈l,In64 x) {uses:Int}{d:Nat} (hd:d<=5) (ht:TreeLaw l uses d) (hb:TreeB l uses d) (s:MS) (b0:MB) (K:List MB) (hp:Pre (mA1 (d+1)) (mS1 (d+1)) s) (k:Int) (s1:MS) (hk:nx l 20 ⟨s.at_,s.left-1,s.caps⟩=(k,s1)) (hn1:¬ s1.left<3) (hn2:¬ (l.length:Int)<s1.at_) (h:k<5) :
  call Pg pol1 22 [.rf 1 1 0 0,I ((d+1:Nat):Int)] (mH b0 l uses s K)=some (reAV ((.mk 2 [] (kidsF l (treeF l uses d) s1).1 0 0 0 0 false,(kidsF l (treeF l uses d) s1).2):Re×MS).1,mH b0 l uses ((.mk 2 [] (kidsF l (treeF l uses d) s1).1 0 0 0 0 false,(kidsF l (treeF l uses d) s1).2):Re×MS).2 K):=by
 simp only[mA1,mS1]at hp;have hA:=BA d;have hS:=A9 d;have hq:=BJ l (n:=20) (by omega) ⟨s.at_,s.left-1,s.caps⟩;have p1:=Af l 20 ⟨s.at_,s.left-1,s.caps⟩ hp.c;obtain⟨pa,pl,pc⟩:=hp;have h97:=fun K=>f97 l hl uses 20 (by omega) ⟨s.at_,s.left-1,s.caps⟩ ⟨pa.1,by simp only;omega⟩ b0 K;rw[hk]at hq p1 h97;clear hk;simp only at hq p1 h97;obtain⟨qa,ql,qc⟩:=p1;simp only at qa ql;have hw:IntKind.i64.wrap (s.left-1)=s.left-1:=i64_in _ ⟨by omega,by omega⟩;have hp5:Pre (5+3*mA1 d) (3*mS1 d) s1:=⟨⟨by omega,by omega⟩,⟨by omega,by omega⟩,qc⟩;have h99:=fun K=>f99 hl hd ht hb s1 hp5 b0 K;generalize kidsF l (treeF l uses d) s1=Y at *;obtain⟨Y1,Y2⟩:=Y;simp only at h99 |-;have fr:frzArgs pol1 22 0 [.rf 1 1 0 0,I ((d+1:Nat):Int)] (mH b0 l uses s K)=some ([.rf 1 1 0 0,I ((d+1:Nat):Int)],mH b0 l uses s K):=AS _ _ _ rfl;refine AX (pol:=pol1) Tryz.func22 rfl rfl rfl rfl fr ?_;simp +contextual (disch:=omega) only[Tryz.f22,dd22,go_sem,simprocAttr,mu22,↓AD,↓AC,↓AB,↓AA,h97,hw,Au,Aq,BT,BN,BS,BR,BC,A8,A5,Az,A4,A0,A1,A3,AI,AN,AJ,Ar,append_nil,h99];repeat' (first|intro _|apply And.intro|(unfold dOk;kernel_rfl)|exact St.beq_refl _|exact AQ|(show altO _ _ _ _=true;kernel_rfl)|(show (_||_)=true;kernel_rfl)|(show (_&&_)=true;kernel_rfl))
 exact Bi (by rfl) (by rfl) s _ (ex1 ..) true false 2 [] Y1 0 0 0 0 false
theorem RR {l:List Int} (hl:∀ x∈l,In64 x) {uses:Int}{d:Nat} (hd:d<=5) (ht:TreeLaw l uses d) (hb:TreeB l uses d) (s:MS) (b0:MB) (K:List MB) (hp:Pre (mA1 (d+1)) (mS1 (d+1)) s) (k:Int) (s1:MS) (hk:nx l 20 ⟨s.at_,s.left-1,s.caps⟩=(k,s1)) (hn1:¬ s1.left<3) (hn2:¬ (l.length:Int)<s1.at_) (h:5<=k) (h2:k<8) :
  call Pg pol1 22 [.rf 1 1 0 0,I ((d+1:Nat):Int)] (mH b0 l uses s K)=some (reAV ((.mk 3 [] (kidsF l (treeF l uses d) s1).1 0 0 0 0 false,(kidsF l (treeF l uses d) s1).2):Re×MS).1,mH b0 l uses ((.mk 3 [] (kidsF l (treeF l uses d) s1).1 0 0 0 0 false,(kidsF l (treeF l uses d) s1).2):Re×MS).2 K):=by
 simp only[mA1,mS1]at hp;have hA:=BA d;have hS:=A9 d;have hq:=BJ l (n:=20) (by omega) ⟨s.at_,s.left-1,s.caps⟩;have p1:=Af l 20 ⟨s.at_,s.left-1,s.caps⟩ hp.c;obtain⟨pa,pl,pc⟩:=hp;have h97:=fun K=>f97 l hl uses 20 (by omega) ⟨s.at_,s.left-1,s.caps⟩ ⟨pa.1,by simp only;omega⟩ b0 K;rw[hk]at hq p1 h97;clear hk;simp only at hq p1 h97;obtain⟨qa,ql,qc⟩:=p1;simp only at qa ql;have hw:IntKind.i64.wrap (s.left-1)=s.left-1:=i64_in _ ⟨by omega,by omega⟩;have hp5:Pre (5+3*mA1 d) (3*mS1 d) s1:=⟨⟨by omega,by omega⟩,⟨by omega,by omega⟩,qc⟩;have h99:=fun K=>f99 hl hd ht hb s1 hp5 b0 K;generalize kidsF l (treeF l uses d) s1=Y at *;obtain⟨Y1,Y2⟩:=Y;simp only at h99 |-;have fr:frzArgs pol1 22 0 [.rf 1 1 0 0,I ((d+1:Nat):Int)] (mH b0 l uses s K)=some ([.rf 1 1 0 0,I ((d+1:Nat):Int)],mH b0 l uses s K):=AS _ _ _ rfl;refine AX (pol:=pol1) Tryz.func22 rfl rfl rfl rfl fr ?_;simp +contextual (disch:=omega) only[Tryz.f22,dd22,go_sem,simprocAttr,mu22,↓AD,↓AC,↓AB,↓AA,h97,hw,Au,Aq,BT,BN,BS,BR,BC,A8,A5,Az,A4,A0,A1,A3,AI,AN,AJ,Ar,append_nil,h99];repeat' (first|intro _|apply And.intro|(unfold dOk;kernel_rfl)|exact St.beq_refl _|exact AQ|(show altO _ _ _ _=true;kernel_rfl)|(show (_||_)=true;kernel_rfl)|(show (_&&_)=true;kernel_rfl))
 exact Bi (by rfl) (by rfl) s _ (ex1 ..) true false 3 [] Y1 0 0 0 0 false
theorem RO {l:List Int} (hl:∀ x∈l,In64 x) {uses:Int}{d:Nat} (hd:d<=5) (ht:TreeLaw l uses d) (hb:TreeB l uses d) (s:MS) (b0:MB) (K:List MB) (hp:Pre (mA1 (d+1)) (mS1 (d+1)) s) (k:Int) (s1:MS) (hk:nx l 20 ⟨s.at_,s.left-1,s.caps⟩=(k,s1)) (hn1:¬ s1.left<3) (hn2:¬ (l.length:Int)<s1.at_) (h:8<=k) (h2:k<12) :
  call Pg pol1 22 [.rf 1 1 0 0,I ((d+1:Nat):Int)] (mH b0 l uses s K)=some (reAV (repF l uses (treeF l uses d) s1).1,mH b0 l uses (repF l uses (treeF l uses d) s1).2 K):=by
 simp only[mA1,mS1]at hp;have hA:=BA d;have hS:=A9 d;have hq:=BJ l (n:=20) (by omega) ⟨s.at_,s.left-1,s.caps⟩;have p1:=Af l 20 ⟨s.at_,s.left-1,s.caps⟩ hp.c;obtain⟨pa,pl,pc⟩:=hp;have h97:=fun K=>f97 l hl uses 20 (by omega) ⟨s.at_,s.left-1,s.caps⟩ ⟨pa.1,by simp only;omega⟩ b0 K;rw[hk]at hq p1 h97;clear hk;simp only at hq p1 h97;obtain⟨qa,ql,qc⟩:=p1;simp only at qa ql;have hw:IntKind.i64.wrap (s.left-1)=s.left-1:=i64_in _ ⟨by omega,by omega⟩;have hp5:Pre (5+3*mA1 d) (3*mS1 d) s1:=⟨⟨by omega,by omega⟩,⟨by omega,by omega⟩,qc⟩;have h100:=fun K=>f100 hl hd ht hb s1 hp5 b0 K;generalize repF l uses (treeF l uses d) s1=Y at *;obtain⟨Y1,Y2⟩:=Y;simp only at h100 |-;have fr:frzArgs pol1 22 0 [.rf 1 1 0 0,I ((d+1:Nat):Int)] (mH b0 l uses s K)=some ([.rf 1 1 0 0,I ((d+1:Nat):Int)],mH b0 l uses s K):=AS _ _ _ rfl;refine AX (pol:=pol1) Tryz.func22 rfl rfl rfl rfl fr ?_;simp +contextual (disch:=omega) only[Tryz.f22,dd22,go_sem,simprocAttr,mu22,↓AD,↓AC,↓AB,↓AA,h97,hw,Au,Aq,BT,BN,BS,BR,BC,A8,A5,Az,A4,A0,A1,A3,AI,AN,AJ,Ar,append_nil,h100];repeat' (first|intro _|apply And.intro|(unfold dOk;kernel_rfl)|exact St.beq_refl _|exact AQ|(show altO _ _ _ _=true;kernel_rfl)|(show (_||_)=true;kernel_rfl)|(show (_&&_)=true;kernel_rfl))
 exact DH rfl rfl s _ (ex1 ..) (fun H=>Ab H (BG _)) (BG _)
theorem OG {l:List Int} (hl:∀ x∈l,In64 x) {uses:Int}{d:Nat} (hd:d<=5) (ht:TreeLaw l uses d) (hb:TreeB l uses d) (s:MS) (b0:MB) (K:List MB) (hp:Pre (mA1 (d+1)) (mS1 (d+1)) s) (k:Int) (s1:MS) (hk:nx l 20 ⟨s.at_,s.left-1,s.caps⟩=(k,s1)) (hn1:¬ s1.left<3) (hn2:¬ (l.length:Int)<s1.at_) (h:k=12) (u:0<andI uses 64) :
  call Pg pol1 22 [.rf 1 1 0 0,I ((d+1:Nat):Int)] (mH b0 l uses s K)=some (reAV (capF l (treeF l uses d) s1).1,mH b0 l uses (capF l (treeF l uses d) s1).2 K):=by
 simp only[mA1,mS1]at hp;have hA:=BA d;have hS:=A9 d;have hq:=BJ l (n:=20) (by omega) ⟨s.at_,s.left-1,s.caps⟩;have p1:=Af l 20 ⟨s.at_,s.left-1,s.caps⟩ hp.c;obtain⟨pa,pl,pc⟩:=hp;have h97:=fun K=>f97 l hl uses 20 (by omega) ⟨s.at_,s.left-1,s.caps⟩ ⟨pa.1,by simp only;omega⟩ b0 K;rw[hk]at hq p1 h97;clear hk;simp only at hq p1 h97;obtain⟨qa,ql,qc⟩:=p1;simp only at qa ql;have hw:IntKind.i64.wrap (s.left-1)=s.left-1:=i64_in _ ⟨by omega,by omega⟩;have hp5:Pre (5+3*mA1 d) (3*mS1 d) s1:=⟨⟨by omega,by omega⟩,⟨by omega,by omega⟩,qc⟩;subst h;have h101:=fun K=>f101 hl hd ht hb s1 hp5 b0 K;generalize capF l (treeF l uses d) s1=Y at *;obtain⟨Y1,Y2⟩:=Y;simp only at h101 |-;have fr:frzArgs pol1 22 0 [.rf 1 1 0 0,I ((d+1:Nat):Int)] (mH b0 l uses s K)=some ([.rf 1 1 0 0,I ((d+1:Nat):Int)],mH b0 l uses s K):=AS _ _ _ rfl;refine AX (pol:=pol1) Tryz.func22 rfl rfl rfl rfl fr ?_;simp +contextual (disch:=omega) only[Tryz.f22,dd22,go_sem,simprocAttr,mu22,↓AD,↓AC,↓AB,↓AA,h97,hw,Au,Aq,BT,BN,BS,BR,BC,A8,A5,Az,A4,A0,A1,A3,AI,AN,AJ,Ar,append_nil,h101];repeat' (first|intro _|apply And.intro|(unfold dOk;kernel_rfl)|exact St.beq_refl _|exact AQ|(show altO _ _ _ _=true;kernel_rfl)|(show (_||_)=true;kernel_rfl)|(show (_&&_)=true;kernel_rfl))
 exact DH rfl rfl s _ (ex1 ..) (fun H=>Ab H (BG _)) (BG _)
theorem OF {l:List Int} (hl:∀ x∈l,In64 x) {uses:Int}{d:Nat} (hd:d<=5) (ht:TreeLaw l uses d) (hb:TreeB l uses d) (s:MS) (b0:MB) (K:List MB) (hp:Pre (mA1 (d+1)) (mS1 (d+1)) s) (k:Int) (s1:MS) (hk:nx l 20 ⟨s.at_,s.left-1,s.caps⟩=(k,s1)) (hn1:¬ s1.left<3) (hn2:¬ (l.length:Int)<s1.at_) (h:k=13) (u:0<andI uses 64) :
  call Pg pol1 22 [.rf 1 1 0 0,I ((d+1:Nat):Int)] (mH b0 l uses s K)=some (reAV (capF l (treeF l uses d) s1).1,mH b0 l uses (capF l (treeF l uses d) s1).2 K):=by
 simp only[mA1,mS1]at hp;have hA:=BA d;have hS:=A9 d;have hq:=BJ l (n:=20) (by omega) ⟨s.at_,s.left-1,s.caps⟩;have p1:=Af l 20 ⟨s.at_,s.left-1,s.caps⟩ hp.c;obtain⟨pa,pl,pc⟩:=hp;have h97:=fun K=>f97 l hl uses 20 (by omega) ⟨s.at_,s.left-1,s.caps⟩ ⟨pa.1,by simp only;omega⟩ b0 K;rw[hk]at hq p1 h97;clear hk;simp only at hq p1 h97;obtain⟨qa,ql,qc⟩:=p1;simp only at qa ql;have hw:IntKind.i64.wrap (s.left-1)=s.left-1:=i64_in _ ⟨by omega,by omega⟩;have hp5:Pre (5+3*mA1 d) (3*mS1 d) s1:=⟨⟨by omega,by omega⟩,⟨by omega,by omega⟩,qc⟩;subst h;have h101:=fun K=>f101 hl hd ht hb s1 hp5 b0 K;generalize capF l (treeF l uses d) s1=Y at *;obtain⟨Y1,Y2⟩:=Y;simp only at h101 |-;have fr:frzArgs pol1 22 0 [.rf 1 1 0 0,I ((d+1:Nat):Int)] (mH b0 l uses s K)=some ([.rf 1 1 0 0,I ((d+1:Nat):Int)],mH b0 l uses s K):=AS _ _ _ rfl;refine AX (pol:=pol1) Tryz.func22 rfl rfl rfl rfl fr ?_;simp +contextual (disch:=omega) only[Tryz.f22,dd22,go_sem,simprocAttr,mu22,↓AD,↓AC,↓AB,↓AA,h97,hw,Au,Aq,BT,BN,BS,BR,BC,A8,A5,Az,A4,A0,A1,A3,AI,AN,AJ,Ar,append_nil,h101];repeat' (first|intro _|apply And.intro|(unfold dOk;kernel_rfl)|exact St.beq_refl _|exact AQ|(show altO _ _ _ _=true;kernel_rfl)|(show (_||_)=true;kernel_rfl)|(show (_&&_)=true;kernel_rfl))
 exact DH rfl rfl s _ (ex1 ..) (fun H=>Ab H (BG _)) (BG _)
theorem R4 {l:List Int} (hl:∀ x∈l,In64 x) {uses:Int}{d:Nat} (hd:d<=5) (ht:TreeLaw l uses d) (hb:TreeB l uses d) (s:MS) (b0:MB) (K:List MB) (hp:Pre (mA1 (d+1)) (mS1 (d+1)) s) (k:Int) (s1:MS) (hk:nx l 20 ⟨s.at_,s.left-1,s.caps⟩=(k,s1)) (hn1:¬ s1.left<3) (hn2:¬ (l.length:Int)<s1.at_) (h:k=14) (u:0<andI uses 16) :
  call Pg pol1 22 [.rf 1 1 0 0,I ((d+1:Nat):Int)] (mH b0 l uses s K)=some (reAV ((.mk 11 [] [] 0 0 0 (nx l 6 s1).1 false,(nx l 6 s1).2):Re×MS).1,mH b0 l uses ((.mk 11 [] [] 0 0 0 (nx l 6 s1).1 false,(nx l 6 s1).2):Re×MS).2 K):=by
 simp only[mA1,mS1]at hp;have hA:=BA d;have hS:=A9 d;have hq:=BJ l (n:=20) (by omega) ⟨s.at_,s.left-1,s.caps⟩;have p1:=Af l 20 ⟨s.at_,s.left-1,s.caps⟩ hp.c;obtain⟨pa,pl,pc⟩:=hp;have h97:=fun K=>f97 l hl uses 20 (by omega) ⟨s.at_,s.left-1,s.caps⟩ ⟨pa.1,by simp only;omega⟩ b0 K;rw[hk]at hq p1 h97;clear hk;simp only at hq p1 h97;obtain⟨qa,ql,qc⟩:=p1;simp only at qa ql;have hw:IntKind.i64.wrap (s.left-1)=s.left-1:=i64_in _ ⟨by omega,by omega⟩;have hp5:Pre (5+3*mA1 d) (3*mS1 d) s1:=⟨⟨by omega,by omega⟩,⟨by omega,by omega⟩,qc⟩;subst h;have h97b:=fun K=>f97 l hl uses 6 (by omega) s1 ⟨by omega,by omega⟩ b0 K;generalize nx l 6 s1=Y at *;obtain⟨Y1,Y2⟩:=Y;simp only at h97b |-;have fr:frzArgs pol1 22 0 [.rf 1 1 0 0,I ((d+1:Nat):Int)] (mH b0 l uses s K)=some ([.rf 1 1 0 0,I ((d+1:Nat):Int)],mH b0 l uses s K):=AS _ _ _ rfl;refine AX (pol:=pol1) Tryz.func22 rfl rfl rfl rfl fr ?_;simp +contextual (disch:=omega) only[Tryz.f22,dd22,go_sem,simprocAttr,mu22,↓AD,↓AC,↓AB,↓AA,h97,hw,Au,Aq,BT,BN,BS,BR,BC,A8,A5,Az,A4,A0,A1,A3,AI,AN,AJ,Ar,append_nil,h97b];repeat' (first|intro _|apply And.intro|(unfold dOk;kernel_rfl)|exact St.beq_refl _|exact AQ|(show altO _ _ _ _=true;kernel_rfl)|(show (_||_)=true;kernel_rfl)|(show (_&&_)=true;kernel_rfl))
 exact Bi (by rfl) (by rfl) s _ (ex1 ..) true true 11 [] [] 0 0 0 Y1 false
theorem PZ {l:List Int} (hl:∀ x∈l,In64 x) {uses:Int}{d:Nat} (hd:d<=5) (ht:TreeLaw l uses d) (hb:TreeB l uses d) (s:MS) (b0:MB) (K:List MB) (hp:Pre (mA1 (d+1)) (mS1 (d+1)) s) (k:Int) (s1:MS) (hk:nx l 20 ⟨s.at_,s.left-1,s.caps⟩=(k,s1)) (hn1:¬ s1.left<3) (hn2:¬ (l.length:Int)<s1.at_) (h:k=15) (u:0<andI uses 4) :
  call Pg pol1 22 [.rf 1 1 0 0,I ((d+1:Nat):Int)] (mH b0 l uses s K)=some (reAV ((.mk (7+(nx l 2 (nx l 3 s1).2).1) [] [(treeF l uses d (nx l 2 (nx l 3 s1).2).2).1] 0 0 0 0 ((nx l 3 s1).1==0),(treeF l uses d (nx l 2 (nx l 3 s1).2).2).2):Re×MS).1,mH b0 l uses ((.mk (7+(nx l 2 (nx l 3 s1).2).1) [] [(treeF l uses d (nx l 2 (nx l 3 s1).2).2).1] 0 0 0 0 ((nx l 3 s1).1==0),(treeF l uses d (nx l 2 (nx l 3 s1).2).2).2):Re×MS).2 K):=by
 simp only[mA1,mS1]at hp;have hA:=BA d;have hS:=A9 d;have hq:=BJ l (n:=20) (by omega) ⟨s.at_,s.left-1,s.caps⟩;have p1:=Af l 20 ⟨s.at_,s.left-1,s.caps⟩ hp.c;obtain⟨pa,pl,pc⟩:=hp;have h97:=fun K=>f97 l hl uses 20 (by omega) ⟨s.at_,s.left-1,s.caps⟩ ⟨pa.1,by simp only;omega⟩ b0 K;rw[hk]at hq p1 h97;clear hk;simp only at hq p1 h97;obtain⟨qa,ql,qc⟩:=p1;simp only at qa ql;have hw:IntKind.i64.wrap (s.left-1)=s.left-1:=i64_in _ ⟨by omega,by omega⟩;have hp5:Pre (5+3*mA1 d) (3*mS1 d) s1:=⟨⟨by omega,by omega⟩,⟨by omega,by omega⟩,qc⟩;subst h;have h97b:=fun K=>f97 l hl uses 3 (by omega) s1 ⟨by omega,by omega⟩ b0 K;have r1:=Af l 3 s1 qc;generalize nx l 3 s1=Y at *;obtain⟨x,s2⟩:=Y;simp only at h97b r1 |-;have h97c:=fun K=>f97 l hl uses 2 (by omega) s2 ⟨by have:=r1.a;omega,by have:=r1.a;omega⟩ b0 K;have hv:=BJ l (n:=2) (by omega) s2;have r2:=r1.trans (Af l 2 s2 r1.c);generalize nx l 2 s2=Y at *;obtain⟨y,s3⟩:=Y;simp only at h97c hv r2 |-;have h44:=fun K=>ht s3 b0 K (hp5.step r2 (by omega) (by omega));generalize treeF l uses d s3=Y at *;obtain⟨Y1,Y2⟩:=Y;simp only at h44 |-;have fr:frzArgs pol1 22 0 [.rf 1 1 0 0,I ((d+1:Nat):Int)] (mH b0 l uses s K)=some ([.rf 1 1 0 0,I ((d+1:Nat):Int)],mH b0 l uses s K):=AS _ _ _ rfl;refine AX (pol:=pol1) Tryz.func22 rfl rfl rfl rfl fr ?_;simp +contextual (disch:=omega) only[Tryz.f22,dd22,go_sem,simprocAttr,mu22,↓AD,↓AC,↓AB,↓AA,h97,hw,Au,Aq,BT,BN,BS,BR,BC,A8,A5,Az,A4,A0,A1,A3,AI,AN,AJ,Ar,append_nil,h97b,h97c,h44];repeat' (first|intro _|apply And.intro|(unfold dOk;kernel_rfl)|exact St.beq_refl _|exact AQ|(show altO _ _ _ _=true;kernel_rfl)|(show (_||_)=true;kernel_rfl)|(show (_&&_)=true;kernel_rfl))
 exact Bi (by rfl) (by rfl) s _ (ex1 ..) true true (7+y) [] [Y1] 0 0 0 0 (x==0)
theorem Pc {l:List Int} (hl:∀ x∈l,In64 x) {uses:Int}{d:Nat} (hd:d<=5) (ht:TreeLaw l uses d) (hb:TreeB l uses d) (s:MS) (b0:MB) (K:List MB) (hp:Pre (mA1 (d+1)) (mS1 (d+1)) s) (k:Int) (s1:MS) (hk:nx l 20 ⟨s.at_,s.left-1,s.caps⟩=(k,s1)) (hn1:¬ s1.left<3) (hn2:¬ (l.length:Int)<s1.at_) (h:k=16) (u:0<andI uses 8) :
  call Pg pol1 22 [.rf 1 1 0 0,I ((d+1:Nat):Int)] (mH b0 l uses s K)=some (reAV ((.mk 9 [] [(treeF l uses d s1).1] 0 0 0 0 false,(treeF l uses d s1).2):Re×MS).1,mH b0 l uses ((.mk 9 [] [(treeF l uses d s1).1] 0 0 0 0 false,(treeF l uses d s1).2):Re×MS).2 K):=by
 simp only[mA1,mS1]at hp;have hA:=BA d;have hS:=A9 d;have hq:=BJ l (n:=20) (by omega) ⟨s.at_,s.left-1,s.caps⟩;have p1:=Af l 20 ⟨s.at_,s.left-1,s.caps⟩ hp.c;obtain⟨pa,pl,pc⟩:=hp;have h97:=fun K=>f97 l hl uses 20 (by omega) ⟨s.at_,s.left-1,s.caps⟩ ⟨pa.1,by simp only;omega⟩ b0 K;rw[hk]at hq p1 h97;clear hk;simp only at hq p1 h97;obtain⟨qa,ql,qc⟩:=p1;simp only at qa ql;have hw:IntKind.i64.wrap (s.left-1)=s.left-1:=i64_in _ ⟨by omega,by omega⟩;have hp5:Pre (5+3*mA1 d) (3*mS1 d) s1:=⟨⟨by omega,by omega⟩,⟨by omega,by omega⟩,qc⟩;subst h;have h44:=fun K=>ht s1 b0 K ⟨⟨by omega,by omega⟩,⟨by omega,by omega⟩,qc⟩;generalize treeF l uses d s1=Y at *;obtain⟨Y1,Y2⟩:=Y;simp only at h44 |-;have fr:frzArgs pol1 22 0 [.rf 1 1 0 0,I ((d+1:Nat):Int)] (mH b0 l uses s K)=some ([.rf 1 1 0 0,I ((d+1:Nat):Int)],mH b0 l uses s K):=AS _ _ _ rfl;refine AX (pol:=pol1) Tryz.func22 rfl rfl rfl rfl fr ?_;simp +contextual (disch:=omega) only[Tryz.f22,dd22,go_sem,simprocAttr,mu22,↓AD,↓AC,↓AB,↓AA,h97,hw,Au,Aq,BT,BN,BS,BR,BC,A8,A5,Az,A4,A0,A1,A3,AI,AN,AJ,Ar,append_nil,h44];repeat' (first|intro _|apply And.intro|(unfold dOk;kernel_rfl)|exact St.beq_refl _|exact AQ|(show altO _ _ _ _=true;kernel_rfl)|(show (_||_)=true;kernel_rfl)|(show (_&&_)=true;kernel_rfl))
 exact Bi (by rfl) (by rfl) s _ (ex1 ..) true true 9 [] [Y1] 0 0 0 0 false
theorem RP {l:List Int} (hl:∀ x∈l,In64 x) {uses:Int}{d:Nat} (hd:d<=5) (ht:TreeLaw l uses d) (hb:TreeB l uses d) (s:MS) (b0:MB) (K:List MB) (hp:Pre (mA1 (d+1)) (mS1 (d+1)) s) (k:Int) (s1:MS) (hk:nx l 20 ⟨s.at_,s.left-1,s.caps⟩=(k,s1)) (hn1:¬ s1.left<3) (hn2:¬ (l.length:Int)<s1.at_) (h:k=17) (u:0<andI uses 1) (c:0<s1.caps) :
  call Pg pol1 22 [.rf 1 1 0 0,I ((d+1:Nat):Int)] (mH b0 l uses s K)=some (reAV ((.mk 6 [] [] 0 0 0 (1+(nx l s1.caps s1).1) false,(nx l s1.caps s1).2):Re×MS).1,mH b0 l uses ((.mk 6 [] [] 0 0 0 (1+(nx l s1.caps s1).1) false,(nx l s1.caps s1).2):Re×MS).2 K):=by
 simp only[mA1,mS1]at hp;have hA:=BA d;have hS:=A9 d;have hq:=BJ l (n:=20) (by omega) ⟨s.at_,s.left-1,s.caps⟩;have p1:=Af l 20 ⟨s.at_,s.left-1,s.caps⟩ hp.c;obtain⟨pa,pl,pc⟩:=hp;have h97:=fun K=>f97 l hl uses 20 (by omega) ⟨s.at_,s.left-1,s.caps⟩ ⟨pa.1,by simp only;omega⟩ b0 K;rw[hk]at hq p1 h97;clear hk;simp only at hq p1 h97;obtain⟨qa,ql,qc⟩:=p1;simp only at qa ql;have hw:IntKind.i64.wrap (s.left-1)=s.left-1:=i64_in _ ⟨by omega,by omega⟩;have hp5:Pre (5+3*mA1 d) (3*mS1 d) s1:=⟨⟨by omega,by omega⟩,⟨by omega,by omega⟩,qc⟩;subst h;have h97b:=fun K=>f97 l hl uses s1.caps (by omega) s1 ⟨by omega,by omega⟩ b0 K;have hv:=BJ l c s1;generalize nx l s1.caps s1=Y at *;obtain⟨Y1,Y2⟩:=Y;simp only at h97b hv |-;have fr:frzArgs pol1 22 0 [.rf 1 1 0 0,I ((d+1:Nat):Int)] (mH b0 l uses s K)=some ([.rf 1 1 0 0,I ((d+1:Nat):Int)],mH b0 l uses s K):=AS _ _ _ rfl;refine AX (pol:=pol1) Tryz.func22 rfl rfl rfl rfl fr ?_;simp +contextual (disch:=omega) only[Tryz.f22,dd22,go_sem,simprocAttr,mu22,↓AD,↓AC,↓AB,↓AA,h97,hw,Au,Aq,BT,BN,BS,BR,BC,A8,A5,Az,A4,A0,A1,A3,AI,AN,AJ,Ar,append_nil,h97b];repeat' (first|intro _|apply And.intro|(unfold dOk;kernel_rfl)|exact St.beq_refl _|exact AQ|(show altO _ _ _ _=true;kernel_rfl)|(show (_||_)=true;kernel_rfl)|(show (_&&_)=true;kernel_rfl))
 exact Bi (by rfl) (by rfl) s _ (ex1 ..) true true 6 [] [] 0 0 0 (1+Y1) false
theorem Pb {l:List Int} (hl:∀ x∈l,In64 x) {uses:Int}{d:Nat} (hd:d<=5) (ht:TreeLaw l uses d) (hb:TreeB l uses d) (s:MS) (b0:MB) (K:List MB) (hp:Pre (mA1 (d+1)) (mS1 (d+1)) s) (k:Int) (s1:MS) (hk:nx l 20 ⟨s.at_,s.left-1,s.caps⟩=(k,s1)) (hn1:¬ s1.left<3) (hn2:¬ (l.length:Int)<s1.at_) (h:k=18) (u:0<andI uses 2) (c:0<s1.caps) :
  call Pg pol1 22 [.rf 1 1 0 0,I ((d+1:Nat):Int)] (mH b0 l uses s K)=some (reAV ((.mk 10 [] [(treeF l uses d (nx l s1.caps s1).2).1,(treeF l uses d (treeF l uses d (nx l s1.caps s1).2).2).1] 0 0 0 (1+(nx l s1.caps s1).1) false,(treeF l uses d (treeF l uses d (nx l s1.caps s1).2).2).2):Re×MS).1,mH b0 l uses ((.mk 10 [] [(treeF l uses d (nx l s1.caps s1).2).1,(treeF l uses d (treeF l uses d (nx l s1.caps s1).2).2).1] 0 0 0 (1+(nx l s1.caps s1).1) false,(treeF l uses d (treeF l uses d (nx l s1.caps s1).2).2).2):Re×MS).2 K):=by
 simp only[mA1,mS1]at hp;have hA:=BA d;have hS:=A9 d;have hq:=BJ l (n:=20) (by omega) ⟨s.at_,s.left-1,s.caps⟩;have p1:=Af l 20 ⟨s.at_,s.left-1,s.caps⟩ hp.c;obtain⟨pa,pl,pc⟩:=hp;have h97:=fun K=>f97 l hl uses 20 (by omega) ⟨s.at_,s.left-1,s.caps⟩ ⟨pa.1,by simp only;omega⟩ b0 K;rw[hk]at hq p1 h97;clear hk;simp only at hq p1 h97;obtain⟨qa,ql,qc⟩:=p1;simp only at qa ql;have hw:IntKind.i64.wrap (s.left-1)=s.left-1:=i64_in _ ⟨by omega,by omega⟩;have hp5:Pre (5+3*mA1 d) (3*mS1 d) s1:=⟨⟨by omega,by omega⟩,⟨by omega,by omega⟩,qc⟩;subst h;have h97b:=fun K=>f97 l hl uses s1.caps (by omega) s1 ⟨by omega,by omega⟩ b0 K;have hv:=BJ l c s1;have r1:=Af l s1.caps s1 qc;generalize nx l s1.caps s1=Y at *;obtain⟨x,s2⟩:=Y;simp only at h97b hv r1 |-;have pr1:Pre (mA1 d) (mS1 d) s2:=hp5.step r1 (by omega) (by omega);have h44a:=fun K=>ht s2 b0 K pr1;have r2:=r1.trans (hb s2 pr1);generalize treeF l uses d s2=Y at *;obtain⟨y,s3⟩:=Y;simp only at h44a r2 |-;have h44b:=fun K=>ht s3 b0 K (hp5.step r2 (by omega) (by omega));generalize treeF l uses d s3=Y at *;obtain⟨Y1,Y2⟩:=Y;simp only at h44b |-;have fr:frzArgs pol1 22 0 [.rf 1 1 0 0,I ((d+1:Nat):Int)] (mH b0 l uses s K)=some ([.rf 1 1 0 0,I ((d+1:Nat):Int)],mH b0 l uses s K):=AS _ _ _ rfl;refine AX (pol:=pol1) Tryz.func22 rfl rfl rfl rfl fr ?_;simp +contextual (disch:=omega) only[Tryz.f22,dd22,go_sem,simprocAttr,mu22,↓AD,↓AC,↓AB,↓AA,h97,hw,Au,Aq,BT,BN,BS,BR,BC,A8,A5,Az,A4,A0,A1,A3,AI,AN,AJ,Ar,append_nil,h97b,h44a,h44b];repeat' (first|intro _|apply And.intro|(unfold dOk;kernel_rfl)|exact St.beq_refl _|exact AQ|(show altO _ _ _ _=true;kernel_rfl)|(show (_||_)=true;kernel_rfl)|(show (_&&_)=true;kernel_rfl))
 exact Bi (by rfl) (by rfl) s _ (ex2 ..) true true 10 [] [y,Y1] 0 0 0 (1+x) false
theorem Pa {l:List Int} (hl:∀ x∈l,In64 x) {uses:Int}{d:Nat} (hd:d<=5) (ht:TreeLaw l uses d) (hb:TreeB l uses d) (s:MS) (b0:MB) (K:List MB) (hp:Pre (mA1 (d+1)) (mS1 (d+1)) s) (k:Int) (s1:MS) (hk:nx l 20 ⟨s.at_,s.left-1,s.caps⟩=(k,s1)) (hn1:¬ s1.left<3) (hn2:¬ (l.length:Int)<s1.at_) (h:12<=k) (n12:¬ (k=12/\0<andI uses 64)) (n13:¬ (k=13/\0<andI uses 64)) (n14:¬ (k=14/\0<andI uses 16)) (n15:¬ (k=15/\0<andI uses 4)) (n16:¬ (k=16/\0<andI uses 8)) (n17:¬ (k=17/\0<andI uses 1/\0<s1.caps)) (n18:¬ (k=18/\0<andI uses 2/\0<s1.caps)) :
  call Pg pol1 22 [.rf 1 1 0 0,I ((d+1:Nat):Int)] (mH b0 l uses s K)=some (reAV (setM l s1).1,mH b0 l uses (setM l s1).2 K):=by
 simp only[mA1,mS1]at hp;have hA:=BA d;have hS:=A9 d;have hq:=BJ l (n:=20) (by omega) ⟨s.at_,s.left-1,s.caps⟩;have p1:=Af l 20 ⟨s.at_,s.left-1,s.caps⟩ hp.c;obtain⟨pa,pl,pc⟩:=hp;have h97:=fun K=>f97 l hl uses 20 (by omega) ⟨s.at_,s.left-1,s.caps⟩ ⟨pa.1,by simp only;omega⟩ b0 K;rw[hk]at hq p1 h97;clear hk;simp only at hq p1 h97;obtain⟨qa,ql,qc⟩:=p1;simp only at qa ql;have hw:IntKind.i64.wrap (s.left-1)=s.left-1:=i64_in _ ⟨by omega,by omega⟩;have hp5:Pre (5+3*mA1 d) (3*mS1 d) s1:=⟨⟨by omega,by omega⟩,⟨by omega,by omega⟩,qc⟩;have h98:=fun K=>f98 l hl uses s1 ⟨by omega,by omega⟩ b0 K;generalize setM l s1=Y at *;obtain⟨Y1,Y2⟩:=Y;simp only at h98 |-;have fr:frzArgs pol1 22 0 [.rf 1 1 0 0,I ((d+1:Nat):Int)] (mH b0 l uses s K)=some ([.rf 1 1 0 0,I ((d+1:Nat):Int)],mH b0 l uses s K):=AS _ _ _ rfl;refine AX (pol:=pol1) Tryz.func22 rfl rfl rfl rfl fr ?_;simp +contextual (disch:=omega) only[Tryz.f22,dd22,go_sem,simprocAttr,mu22,↓AD,↓AC,↓AB,↓AA,h97,hw,Au,Aq,BT,BN,BS,BR,BC,A8,A5,Az,A4,A0,A1,A3,AI,AN,AJ,Ar,append_nil,h98];repeat' (first|intro _|apply And.intro|(unfold dOk;kernel_rfl)|exact St.beq_refl _|exact AQ|(show altO _ _ _ _=true;kernel_rfl)|(show (_||_)=true;kernel_rfl)|(show (_&&_)=true;kernel_rfl))
 all_goals exact DH rfl rfl s _ (ex1 ..) (fun H=>Ab H (BG _)) (BG _)
theorem PB {l:List Int} (hl:∀ x∈l,In64 x) {uses:Int}{d:Nat} (hd:d<=5) (ht:TreeLaw l uses d) (hb:TreeB l uses d):TreeLaw l uses (d+1):=by
 intro s b0 K hp;simp only[treeF];generalize hk:nx l 20 ⟨s.at_,s.left-1,s.caps⟩=Y;obtain⟨k,s1⟩:=Y;simp only;have hq:=BJ l (n:=20) (by omega) ⟨s.at_,s.left-1,s.caps⟩;rw[hk]at hq;simp only at hq;unfold treeStep;by_cases hc:s1.left<3∨(l.length:Int)<s1.at_
 ·rw[if_pos hc];exact SJ hl hd s b0 K hp k s1 hk hc
 rw[if_neg hc];have hn1:¬ s1.left<3:=fun h=>hc (.inl h);have hn2:¬ (l.length:Int)<s1.at_:=fun h=>hc (.inr h);by_cases h5:k<5
 ·rw[if_pos h5];exact RQ hl hd ht hb s b0 K hp k s1 hk hn1 hn2 h5
 rw[if_neg h5];by_cases h8:k<8
 ·rw[if_pos h8];exact RR hl hd ht hb s b0 K hp k s1 hk hn1 hn2 (by omega) h8
 rw[if_neg h8];by_cases h12:k<12
 ·rw[if_pos h12];exact RO hl hd ht hb s b0 K hp k s1 hk hn1 hn2 (by omega) h12
 rw[if_neg h12];by_cases c1:(k=12∨k=13)/\0<andI uses 64
 ·rw[if_pos c1];rcases c1.1 with e|e
  ·exact OG hl hd ht hb s b0 K hp k s1 hk hn1 hn2 e c1.2
  ·exact OF hl hd ht hb s b0 K hp k s1 hk hn1 hn2 e c1.2
 rw[if_neg c1];by_cases c2:k=14/\0<andI uses 16
 ·rw[if_pos c2];exact R4 hl hd ht hb s b0 K hp k s1 hk hn1 hn2 c2.1 c2.2
 rw[if_neg c2];by_cases c3:k=15/\0<andI uses 4
 ·rw[if_pos c3];exact PZ hl hd ht hb s b0 K hp k s1 hk hn1 hn2 c3.1 c3.2
 rw[if_neg c3];by_cases c4:k=16/\0<andI uses 8
 ·rw[if_pos c4];exact Pc hl hd ht hb s b0 K hp k s1 hk hn1 hn2 c4.1 c4.2
 rw[if_neg c4];by_cases c5:k=17/\0<andI uses 1/\0<s1.caps
 ·rw[if_pos c5];exact RP hl hd ht hb s b0 K hp k s1 hk hn1 hn2 c5.1 c5.2.1 c5.2.2
 rw[if_neg c5];by_cases c6:k=18/\0<andI uses 2/\0<s1.caps
 ·rw[if_pos c6];exact Pb hl hd ht hb s b0 K hp k s1 hk hn1 hn2 c6.1 c6.2.1 c6.2.2
 rw[if_neg c6];exact Pa hl hd ht hb s b0 K hp k s1 hk hn1 hn2 (by omega) (fun h=>c1 ⟨.inl h.1,h.2⟩) (fun h=>c1 ⟨.inr h.1,h.2⟩) c2 c3 c4 c5 c6
theorem Jy {l:List Int} (hl:∀ x∈l,In64 x) (uses:Int):∀ d,d<=6->TreeLaw l uses d/\TreeB l uses d
 | 0,_=>⟨fun s b0 K hp=>by
    simp only[treeF];generalize hk:nx l 20 ⟨s.at_,s.left-1,s.caps⟩=Y;obtain⟨k,s1⟩:=Y;exact SK hl s b0 K hp k s1 hk,K8⟩
 | d+1,h=>by
   obtain⟨h1,h2⟩:=Jy hl uses d (by omega);exact⟨PB hl (by omega) h1 h2,K9 h2⟩
theorem f11m (l:List Int) (hl:∀ x∈l,In64 x) (uses most:Int) (hmo:0<=most/\most<=1000) (H:List MB) :
  call Pg pol1 7 [.sl false (l.map I),I uses,I most] H=some (patAV ⟨(treeF l uses 5 ⟨0,most,0⟩).1,(treeF l uses 5 ⟨0,most,0⟩).2.caps,false⟩,H):=by
 refine AR Tryz.func7 rfl rfl rfl rfl rfl rfl (fun _=>rfl) (by simp[AV.plain,AV.plainL,AG]) (show AV.plain (patAV _)=true from Ai _) ?_ H;have hpre:Pre (mA1 5) (mS1 5) ⟨0,most,0⟩:=by
  have h1:mS1 5=364:=rfl;have h2:mA1 5=1818:=rfl;exact⟨by simp only[h2];omega,by simp only[h1];omega,by simp only[];omega⟩
 have h44:∀ b0,call Pg pol1 22 [.rf 1 1 0 0,I 5] [b0,.row 5 [.agg [.sl false (l.map I),I 0,I uses,I most,I 0]] 0]=some (reAV (treeF l uses 5 ⟨0,most,0⟩).1,mH b0 l uses (treeF l uses 5 ⟨0,most,0⟩).2 []):=fun b0=>(Jy hl uses 5 (by omega)).1 ⟨0,most,0⟩ b0 [] hpre;generalize treeF l uses 5 ⟨0,most,0⟩=Y at *;obtain⟨r,s⟩:=Y;simp only at h44 |-;have htk8:∀ r l,List.take 8 (reC r++l)=reC r:=fun r l=>by
  have:=AI r;rw[List.take_append_of_le_length (by omega)];exact take_of_length_le (by omega)
 have hdr9:∀ r (a b:AV),List.drop 9 (reC r++[a,b])=[b]:=fun r a b=>by
  have:=AI r;rw[show (9:Nat)=8+1 from rfl,<- List.drop_drop,List.drop_append_of_le_length (by omega),Ar];rfl
 have ht10:∀ a b:AV,List.take 10 (reC r++[a,b])=reC r++[a,b]:=fun a b=>take_of_length_le (by simp[AI]);simp +contextual (disch:=omega) only[Tryz.f7,dd7,go_sem,simprocAttr,evBin,mu7,↓AD,↓AC,↓AB,↓AA,h44,htk8,hdr9,ht10,AI,AN,AJ,Ar,all_append];repeat' (first|intro _|apply And.intro|(unfold dOk;kernel_rfl)|exact St.beq_refl _|exact AQ|(show altO _ _ _ _=true;kernel_rfl)|(show (_||_)=true;kernel_rfl)|(show (_&&_)=true;kernel_rfl))
 exact⟨_,Ab _ (Ai ⟨r,s.caps,false⟩)⟩
end
section
attribute [local go_sem] evBin
theorem Si {H:List MB}{i n:Nat}{rs:List Int}{c:Int}{t:Bool} (hi:getRow H i=some (1,rs.map I,0)) (hn:rs.length=n) (hr:n+1<=4000000000) :
  evAppend Pg H 22 22 (.ms i 1 n 0 n) (.sl t [I c])=some (.ms i 1 (n+1) 0 (n+1),H.set i (.row 1 ((rs++[c]).map I) 0)):=by
 have hs:srcElems Pg H 3 (.sl t [I c])=some [I c]:=rfl;rw[Ah (e:=3) (by kernel_rfl) (by kernel_rfl) (k:=1) (by kernel_rfl) (by_:=8) (by kernel_rfl) (ze:=I 0) (by kernel_rfl) rfl (by omega) hs rfl hi (by rw[List.length_map];exact hn) (Nat.zero_le _) (Ad (by simpa using hr) (by omega))];rw[List.map_append];rfl
def ktextT:List Int:=[97,97,97,98,98,99,97,98,10,32,65,200]
def textAt (l:List Int) (i:Nat):Int:=ktextT.getD (pickI l i 12).toNat 0
def textN (l:List Int) (n:Nat):List Int:=(List.range n).map (textAt l)
theorem LD (l:List Int) (n:Nat):textN l (n+1)=textN l n++[textAt l n]:=by simp[textN,List.range_succ]
theorem Ex (l:List Int) (n:Nat):(textN l n).length=n:=by simp[textN]
def textI (l:List Int) (most:Nat):List Int:=textN l (min l.length most)
theorem SL (l:List Int) (hl:∀ x∈l,In64 x) (most:Nat) (hm:most<=1000000) (H:List MB):call Pg pol1 15 [.sl false (l.map I),I most] H=some (.sl false ((textI l most).map I),H):=by
 have hpl:=AG l;refine AR Tryz.func15 rfl rfl rfl rfl rfl rfl (fun _=>rfl) (by simp[AV.plain,AV.plainL,hpl]) (by simp[AV.plain,AG]) ?_ H;have hP:=fun i=>f57 l i 12 hl (by omega);simp +contextual (disch:=omega) only[Tryz.f15,dd15,go_sem,simprocAttr,evAppend,mu15,↓AD,↓AC,↓AB,↓AA];refine AY (M:=(mskOf (pol1.mask 15) (pol1.gc 15) (pol1.acts 15) 0 3)) rfl (min l.length most) (fun i=>(⟨28,[(6,I i),(5,.ms 0 1 i 0 i),(1,I most),(0,.sl false (l.map I))],[.row 1 ((textN l i).map I) 0]⟩:St)) (fun _=>True) ?_ ?_ trivial _ ?_
 ·intro i hi _;have h1:i<l.length:=by omega
  have h2:i<most:=by omega
  have hp:=JO (l:=l) (i:=i) (m:=12) (by omega);have ht:textAt l i=ktextT.getD (pickI l i 12).toNat 0:=rfl;have hP:=hP i;generalize pickI l i 12=p at *;obtain⟨n,rfl⟩:∃ n:Nat,p=n:=⟨p.toNat,by omega⟩;have hg:([I 97,I 97,I 97,I 98,I 98,I 99,I 97,I 98,I 10,I 32,I 65,I 200]:List AV)[n]?=some (I (textAt l i)):=by
   rw[ht,Int.toNat_natCast];have h12:∀ n,n<12->ktextT[n]?=some (ktextT.getD n 0):=by decide
   have e:([I 97,I 97,I 97,I 98,I 98,I 99,I 97,I 98,I 10,I 32,I 65,I 200]:List AV)=ktextT.map I:=rfl;rw[e,List.getElem?_map,h12 n (by omega)];rfl
  have happ:=fun(K:List MB) (t:Bool)=>Si (H:=.row 1 ((textN l i).map I) 0::K) (i:=0) (c:=textAt l i) (t:=t) rfl (Ex l i) (by omega);simp +contextual (disch:=omega) only[Tryz.f15,dd15,go_sem,simprocAttr,mu15,↓AD,↓AC,↓AB,↓AA,hP,hg,happ];rw[LD];exact(by first|rfl|(refine BI (n:=1) (m:=⟨some [6,5,1,0],some 1,[]⟩) rfl rfl ?_ ?_ ?_<;>first|rfl|(simp[keepT,AV.underL,AV.under,MB.under,AE,AK,AU,AG,AF,AL,AM,-map_take,-map_replicate,-map_set];done)|(simp[keepT,AV.underL,AV.under,MB.under,AE,AK,AU,AG,AF,AL,AM,-map_take,-map_replicate,-map_set];omega)))
 ·intro _;have hx:(min l.length most=l.length∨min l.length most=most)/\min l.length most<=l.length:=by omega
  have hlen:=Ex l (min l.length most);unfold textI;generalize min l.length most=m at *;by_cases h1:m<l.length
  ·have h2:m=most:=by omega
   subst h2;simp +contextual (disch:=omega) only[Tryz.f15,dd15,go_sem,simprocAttr,evAppend,mu15,↓AD,↓AC,↓AB,↓AA];exact⟨_,Ay (k:=1) rfl (by simpa using hlen) (AG _)⟩
  ·have h2:m=l.length:=by omega
   subst h2;simp +contextual (disch:=omega) only[Tryz.f15,dd15,go_sem,simprocAttr,evAppend,mu15,↓AD,↓AC,↓AB,↓AA];exact⟨_,Ay (k:=1) rfl (by simpa using hlen) (AG _)⟩
 ·exact(by first|rfl|(refine BI (n:=1) (m:=⟨some [6,5,1,0],some 1,[]⟩) rfl rfl ?_ ?_ ?_<;>first|rfl|(simp[keepT,AV.underL,AV.under,MB.under,AE,AK,AU,AG,AF,AL,AM,-map_take,-map_replicate,-map_set];done)|(simp[keepT,AV.underL,AV.under,MB.under,AE,AK,AU,AG,AF,AL,AM,-map_take,-map_replicate,-map_set];omega)))
end
section
attribute [local go_sem] evBin
def treeI (l:List Int) (most:Int):Re:=(treeF l 96 5 ⟨0,most,0⟩).1
theorem ES (l:List Int) (most:Int):(treeI l most).wt<=2000:=Nat.le_trans (ET l 96 5 _) (by decide)
def pattI (l:List Int) (uses most:Int):Pat:=⟨(treeF l uses 5 ⟨0,most,0⟩).1,(treeF l uses 5 ⟨0,most,0⟩).2.caps,false⟩
theorem OV (l:List Int) (uses most:Int):(pattI l uses most).re.wt<=2000:=Nat.le_trans (ET l uses 5 _) (by decide)
theorem f7 (l:List Int) (hl:∀ x∈l,In64 x) (uses most:Int) (hmo:0<=most/\most<=1000) (H:List MB) :
 call Pg pol1 7 [.sl false (l.map I),I uses,I most] H=some (patAV (pattI l uses most),H):=f11m l hl uses most hmo H
theorem f6 (l:List Int) (hl:∀ x∈l,In64 x) (most:Int) (hmo:0<=most/\most<=1000) (H:List MB) :
  call Pg pol1 6 [.sl false (l.map I),I most] H=some (reAV (treeI l most),H):=by
 have h7:=f7 l hl 96 most hmo;refine AR Tryz.func6 rfl rfl rfl rfl rfl rfl (fun _=>rfl) (by simp[AV.plain,AV.plainL,AG]) (AT _) ?_ H;obtain⟨p,hp⟩:∃ p,pattI l 96 most=p:=⟨_,rfl⟩;have e:treeI l most=p.re:=by rw[<- hp];rfl
 rw[hp]at h7;rw[e];clear e hp;obtain⟨re,caps,runes⟩:=p;have hl8:=AI re;have htk8:∀ l,List.take 8 (reC re++l)=reC re:=fun l=>by
  rw[List.take_append_of_le_length (by omega)];exact take_of_length_le (by omega)
 simp +contextual (disch:=omega) only[Tryz.f6,dd6,go_sem,simprocAttr,evAppend,mu6,↓AD,↓AC,↓AB,↓AA,h7,hl8,htk8,AI,AJ,AN];exact fzEq (AT _) rfl
theorem f16 (l:List Int) (most:Nat) (hm:most<=1000) (H:List MB) :
  call Pg pol1 16 [.sl false (l.map I),I most] H=some (.sl false ((l.take most).map I),H):=by
 refine AR Tryz.func16 rfl rfl rfl rfl rfl rfl (fun _=>rfl) (by simp[AV.plain,AV.plainL,AG]) (show AV.plain (.sl false _)=true by simp only[AV.plain,Bool.not_false,Bool.true_and];exact AG _) ?_ H;have hmin:evMin (I l.length) (I most)=some (I ((min l.length most:Nat):Int)):=by
  simp only[evMin];congr 2;split<;>omega
 have hle:((min l.length most:Nat):Int)<=(l.length:Int):=by omega
 have e:(l.map I).take (min l.length most)=(l.take most).map I:=by
  rw[<- map_take];congr 1;rcases Nat.le_total l.length most with h|h
  ·rw[Nat.min_eq_left h,take_of_length_le (Nat.le_refl _),take_of_length_le h]
  ·rw[Nat.min_eq_right h]
 have hml:(l.take most).length<=1000:=by rw[List.length_take];omega
 generalize l.take most=m at *;cases m with
 | nil=>
   have happ:evAppend Pg [] 22 22 (.sl true []) (.sl false [])=some (.sl true [],[]):=by kernel_rfl
   simp +contextual (disch:=omega) only[Tryz.f16,dd16,go_sem,simprocAttr,mu16,↓AD,↓AC,↓AB,↓AA,hmin,hle,e,happ,Bool.false_and];exact⟨by rw[all_eq_true];intro y hy;obtain⟨i,_,rfl⟩:=mem_map.1 hy;rfl,_,rfl⟩
 | cons x r=>
   have happ:evAppend Pg [] 22 22 (.sl true []) (.sl false (I x::r.map I))=some (.ms 0 1 (r.length+1) 0 (r.length+1),[.row 1 (I x::r.map I) 0]):=by
    have hw:((I x::r.map I).all fun y=>decide (y.cells.length=1)&&y.cells.all AV.ok)=true:=by
     rw[all_eq_true];intro y hy;obtain⟨i,_,rfl⟩:=mem_map.1 (show y∈(x::r).map I from hy);rfl
    unfold evAppend;simp only[show tyElem Pg 22=some 3 by kernel_rfl,show tyNotInt Pg 22=true by kernel_rfl,show tySz Pg 3=some 1 by kernel_rfl,show tyBytes Pg 3=some 8 by kernel_rfl,show tyZero Pg 3=some (I 0) by kernel_rfl,show srcElems Pg [] 3 (.sl false (I x::r.map I))=some (I x::r.map I) from rfl];rw[if_pos ⟨hw,by decide,rfl⟩];simp at hml;have hroom:roomFor (0+(r.length+1)) 8=true:=Ad (by omega) (by omega);rw[Nat.zero_add]at hroom;simp[hroom]
   simp only[map_cons]at e;simp +contextual (disch:=omega) only[Tryz.f16,dd16,go_sem,simprocAttr,mu16,↓AD,↓AC,↓AB,↓AA,hmin,hle,e,happ,Bool.false_and];refine⟨by rw[all_eq_true];intro y hy;obtain⟨i,_,rfl⟩:=mem_map.1 hy;rfl,_,Ep (n:=5) rfl (by simp) (AG (x::r))⟩
theorem d13 (a b:List Int) (hl:a.length<=1000000000) (hb:b.length<=1000000000) (H:List MB):call Pg pol1 13 [.sl false (a.map I),.sl false (b.map I)] H=some (.bool (decide (a=b)),H):=by
 refine AR Tryz.func13 rfl rfl rfl rfl rfl rfl (fun _=>rfl) (by simp[AV.plain,AV.plainL,AG]) rfl ?_ H;by_cases hn:a.length=b.length
 ·have hn':((a.length:Int)=(b.length:Int))=True:=eq_true (by omega);simp +contextual (disch:=omega) only[Tryz.f13,dd13,go_sem,simprocAttr,evAppend,mu13,↓AD,↓AC,↓AB,↓AA,hn'];refine AY (M:=(mskOf (pol1.mask 13) (pol1.gc 13) (pol1.acts 13) 0 4)) (by rfl) a.length (fun i=>(⟨26,[(5,I i),(1,.sl false (b.map I)),(0,.sl false (a.map I))],[]⟩:St)) (fun i=>a.take i=b.take i) ?_ ?_ rfl _ (by first|rfl|(refine AP rfl (by rfl) (by rfl) (by rfl) ?_ ?_<;>simp[AV.underL,AV.under,MB.under,AE,AK,AG,AF,AL,AM,-map_take,AG]))
  ·intro i hi hinv;obtain⟨p,hp⟩:∃ p,a[i]?=some p:=⟨_,getElem?_eq_getElem hi⟩;obtain⟨q,hq⟩:∃ p,b[i]?=some p:=⟨_,getElem?_eq_getElem (by omega)⟩;have hp':(a.map I)[i]?=some (I p):=by simp[hp]
   have hq':(b.map I)[i]?=some (I q):=by simp[hq]
   have hlt:(i:Int)<(a.length:Int):=by omega
   have hltb:(i:Int)<(b.length:Int):=by omega
   by_cases he:p=q
   ·subst he;have h1:a.take (i+1)=b.take (i+1):=by rw[AW hp,AW hq,hinv]
    simp +contextual (disch:=omega) only[Tryz.f13,dd13,go_sem,simprocAttr,evAppend,mu13,↓AD,↓AC,↓AB,↓AA,hp',hq',hlt,hltb,h1];repeat' (first|intro _|apply And.intro|(unfold dOk;kernel_rfl)|exact St.beq_refl _|exact AQ|(show altO _ _ _ _=true;kernel_rfl)|(show (_||_)=true;kernel_rfl)|(show (_&&_)=true;kernel_rfl))
    exact(by first|rfl|(refine AP rfl (by rfl) (by rfl) (by rfl) ?_ ?_<;>simp[AV.underL,AV.under,MB.under,AE,AK,AG,AF,AL,AM,-map_take,AG]))
   ·have hne:a≠b:=fun e=>he (by rw[e,hq]at hp;exact(Option.some.inj hp).symm);rw[decide_eq_false hne];simp +contextual (disch:=omega) only[Tryz.f13,dd13,go_sem,simprocAttr,evAppend,mu13,↓AD,↓AC,↓AB,↓AA,hp',hq',hlt,hltb,he];repeat' (first|intro _|apply And.intro|(unfold dOk;kernel_rfl)|exact St.beq_refl _|exact AQ|(show altO _ _ _ _=true;kernel_rfl)|(show (_||_)=true;kernel_rfl)|(show (_&&_)=true;kernel_rfl))
    exact fzEq rfl rfl
  ·intro hinv;have:a=b:=by
    rw[List.take_length,hn,List.take_length]at hinv;exact hinv
   rw[decide_eq_true this];simp +contextual (disch:=omega) only[Tryz.f13,dd13,go_sem,simprocAttr,evAppend,mu13,↓AD,↓AC,↓AB,↓AA,hn'];exact fzEq rfl rfl
 ·have hn':((a.length:Int)=(b.length:Int))=False:=eq_false (by omega);have hne:a≠b:=fun e=>hn (by rw[e]);rw[decide_eq_false hne];simp +contextual (disch:=omega) only[Tryz.f13,dd13,go_sem,simprocAttr,evAppend,mu13,↓AD,↓AC,↓AB,↓AA,hn'];exact fzEq rfl rfl
theorem d38 (x:Int) (H:List MB):call Pg pol1 38 [I x] H=some (reAV (setR [(x,x)]),H):=by
 refine AR Tryz.func38 rfl rfl rfl rfl rfl rfl (fun _=>rfl) rfl (AT _) ?_ H;simp +contextual (disch:=omega) only[Tryz.f38,dd38,go_sem,simprocAttr,evAppend,mu38,↓AD,↓AC,↓AB,↓AA];have hz:=JZ true true 1 [(x,x)] [] 0 0 0 0 false;exact⟨_,hz _⟩
theorem t8R (r:Re) (l:List AV):List.take 8 (reC r++l)=reC r:=by
 rw[List.take_append_of_le_length (by rw[AI];exact Nat.le_refl _)];exact take_of_length_le (by rw[AI];exact Nat.le_refl _)
theorem d9R (r:Re) (a b:AV):List.drop 9 (reC r++[a,b])=[b]:=by
 rw[List.drop_append,AI,List.drop_of_length_le (by rw[AI];omega)];rfl
theorem t9R (r:Re) (a:AV) (l:List AV):List.take 9 (reC r++a::l)=reC r++[a]:=by
 rw[List.take_append,AI,take_of_length_le (by rw[AI];omega)];rfl
theorem d10R (r:Re) (a b:AV):List.drop 10 (reC r++[a,b])=[]:=List.drop_of_length_le (by simp[AI])
theorem fzZe (n:Int) {K:List MB}:∃ H',fz (.tup [zeR,I n]) K=some (.tup [reAV emptyR,I n],H'):=⟨K,rfl⟩
theorem d20 (r:Re) (x:Int) (hw:r.wt<=1000000) (H:List MB) :
  call Pg pol1 20 [reAV r,I x] H=some (if chkP ⟨r,9,true⟩≠0 then .tup [reAV emptyR,I (chkP ⟨r,9,true⟩)] else if x<0∨1114111<x then .tup [reAV emptyR,I 5] else resA (stepR x r),H):=by
 have h23:=d23 ⟨r,9,true⟩ hw;have hck:=Jp (p:=⟨r,9,true⟩);have hpl:AV.plain (if chkP ⟨r,9,true⟩≠0 then .tup [reAV emptyR,I (chkP ⟨r,9,true⟩)] else if x<0∨1114111<x then .tup [reAV emptyR,I 5] else resA (stepR x r))=true:=by
  split
  ·rfl
  ·split
   ·rfl
   ·exact ED _
 refine AR Tryz.func20 rfl rfl rfl rfl rfl rfl (fun _=>rfl) (by simp[AV.plain,AV.plainL,AO]) hpl ?_ H;clear hpl;by_cases hc:chkP ⟨r,9,true⟩=0
 ·rw[if_neg (by simpa using hc)];obtain⟨hok,hsz,hwh⟩:=hck hc;have h29:=d29 hsz hok 9 1114111 hwh x;rw[hc]at h23;by_cases x0:x<0
  ·rw[if_pos (.inl x0)];simp +contextual (disch:=omega) only[Tryz.f20,dd20,go_sem,simprocAttr,evAppend,mu20,↓AD,↓AC,↓AB,↓AA,h23,x0,AI,AJ,AN,t8R,d9R,t9R,d10R,length_append,append_assoc,cons_append,nil_append]
   first|exact fzEq (by simp[AV.plain,AV.plainL,AO]) rfl|exact fzZe _
  ·by_cases x1:1114111<x
   ·rw[if_pos (.inr x1)];simp +contextual (disch:=omega) only[Tryz.f20,dd20,go_sem,simprocAttr,evAppend,mu20,↓AD,↓AC,↓AB,↓AA,h23,x0,x1,AI,AJ,AN,t8R,d9R,t9R,d10R,length_append,append_assoc,cons_append,nil_append]
    first|exact fzEq (by simp[AV.plain,AV.plainL,AO]) rfl|exact fzZe _
   ·rw[if_neg (by omega)];cases hst:stepR x r with
    | none=>
      rw[hst]at h29;unfold resA at h29 |-;simp +contextual (disch:=omega) only[Tryz.f20,dd20,go_sem,simprocAttr,evAppend,mu20,↓AD,↓AC,↓AB,↓AA,h23,x0,x1,h29,AI,AJ,AN,t8R,d9R,t9R,d10R,length_append,append_assoc,cons_append,nil_append]
      first|exact fzEq (by simp[AV.plain,AV.plainL,AO]) rfl|exact fzZe _
    | some q=>
      rw[hst]at h29;unfold resA at h29 |-;simp +contextual (disch:=omega) only[Tryz.f20,dd20,go_sem,simprocAttr,evAppend,mu20,↓AD,↓AC,↓AB,↓AA,h23,x0,x1,h29,AI,AJ,AN,t8R,d9R,t9R,d10R,length_append,append_assoc,cons_append,nil_append]
      first|exact fzEq (by simp[AV.plain,AV.plainL,AO]) rfl|exact fzZe _
 ·rw[if_pos hc];simp +contextual (disch:=omega) only[Tryz.f20,dd20,go_sem,simprocAttr,evAppend,mu20,↓AD,↓AC,↓AB,↓AA,h23,hc,AI,AJ,AN,t8R,d9R,t9R,d10R,length_append,append_assoc,cons_append,nil_append]
  first|exact fzEq (by simp[AV.plain,AV.plainL,AO]) rfl|exact fzZe _
end
section
attribute [local go_sem] evAppend evBin
abbrev Pt4 (l:List Int) (uses:Int):List Pat:=[⟨treeI l 24,4,false⟩,pattI l (aroundI uses 128) 24,⟨treeI l 24,9,true⟩,⟨treeI l 9,-1,false⟩]
abbrev Tx4 (m raw:List Int):List (List Int):=[textI m 9,raw.take 4]
theorem LV (L:List Pat):AV.plainL (L.map patAV)=true:=by
 induction L with
 | nil=>rfl
 | cons p L ih=>simp only[map_cons,AV.plainL,ih,Bool.and_true];exact Ai p
theorem M8 (T:List (List Int)):AV.plainL (T.map fun x=>.sl false (x.map I))=true:=by
 induction T with
 | nil=>rfl
 | cons p L ih=>simp[AV.plainL,AV.plain,AG,ih]
theorem okP (p:Pat):(patC p).all AV.ok=true:=by
 show (reC p.re++[I p.caps,.bool p.runes]).all AV.ok=true;rw[all_append,AN];rfl
theorem law4 (h14:∀ H,call Pg pol1 14 [] H=some (.bool true,H)) (l m raw:List Int) (uses:Int) (hl:∀ x∈l,In64 x) (hm:∀ x∈m,In64 x) (hu:In64 uses) (hr:∀ x∈raw,In64 x) (H:List MB) :
  call Pg pol1 4 [.sl false (l.map I),.sl false (m.map I),I uses,.sl false (raw.map I)] H=some (.bool true,H):=by
 refine AR Tryz.func4 rfl rfl rfl rfl rfl rfl (fun _=>rfl) (by simp[AV.plain,AV.plainL,AG]) rfl ?_ H;have h6a:=f6 l hl 24 (by omega);have h6b:=f6 l hl 9 (by omega);have h8:=f12 uses 128 hu (by omega);have h7:=f7 l hl (aroundI uses 128) 24 (by omega);have h16:=f16 raw 4 (by omega);have h15:=SL m hm 9 (by omega);obtain⟨L,hL⟩:∃ L,Pt4 l uses=L:=⟨_,rfl⟩;obtain⟨T,hT⟩:∃ T,Tx4 m raw=T:=⟨_,rfl⟩;have hpp:=fun p:Pat=>show patAV p=.agg (reC p.re++[I p.caps,.bool p.runes]) from rfl;simp only[show ((4:Nat):Int)=4 from rfl,show ((9:Nat):Int)=9 from rfl]at h16 h15;simp +contextual -implicitDefEqProofs (disch:=omega) only[Tryz.f4,dd4,go_sem,simprocAttr,mu4,↓AD,↓AC,↓AB,↓AA,h6a,h6b,h8,h7,h16,h15,AI,AJ,AN,t8R,d9R,t9R,d10R,length_append,append_assoc,cons_append,nil_append,okP,all_append,AV.ok];refine AY (M:=(mskOf (pol1.mask 4) (pol1.gc 4) (pol1.acts 4) 0 4)) (by rfl) 4 (fun i=>(⟨151,[(11,I i),(10,.sl true (T.map fun x=>.sl false (x.map I))),(9,.sl true (L.map patAV))],[]⟩:St)) (fun _=>True) ?_ ?_ trivial _ ?_
 ·intro i hi _;obtain⟨p,hp⟩:∃ p,L[i]?=some p:=⟨_,getElem?_eq_getElem (by rw[<- hL];exact hi)⟩;have hp':(L.map patAV)[i]?=some (patAV p):=by simp[hp]
  have hpw:p.re.wt<=2000:=by
   have:=List.mem_of_getElem? hp;rw[<- hL]at this;simp only[mem_cons,List.not_mem_nil,or_false]at this;rcases this with rfl|rfl|rfl|rfl
   ·exact ES l 24
   ·exact OV l _ 24
   ·exact ES l 24
   ·exact ES l 9
  have hi4:(i:Int)<4:=by omega
  clear h6a h6b h8 h7 h16 h15;simp +contextual -implicitDefEqProofs (disch:=omega) only[Tryz.f4,dd4,go_sem,simprocAttr,mu4,↓AD,↓AC,↓AB,↓AA,hi4];refine AY (M:=(mskOf (pol1.mask 4) (pol1.gc 4) (pol1.acts 4) 0 7)) (by rfl) 2 (fun k=>(⟨151,[(12,I k),(11,I i),(10,.sl true (T.map fun x=>.sl false (x.map I))),(9,.sl true (L.map patAV))],[]⟩:St)) (fun _=>True) ?_ ?_ trivial _ ?_
  ·intro k hk _;have hk2:(k:Int)<2:=by omega
   obtain⟨x,hx⟩:∃ x,T[k]?=some x:=⟨_,getElem?_eq_getElem (by rw[<- hT];exact hk)⟩;have hx':(T.map fun x=>AV.sl false (x.map I))[k]?=some (.sl false (x.map I)):=by simp[hx]
   have hxl:x.length<=9:=by
    have:=List.mem_of_getElem? hx;rw[<- hT]at this;simp only[mem_cons,List.not_mem_nil,or_false]at this;rcases this with rfl|rfl
    ·unfold textI;rw[Ex];omega
    ·rw[List.length_take];omega
   have hLl:L.length=4:=by rw[<- hL];rfl
   have hTl:T.length=2:=by rw[<- hT];rfl
   clear hL hT hi hk hi4;have h17:∀ H,call Pg pol1 17 [AV.agg (patC p),.sl false (x.map I)] H=some (wholeA p x,H):=fun H=>d17 p x (by omega) (.inl (by omega)) (by omega) H;have h10:∀ H,call Pg pol1 10 [AV.agg (patC p)] H=some (I (chkP p),H):=fun H=>d10 p (by omega) H;have hp':(L.map patAV)[i]?=some (.agg (patC p)):=hp';have hpl:(patC p).length=10:=by show (reC p.re++[I p.caps,.bool p.runes]).length=10;simp[AI]
   have ht10:(patC p).take 10=patC p:=take_of_length_le (by omega);have hp9:(patC p)[9]?=some (.bool p.runes):=by
    show (reC p.re++[I p.caps,.bool p.runes])[9]?=_;rw[List.getElem?_append_right (by rw[AI];omega),AI];rfl
   have hpk:AV.plainL (patC p)=true:=Ai p;have hPL:=LV L;have hTL:=M8 T;have hxP:∀ j:Nat,∀ v,x[j]?=some v->(x.map I)[j]?=some (I v):=fun j v h=>by simp[h]
   obtain⟨top,htop⟩:∃ top,topI p.runes=top:=⟨_,rfl⟩;by_cases hc:chkP p=0
   ·obtain⟨hok,hsz,hwh⟩:=Jp hc;have h18:∀ H,call Pg pol1 18 [AV.agg (patC p),.sl false (x.map I)] H=some (wA (resW p.re x),H):=fun H=>d18 p x hok hsz (by omega) H;obtain⟨ib,eb,hw,h5,href⟩:∃ ib eb,wholeA p x=.tup [.bool ib,I eb]/\(x.any (badX top)=true->ib=false/\eb=5)/\(x.any (badX top)=false->wA (resW p.re x)=.tup [.bool ib,I eb]):=by
     unfold wholeA;rw[if_neg (by simpa using hc),if_neg (by omega),htop];cases hb:x.any (badX top) with
     | true=>exact⟨false,5,by simp,fun _=>⟨rfl,rfl⟩,fun h=>by cases h⟩
     | false=>
       cases resW p.re x with
       | none=>exact⟨false,4,by simp[wA],fun h=>(by cases h),fun _=>rfl⟩
       | some r=>exact⟨nullG r,0,by simp[wA],fun h=>(by cases h),fun _=>rfl⟩
    rw[hw]at h17;rw[hc]at h10;have hT2:(if p.runes=true then(1114111:Int) else 255)=top:=by rw[<- htop];unfold topI;cases p.runes<;>rfl
    cases hru:p.runes with
    | true=>
      rw[hru]at hp9 hT2;simp only[if_true]at hT2;subst hT2;simp +contextual -implicitDefEqProofs (disch:=omega) only[Tryz.f4,dd4,go_sem,simprocAttr,mu4,↓AD,↓AC,↓AB,↓AA,h17,h10,hk2,hp',hx',hLl,hTl,hpl,ht10,hp9];repeat' (first|intro _|apply And.intro|(unfold dOk;kernel_rfl)|exact St.beq_refl _|exact AQ|(show altO _ _ _ _=true;kernel_rfl)|(show (_||_)=true;kernel_rfl)|(show (_&&_)=true;kernel_rfl))
      refine Cp (σ:=Nat×Bool) (M:=(mskOf (pol1.mask 4) (pol1.gc 4) (pol1.acts 4) 0 15)) (by rfl) (fun s=>(⟨151,[(17,I s.1),(16,I 1114111),(15,I (if s.2=true then 5 else 0)),(14,I eb),(13,.bool ib),(12,I k),(11,I i),(10,.sl true (T.map fun x=>.sl false (x.map I))),(9,.sl true (L.map patAV))],[]⟩:St)) (fun s=>s.1<=x.length/\s.2=(x.take s.1).any (badX 1114111)) (fun s=>x.length-s.1) (0,false) ?_ ⟨Nat.zero_le _,rfl⟩ _ (by rfl);rintro⟨j,b⟩ ⟨hj1,hj2⟩;simp only at hj1 hj2;cases b with
      | true=>
        have hany:x.any (badX 1114111)=true:=by rw[<- List.take_append_drop j x,List.any_append,<- hj2];rfl
        obtain⟨rfl,rfl⟩:=h5 hany;by_cases hlj:j<x.length
        ·have hlj':(j:Int)<(x.length:Int):=by omega
         simp +contextual -implicitDefEqProofs (disch:=omega) only[Tryz.f4,dd4,go_sem,simprocAttr,mu4,↓AD,↓AC,↓AB,↓AA,hlj',hk2,hp',hx',hLl,hTl,hpl,ht10,hp9];rfl
        ·have hlj':¬ (j:Int)<(x.length:Int):=by omega
         simp +contextual -implicitDefEqProofs (disch:=omega) only[Tryz.f4,dd4,go_sem,simprocAttr,mu4,↓AD,↓AC,↓AB,↓AA,hlj',hk2,hp',hx',hLl,hTl,hpl,ht10,hp9];rfl
      | false=>
        by_cases hlj:j<x.length
        ·obtain⟨v,hv⟩:∃ v,x[j]?=some v:=⟨_,getElem?_eq_getElem hlj⟩;have hv':=hxP j v hv;have hlj':(j:Int)<(x.length:Int):=by omega
         have hst:(x.take (j+1)).any (badX 1114111)=badX 1114111 v:=by rw[AW hv,List.any_append,<- hj2];simp
         by_cases v0:v<0
         ·have hb:badX 1114111 v=true:=by simp[badX,v0]
          simp +contextual -implicitDefEqProofs (disch:=omega) only[Tryz.f4,dd4,go_sem,simprocAttr,mu4,↓AD,↓AC,↓AB,↓AA,hlj',hv',v0,hk2,hp',hx',hLl,hTl,hpl,ht10,hp9];exact⟨(j+1,true),⟨hlj,(hst.trans hb).symm⟩,by show x.length-(j+1)<x.length-j;omega,by rfl⟩
         ·by_cases v1:1114111<v
          ·have hb:badX 1114111 v=true:=by simp[badX,v1]
           simp +contextual -implicitDefEqProofs (disch:=omega) only[Tryz.f4,dd4,go_sem,simprocAttr,mu4,↓AD,↓AC,↓AB,↓AA,hlj',hv',v0,v1,hk2,hp',hx',hLl,hTl,hpl,ht10,hp9];exact⟨(j+1,true),⟨hlj,(hst.trans hb).symm⟩,by show x.length-(j+1)<x.length-j;omega,by rfl⟩
          ·have hb:badX 1114111 v=false:=by simp[badX,v0,v1]
           simp +contextual -implicitDefEqProofs (disch:=omega) only[Tryz.f4,dd4,go_sem,simprocAttr,mu4,↓AD,↓AC,↓AB,↓AA,hlj',hv',v0,v1,hk2,hp',hx',hLl,hTl,hpl,ht10,hp9];exact⟨(j+1,false),⟨hlj,(hst.trans hb).symm⟩,by show x.length-(j+1)<x.length-j;omega,by rfl⟩
        ·have hlj':¬ (j:Int)<(x.length:Int):=by omega
         have hany:x.any (badX 1114111)=false:=by rw[take_of_length_le (by omega)]at hj2;exact hj2.symm
         rw[href hany]at h18;simp +contextual -implicitDefEqProofs (disch:=omega) only[Tryz.f4,dd4,go_sem,simprocAttr,mu4,↓AD,↓AC,↓AB,↓AA,hlj',h18,hk2,hp',hx',hLl,hTl,hpl,ht10,hp9];repeat' (first|intro _|apply And.intro|(unfold dOk;kernel_rfl)|exact St.beq_refl _|exact AQ|(show altO _ _ _ _=true;kernel_rfl)|(show (_||_)=true;kernel_rfl)|(show (_&&_)=true;kernel_rfl))
         ·rfl
         ·rename_i h;exact absurd rfl h
    | false=>
      rw[hru]at hp9 hT2;simp only[Bool.false_eq_true,if_false]at hT2;subst hT2;simp +contextual -implicitDefEqProofs (disch:=omega) only[Tryz.f4,dd4,go_sem,simprocAttr,mu4,↓AD,↓AC,↓AB,↓AA,h17,h10,hk2,hp',hx',hLl,hTl,hpl,ht10,hp9];repeat' (first|intro _|apply And.intro|(unfold dOk;kernel_rfl)|exact St.beq_refl _|exact AQ|(show altO _ _ _ _=true;kernel_rfl)|(show (_||_)=true;kernel_rfl)|(show (_&&_)=true;kernel_rfl))
      refine Cp (σ:=Nat×Bool) (M:=(mskOf (pol1.mask 4) (pol1.gc 4) (pol1.acts 4) 0 15)) (by rfl) (fun s=>(⟨151,[(17,I s.1),(16,I 255),(15,I (if s.2=true then 5 else 0)),(14,I eb),(13,.bool ib),(12,I k),(11,I i),(10,.sl true (T.map fun x=>.sl false (x.map I))),(9,.sl true (L.map patAV))],[]⟩:St)) (fun s=>s.1<=x.length/\s.2=(x.take s.1).any (badX 255)) (fun s=>x.length-s.1) (0,false) ?_ ⟨Nat.zero_le _,rfl⟩ _ (by rfl);rintro⟨j,b⟩ ⟨hj1,hj2⟩;simp only at hj1 hj2;cases b with
      | true=>
        have hany:x.any (badX 255)=true:=by rw[<- List.take_append_drop j x,List.any_append,<- hj2];rfl
        obtain⟨rfl,rfl⟩:=h5 hany;by_cases hlj:j<x.length
        ·have hlj':(j:Int)<(x.length:Int):=by omega
         simp +contextual -implicitDefEqProofs (disch:=omega) only[Tryz.f4,dd4,go_sem,simprocAttr,mu4,↓AD,↓AC,↓AB,↓AA,hlj',hk2,hp',hx',hLl,hTl,hpl,ht10,hp9];rfl
        ·have hlj':¬ (j:Int)<(x.length:Int):=by omega
         simp +contextual -implicitDefEqProofs (disch:=omega) only[Tryz.f4,dd4,go_sem,simprocAttr,mu4,↓AD,↓AC,↓AB,↓AA,hlj',hk2,hp',hx',hLl,hTl,hpl,ht10,hp9];rfl
      | false=>
        by_cases hlj:j<x.length
        ·obtain⟨v,hv⟩:∃ v,x[j]?=some v:=⟨_,getElem?_eq_getElem hlj⟩;have hv':=hxP j v hv;have hlj':(j:Int)<(x.length:Int):=by omega
         have hst:(x.take (j+1)).any (badX 255)=badX 255 v:=by rw[AW hv,List.any_append,<- hj2];simp
         by_cases v0:v<0
         ·have hb:badX 255 v=true:=by simp[badX,v0]
          simp +contextual -implicitDefEqProofs (disch:=omega) only[Tryz.f4,dd4,go_sem,simprocAttr,mu4,↓AD,↓AC,↓AB,↓AA,hlj',hv',v0,hk2,hp',hx',hLl,hTl,hpl,ht10,hp9];exact⟨(j+1,true),⟨hlj,(hst.trans hb).symm⟩,by show x.length-(j+1)<x.length-j;omega,by rfl⟩
         ·by_cases v1:255<v
          ·have hb:badX 255 v=true:=by simp[badX,v1]
           simp +contextual -implicitDefEqProofs (disch:=omega) only[Tryz.f4,dd4,go_sem,simprocAttr,mu4,↓AD,↓AC,↓AB,↓AA,hlj',hv',v0,v1,hk2,hp',hx',hLl,hTl,hpl,ht10,hp9];exact⟨(j+1,true),⟨hlj,(hst.trans hb).symm⟩,by show x.length-(j+1)<x.length-j;omega,by rfl⟩
          ·have hb:badX 255 v=false:=by simp[badX,v0,v1]
           simp +contextual -implicitDefEqProofs (disch:=omega) only[Tryz.f4,dd4,go_sem,simprocAttr,mu4,↓AD,↓AC,↓AB,↓AA,hlj',hv',v0,v1,hk2,hp',hx',hLl,hTl,hpl,ht10,hp9];exact⟨(j+1,false),⟨hlj,(hst.trans hb).symm⟩,by show x.length-(j+1)<x.length-j;omega,by rfl⟩
        ·have hlj':¬ (j:Int)<(x.length:Int):=by omega
         have hany:x.any (badX 255)=false:=by rw[take_of_length_le (by omega)]at hj2;exact hj2.symm
         rw[href hany]at h18;simp +contextual -implicitDefEqProofs (disch:=omega) only[Tryz.f4,dd4,go_sem,simprocAttr,mu4,↓AD,↓AC,↓AB,↓AA,hlj',h18,hk2,hp',hx',hLl,hTl,hpl,ht10,hp9];repeat' (first|intro _|apply And.intro|(unfold dOk;kernel_rfl)|exact St.beq_refl _|exact AQ|(show altO _ _ _ _=true;kernel_rfl)|(show (_||_)=true;kernel_rfl)|(show (_&&_)=true;kernel_rfl))
         ·rfl
         ·rename_i h;exact absurd rfl h
   ·have hw:wholeA p x=.tup [.bool false,I (chkP p)]:=by unfold wholeA;rw[if_pos hc]
    rw[hw]at h17;cases hru:p.runes with
    | true=>
      rw[hru]at hp9;simp +contextual -implicitDefEqProofs (disch:=omega) only[Tryz.f4,dd4,go_sem,simprocAttr,mu4,↓AD,↓AC,↓AB,↓AA,h17,h10,hk2,hp',hx',hLl,hTl,hpl,ht10,hp9];repeat' (first|intro _|apply And.intro|(unfold dOk;kernel_rfl)|exact St.beq_refl _|exact AQ|(show altO _ _ _ _=true;kernel_rfl)|(show (_||_)=true;kernel_rfl)|(show (_&&_)=true;kernel_rfl))
      refine AY (M:=(mskOf (pol1.mask 4) (pol1.gc 4) (pol1.acts 4) 0 15)) (by rfl) 0 (fun j=>(⟨151,[(17,I j),(16,I 1114111),(15,I (chkP p)),(14,I (chkP p)),(13,.bool false),(12,I k),(11,I i),(10,.sl true (T.map fun x=>.sl false (x.map I))),(9,.sl true (L.map patAV))],[]⟩:St)) (fun _=>True) (fun j hj=>by omega) ?_ trivial _ (by rfl);intro _;by_cases hl0:0<x.length
      ·have hl0':(0:Int)<(x.length:Int):=by omega
       simp +contextual -implicitDefEqProofs (disch:=omega) only[Tryz.f4,dd4,go_sem,simprocAttr,mu4,↓AD,↓AC,↓AB,↓AA,hl0',hc,hk2,hp',hx',hLl,hTl,hpl,ht10,hp9];rfl
      ·have hl0':¬ (0:Int)<(x.length:Int):=by omega
       simp +contextual -implicitDefEqProofs (disch:=omega) only[Tryz.f4,dd4,go_sem,simprocAttr,mu4,↓AD,↓AC,↓AB,↓AA,hl0',hc,hk2,hp',hx',hLl,hTl,hpl,ht10,hp9];rfl
    | false=>
      rw[hru]at hp9;simp +contextual -implicitDefEqProofs (disch:=omega) only[Tryz.f4,dd4,go_sem,simprocAttr,mu4,↓AD,↓AC,↓AB,↓AA,h17,h10,hk2,hp',hx',hLl,hTl,hpl,ht10,hp9];repeat' (first|intro _|apply And.intro|(unfold dOk;kernel_rfl)|exact St.beq_refl _|exact AQ|(show altO _ _ _ _=true;kernel_rfl)|(show (_||_)=true;kernel_rfl)|(show (_&&_)=true;kernel_rfl))
      refine AY (M:=(mskOf (pol1.mask 4) (pol1.gc 4) (pol1.acts 4) 0 15)) (by rfl) 0 (fun j=>(⟨151,[(17,I j),(16,I 255),(15,I (chkP p)),(14,I (chkP p)),(13,.bool false),(12,I k),(11,I i),(10,.sl true (T.map fun x=>.sl false (x.map I))),(9,.sl true (L.map patAV))],[]⟩:St)) (fun _=>True) (fun j hj=>by omega) ?_ trivial _ (by rfl);intro _;by_cases hl0:0<x.length
      ·have hl0':(0:Int)<(x.length:Int):=by omega
       simp +contextual -implicitDefEqProofs (disch:=omega) only[Tryz.f4,dd4,go_sem,simprocAttr,mu4,↓AD,↓AC,↓AB,↓AA,hl0',hc,hk2,hp',hx',hLl,hTl,hpl,ht10,hp9];rfl
      ·have hl0':¬ (0:Int)<(x.length:Int):=by omega
       simp +contextual -implicitDefEqProofs (disch:=omega) only[Tryz.f4,dd4,go_sem,simprocAttr,mu4,↓AD,↓AC,↓AB,↓AA,hl0',hc,hk2,hp',hx',hLl,hTl,hpl,ht10,hp9];rfl
  ·intro _;simp +contextual -implicitDefEqProofs (disch:=omega) only[Tryz.f4,dd4,go_sem,simprocAttr,mu4,↓AD,↓AC,↓AB,↓AA];rfl
  ·rfl
 ·intro _;have hLl:L.length=4:=by rw[<- hL];rfl
  have hp0:(L.map patAV)[0]?=some (.agg (patC ⟨treeI l 24,4,false⟩)):=by rw[<- hL];rfl
  obtain⟨p,hp⟩:∃ p,(⟨treeI l 24,4,false⟩:Pat)=p:=⟨_,rfl⟩;have hpw:p.re.wt<=2000:=by rw[<- hp];exact ES l 24
  rw[hp]at hp0;have hpl:(patC p).length=10:=by show (reC p.re++[I p.caps,.bool p.runes]).length=10;simp[AI]
  have ht10:(patC p).take 10=patC p:=take_of_length_le (by omega);have hpk:AV.plainL (patC p)=true:=Ai p;obtain⟨Z,hZ⟩:∃ Z,List.replicate 65537 (0:Int)=Z:=⟨_,rfl⟩;have hZl:Z.length=65537:=by rw[<- hZ,List.length_replicate]
  have h17:∀ H,call Pg pol1 17 [AV.agg (patC p),.sl false (Z.map I)] H=some (wholeA p Z,H):=fun H=>d17 p Z (by omega) (.inr (by omega)) (by omega) H;have h10:∀ H,call Pg pol1 10 [AV.agg (patC p)] H=some (I (chkP p),H):=fun H=>d10 p (by omega) H;have hroom:roomFor 65537 8=true:=Ad (by omega) (by omega);have h17z:call Pg pol1 17 [AV.agg (patC p),.ms 0 1 65537 0 65537] [.row 1 (List.replicate 65537 (I 0)) 0]=some (wholeA p Z,[.row 1 (List.replicate 65537 (I 0)) 65537]):=by
   have hlz:(List.replicate 65537 (I 0)).length=65537:=List.length_replicate;have hmz:List.replicate 65537 (I 0)=Z.map I:=by rw[<- hZ,map_replicate]
   rw[hmz]at hlz |-;have hfz:fz (.ms 0 1 65537 0 65537) [.row 1 (Z.map I) 0]=some (.sl false (Z.map I),[.row 1 (Z.map I) 65537]):=by
    have:=Ep (n:=5) (id:=0) (k:=1) (z:=0) (tot:=65537) (H:=[.row 1 (Z.map I) 0]) (els:=Z.map I) rfl hlz (AG Z);unfold fz;rw[this];rfl
   rw[A6 (l:=[.agg (patC p),.sl false (Z.map I)]) (H1:=[.row 1 (Z.map I) 65537]) rfl ?_ (by simp[AV.plainL,AV.plain,AG,hpk])]
   ·exact h17 _
   ·simp only[frzArgs,show pol1.byref 17 0=false from rfl,show pol1.byref 17 (0+1)=false from rfl,Bool.false_eq_true,if_false,hfz,Ab _ (show AV.plain (.agg (patC p))=true from hpk)]
  have hwz:wholeA p Z=.tup [.bool false,I (if chkP p=0 then 4 else chkP p)]:=by
   unfold wholeA;by_cases hc:chkP p=0
   ·rw[if_neg (by simpa using hc),if_pos (by omega),if_pos hc]
   ·rw[if_pos hc,if_neg hc]
  rw[hwz]at h17z;have h14':=h14;clear h6a h6b h8 h7 h16 h15 hZ;by_cases hc:chkP p=0
  ·rw[if_pos hc]at h17z;simp +contextual -implicitDefEqProofs (disch:=omega) only[Tryz.f4,dd4,go_sem,simprocAttr,mu4,↓AD,↓AC,↓AB,↓AA,h17z,h10,hp0,hLl,hpl,ht10,hroom,h14',-List.reduceReplicate];refine⟨by unfold dOk;kernel_rfl,?_,fzEq rfl rfl⟩;rw[Bool.or_eq_true];exact .inl (by kernel_rfl)
  ·rw[if_neg hc]at h17z;by_cases hc4:chkP p=4
   ·rw[hc4]at h17z;simp +contextual -implicitDefEqProofs (disch:=omega) only[Tryz.f4,dd4,go_sem,simprocAttr,mu4,↓AD,↓AC,↓AB,↓AA,h17z,h10,hp0,hLl,hpl,ht10,hroom,h14',-List.reduceReplicate];refine⟨by unfold dOk;kernel_rfl,?_,fzEq rfl rfl⟩;rw[Bool.or_eq_true];exact .inl (by kernel_rfl)
   ·simp +contextual -implicitDefEqProofs (disch:=omega) only[Tryz.f4,dd4,go_sem,simprocAttr,mu4,↓AD,↓AC,↓AB,↓AA,h17z,h10,hc4,hc,hp0,hLl,hpl,ht10,hroom,h14',-List.reduceReplicate];refine⟨by unfold dOk;kernel_rfl,?_,fzEq rfl rfl⟩;rw[Bool.or_eq_true];exact .inl (by kernel_rfl)
 ·rw[<- hL,<- hT];rfl
end
end Go.Ev
