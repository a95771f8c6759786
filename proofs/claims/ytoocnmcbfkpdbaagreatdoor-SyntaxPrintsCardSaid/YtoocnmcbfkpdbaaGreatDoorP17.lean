/- What functions of the program compute; no further conditions. -/
import Derived.Test.YtoocnmcbfkpdbaaGreatDoorP16
set_option linter.unusedVariables false
set_option linter.unusedSimpArgs false
open List (all_eq_true append_nil length_append length_cons length_map map_append map_map map_nil map_replicate map_set map_take mem_map mem_of_getElem? take_of_length_le)
open Go.Proofs Go.RowKit Go.IntWalk
set_option maxHeartbeats 8000000
set_option maxRecDepth 100000
namespace Go.Ev
attribute [local go_sem] BA BG bndO bnd evEq eqCells not_false_eq_true not_true_eq_false Ak Array.size_empty length_append tySzE List.head?_drop Nat.mul_one Al Az Ae Am An Go.IntWalk.i64_quo Go.IntWalk.rem_in Ap
section
attribute [local go_sem] evAppend AV.cells map_append
theorem A5 (b0 x x' a a' b:MB) (K:List MB):sameAt (K.length+1+1+1) (b0::x::(K++[a]++[b])) (b0::x'::(K++[a']++[b]))=true:=by
 have h:∀ x a,(b0::x::(K++[a]++[b]))[K.length+1+1+1]?=some b:=fun x a=>by
  rw[List.getElem?_cons_succ,List.getElem?_cons_succ];exact BJ K a b
 unfold sameAt;rw[h,h];exact MB.beq_refl b
section
variable {l:List Int} (hl:∀ x∈l,In64 x) {uses:Int}{d:Nat} (hd:d<=5) (ht:TreeLaw l uses d) (hb:TreeB l uses d)
include hb
theorem IL {s:MS} (hp:Pre (5+3*mA1 d) (3*mS1 d) s):Post (5+3*mA1 d) (3*mS1 d) s (repF l uses (treeF l uses d) s).2:=by
 have hA:=A3 d;have hS:=A1 d;unfold repF;simp only;have p1:=AY l 12 s hp.c;have p2:=p1.trans (AY l 2 _ p1.c);obtain⟨s3,e3,p3⟩:∃ s3,(if 0<andI uses 8 then(if(nx l 4 (nx l 2 (nx l 12 s).2).2).1=0 then 2 else(nx l 2 (nx l 12 s).2).1,(nx l 4 (nx l 2 (nx l 12 s).2).2).2) else nx l 2 (nx l 12 s).2).2=s3/\Post (1+1+1) (0+0+0) s s3:=by
  split
  ·exact⟨_,rfl,p2.trans (AY l 4 _ p2.c)⟩
  ·exact⟨_,rfl,p2.up (by omega) (by omega)⟩
 rw[e3];have q:=hb s3 (hp.step p3 (by omega) (by omega));have r:=p3.trans q;split
 ·exact(r.trans (Cm l _ r.c)).up (by omega) (by omega)
 ·exact r.up (by omega) (by omega)
theorem Ie {s:MS} (hp:Pre (5+3*mA1 d) (3*mS1 d) s):Post (5+3*mA1 d) (3*mS1 d) s (capF l (treeF l uses d) s).2:=by
 have hA:=A3 d;have hS:=A1 d;have hc:=hp.c;unfold capF;simp only;obtain⟨b,s2,e2,p2,c2,hbb⟩:∃(b:Bool) (s2:MS),(if 4<s.caps+1 then(true,s) else if 0<s.caps then(decide ((nx l 9 s).1=0),(nx l 9 s).2) else(false,s))=(b,s2)/\Post 1 0 s s2/\s2.caps=s.caps/\(b=false->¬ 4<s.caps+1):=by
  have p0:Post 1 0 s s:=⟨by omega,by omega,hc⟩;split
  ·exact⟨_,_,rfl,p0,rfl,fun h=>by cases h⟩
  ·rename_i h4;split
   ·exact⟨_,_,rfl,AY l 9 s hc,rfl,fun _=>h4⟩
   ·exact⟨_,_,rfl,p0,rfl,fun _=>h4⟩
 rw[e2];simp only;have hm1:0<max 1 s2.caps:=by omega
 have hv:=BF l hm1 s2;have p3:=p2.trans (AY l (max 1 s2.caps) s2 p2.c);have c3:(nx l (max 1 s2.caps) s2).2.caps=s2.caps:=rfl;obtain⟨m,s4,e4,p4,c4,hm⟩:∃(m:Int) (s4:MS),(if b=true then(1+(nx l (max 1 s2.caps) s2).1,(nx l (max 1 s2.caps) s2).2) else(s.caps+1,s2))=(m,s4)/\Post (1+1) (0+0) s s4/\s4.caps=s.caps/\(0<=m/\m<=4):=by
  cases b with
  | true=>exact⟨_,_,if_pos rfl,p3,by rw[c3,c2],by omega⟩
  | false=>
    have:=hbb rfl;exact⟨_,_,if_neg Bool.false_ne_true,p2.up (by omega) (by omega),c2,by omega⟩
 rw[e4];simp only;have p5:Post 2 0 s ⟨s4.at_,s4.left,max s4.caps m⟩:=⟨by have:=p4.a;simp only;omega,by have:=p4.l;simp only;omega,by simp only;omega⟩;have q:=hb _ (hp.step p5 (by omega) (by omega));exact(p5.trans q).up (by omega) (by omega)
theorem II {s:MS} (k:Int) (hp:Pre (8+3*mA1 d) (3*mS1 d) s):Post (8+3*mA1 d) (3*mS1 d) s (treeStep l uses (treeF l uses d) k s).2:=by
 have hA:=A3 d;have hS:=A1 d;have hp5:Pre (5+3*mA1 d) (3*mS1 d) s:=⟨⟨hp.a.1,by have:=hp.a;omega⟩,hp.l,hp.c⟩;have hlf:Post 1 0 s (leafF l k s).2:=by
  unfold leafF;split
  ·exact⟨by simp only;omega,by simp only;omega,hp.c⟩
  ·exact Cm l s hp.c
 have n6:=AY l 6 s hp.c;have n3:=AY l 3 s hp.c;have n32:=n3.trans (AY l 2 _ n3.c);have nc:=AY l s.caps s hp.c;have hA2:Pre (mA1 d) (mS1 d) s:=hp.step (x:=0) (y:=0) ⟨by omega,by omega,hp.c⟩ (by omega) (by omega);unfold treeStep;split
 ·exact hlf.up (by omega) (by omega)
 split
 ·exact(Ed hb hp5).up (by omega) (by omega)
 split
 ·exact(Ed hb hp5).up (by omega) (by omega)
 split
 ·exact(IL hb hp5).up (by omega) (by omega)
 split
 ·exact(Ie hb hp5).up (by omega) (by omega)
 split
 ·exact n6.up (by omega) (by omega)
 split
 ·exact(n32.trans (hb _ (hp.step n32 (by omega) (by omega)))).up (by omega) (by omega)
 split
 ·exact(hb _ hA2).up (by omega) (by omega)
 split
 ·exact nc.up (by omega) (by omega)
 split
 ·have y:=nc.trans (hb _ (hp.step nc (by omega) (by omega)));exact(y.trans (hb _ (hp.step y (by omega) (by omega)))).up (by omega) (by omega)
 ·exact(Cm l s hp.c).up (by omega) (by omega)
theorem HC:TreeB l uses (d+1):=by
 intro s hp;have hA:=A3 d;have hS:=A1 d;simp only[mA1,mS1]at hp |-;have hc:=hp.c;have p0:Post 0 1 s ⟨s.at_,s.left-1,s.caps⟩:=⟨by simp only;omega,by simp only;omega,hc⟩;have p1:=p0.trans (AY l 20 _ p0.c);exact(p1.trans (II hb _ (hp.step p1 (by omega) (by omega)))).up (by omega) (by omega)
end
theorem HB {l:List Int}{uses:Int}:TreeB l uses 0:=by
 intro s hp;have hc:=hp.c;have p0:Post 0 1 s ⟨s.at_,s.left-1,s.caps⟩:=⟨by simp only;omega,by simp only;omega,hc⟩;have p1:=p0.trans (AY l 20 _ p0.c);simp only[treeF,mA1,mS1];unfold leafF;split
 ·exact p1.up (by omega) (by omega)
 ·exact(p1.trans (Cm l _ p1.c)).up (by omega) (by omega)
theorem L7 {l:List Int} (hl:∀ x∈l,In64 x) {uses:Int} (s:MS) (b0:MB) (K:List MB) (hp:Pre (mA1 0) (mS1 0) s) (k:Int) (s1:MS) (hk:nx l 20 ⟨s.at_,s.left-1,s.caps⟩=(k,s1)) :
  call Pg pol1 59 [.rf 1 1 0 0,I ((0:Nat):Int)] (mH b0 l uses s K)=some (reAV (leafF l k s1).1,mH b0 l uses (leafF l k s1).2 K):=by
 simp only[mA1,mS1]at hp;have hq:=BF l (n:=20) (by omega) ⟨s.at_,s.left-1,s.caps⟩;have p1:=AY l 20 ⟨s.at_,s.left-1,s.caps⟩ hp.c;obtain⟨pa,pl,pc⟩:=hp;have h97:=fun K=>f97 l hl uses 20 (by omega) ⟨s.at_,s.left-1,s.caps⟩ ⟨pa.1,by simp only;omega⟩ b0 K;rw[hk]at hq p1 h97;clear hk;simp only at hq p1 h97;obtain⟨qa,ql,qc⟩:=p1;simp only at qa ql;have hw:IntKind.i64.wrap (s.left-1)=s.left-1:=i64_in _ ⟨by omega,by omega⟩;have h98:=fun K=>f98 l hl uses s1 ⟨by omega,by omega⟩ b0 K;generalize hY:setM l s1=Y at *;have fr:frzArgs pol1 59 0 [.rf 1 1 0 0,I ((0:Nat):Int)] (mH b0 l uses s K)=some ([.rf 1 1 0 0,I ((0:Nat):Int)],mH b0 l uses s K):=AR _ _ _ rfl;by_cases hk0:k=0
 ·subst hk0;rw[show leafF l 0 s1=(.mk 0 [] [] 0 0 0 0 false,s1) from if_pos rfl];refine AT (pol:=pol1) Tryz.func59 rfl rfl rfl rfl fr ?_
  all_goals simp +contextual (disch:=omega) only[Tryz.f59,dd59,go_sem,simprocAttr,mu59,↓AD,↓AC,↓AB,↓AA,h97,hw,Ah,Ad,BN,BJ,BM,BL,A5,A0,Av,Aq,Au,Ar,As,At,AO,AU,AP,AS,append_nil]
  all_goals repeat' (first|intro _|apply And.intro|(unfold dOk;kernel_rfl)|exact St.beq_refl _|exact AI|(show altO _ _ _ _=true;kernel_rfl)|(show (_||_)=true;kernel_rfl)|(show (_&&_)=true;kernel_rfl))
  all_goals exact BY (by rfl) (by rfl) s s1 (ex1 ..) true true 0 [] [] 0 0 0 0 false
 ·rw[show leafF l k s1=Y from(if_neg hk0).trans hY];obtain⟨Y1,Y2⟩:=Y;refine AT (pol:=pol1) Tryz.func59 rfl rfl rfl rfl fr ?_
  all_goals simp +contextual (disch:=omega) only[Tryz.f59,dd59,go_sem,simprocAttr,mu59,↓AD,↓AC,↓AB,↓AA,h97,hw,Ah,Ad,BN,BJ,BM,BL,A5,A0,Av,Aq,Au,Ar,As,At,AO,AU,AP,AS,append_nil,h98]
  all_goals repeat' (first|intro _|apply And.intro|(unfold dOk;kernel_rfl)|exact St.beq_refl _|exact AI|(show altO _ _ _ _=true;kernel_rfl)|(show (_||_)=true;kernel_rfl)|(show (_&&_)=true;kernel_rfl))
  all_goals exact CP rfl rfl s _ (ex1 ..) (fun H=>Ao H (BD _)) (BD _)
theorem L6 {l:List Int} (hl:∀ x∈l,In64 x) {uses:Int}{d:Nat} (hd:d<=5) (s:MS) (b0:MB) (K:List MB) (hp:Pre (mA1 (d+1)) (mS1 (d+1)) s) (k:Int) (s1:MS) (hk:nx l 20 ⟨s.at_,s.left-1,s.caps⟩=(k,s1)) (hc:s1.left<3∨(l.length:Int)<s1.at_) :
  call Pg pol1 59 [.rf 1 1 0 0,I (((d+1):Nat):Int)] (mH b0 l uses s K)=some (reAV (leafF l k s1).1,mH b0 l uses (leafF l k s1).2 K):=by
 simp only[mA1,mS1]at hp;have hA:=A3 d;have hS:=A1 d;have hq:=BF l (n:=20) (by omega) ⟨s.at_,s.left-1,s.caps⟩;have p1:=AY l 20 ⟨s.at_,s.left-1,s.caps⟩ hp.c;obtain⟨pa,pl,pc⟩:=hp;have h97:=fun K=>f97 l hl uses 20 (by omega) ⟨s.at_,s.left-1,s.caps⟩ ⟨pa.1,by simp only;omega⟩ b0 K;rw[hk]at hq p1 h97;clear hk;simp only at hq p1 h97;obtain⟨qa,ql,qc⟩:=p1;simp only at qa ql;have hw:IntKind.i64.wrap (s.left-1)=s.left-1:=i64_in _ ⟨by omega,by omega⟩;have hc':s1.left<3∨(¬ s1.left<3/\(l.length:Int)<s1.at_):=by omega
 have h98:=fun K=>f98 l hl uses s1 ⟨by omega,by omega⟩ b0 K;generalize hY:setM l s1=Y at *;have fr:frzArgs pol1 59 0 [.rf 1 1 0 0,I (((d+1):Nat):Int)] (mH b0 l uses s K)=some ([.rf 1 1 0 0,I (((d+1):Nat):Int)],mH b0 l uses s K):=AR _ _ _ rfl;by_cases hk0:k=0
 ·subst hk0;rw[show leafF l 0 s1=(.mk 0 [] [] 0 0 0 0 false,s1) from if_pos rfl];refine AT (pol:=pol1) Tryz.func59 rfl rfl rfl rfl fr ?_;rcases hc' with hc1|⟨hc1,hc2⟩
  all_goals simp +contextual (disch:=omega) only[Tryz.f59,dd59,go_sem,simprocAttr,mu59,↓AD,↓AC,↓AB,↓AA,h97,hw,Ah,Ad,BN,BJ,BM,BL,A5,A0,Av,Aq,Au,Ar,As,At,AO,AU,AP,AS,append_nil]
  all_goals repeat' (first|intro _|apply And.intro|(unfold dOk;kernel_rfl)|exact St.beq_refl _|exact AI|(show altO _ _ _ _=true;kernel_rfl)|(show (_||_)=true;kernel_rfl)|(show (_&&_)=true;kernel_rfl))
  all_goals exact BY (by rfl) (by rfl) s s1 (ex1 ..) true true 0 [] [] 0 0 0 0 false
 ·rw[show leafF l k s1=Y from(if_neg hk0).trans hY];obtain⟨Y1,Y2⟩:=Y;refine AT (pol:=pol1) Tryz.func59 rfl rfl rfl rfl fr ?_;rcases hc' with hc1|⟨hc1,hc2⟩
  all_goals simp +contextual (disch:=omega) only[Tryz.f59,dd59,go_sem,simprocAttr,mu59,↓AD,↓AC,↓AB,↓AA,h97,hw,Ah,Ad,BN,BJ,BM,BL,A5,A0,Av,Aq,Au,Ar,As,At,AO,AU,AP,AS,append_nil,h98]
  all_goals repeat' (first|intro _|apply And.intro|(unfold dOk;kernel_rfl)|exact St.beq_refl _|exact AI|(show altO _ _ _ _=true;kernel_rfl)|(show (_||_)=true;kernel_rfl)|(show (_&&_)=true;kernel_rfl))
  all_goals exact CP rfl rfl s _ (ex1 ..) (fun H=>Ao H (BD _)) (BD _)
theorem LC {l:List Int} (hl:∀ x∈l,In64 x) {uses:Int}{d:Nat} (hd:d<=5) (ht:TreeLaw l uses d) (hb:TreeB l uses d) (s:MS) (b0:MB) (K:List MB) (hp:Pre (mA1 (d+1)) (mS1 (d+1)) s) (k:Int) (s1:MS) (hk:nx l 20 ⟨s.at_,s.left-1,s.caps⟩=(k,s1)) (hn1:¬ s1.left<3) (hn2:¬ (l.length:Int)<s1.at_) (h:k<5) :
  call Pg pol1 59 [.rf 1 1 0 0,I ((d+1:Nat):Int)] (mH b0 l uses s K)=some (reAV ((.mk 2 [] (kidsF l (treeF l uses d) s1).1 0 0 0 0 false,(kidsF l (treeF l uses d) s1).2):Re×MS).1,mH b0 l uses ((.mk 2 [] (kidsF l (treeF l uses d) s1).1 0 0 0 0 false,(kidsF l (treeF l uses d) s1).2):Re×MS).2 K):=by
 simp only[mA1,mS1]at hp;have hA:=A3 d;have hS:=A1 d;have hq:=BF l (n:=20) (by omega) ⟨s.at_,s.left-1,s.caps⟩;have p1:=AY l 20 ⟨s.at_,s.left-1,s.caps⟩ hp.c;obtain⟨pa,pl,pc⟩:=hp;have h97:=fun K=>f97 l hl uses 20 (by omega) ⟨s.at_,s.left-1,s.caps⟩ ⟨pa.1,by simp only;omega⟩ b0 K;rw[hk]at hq p1 h97;clear hk;simp only at hq p1 h97;obtain⟨qa,ql,qc⟩:=p1;simp only at qa ql;have hw:IntKind.i64.wrap (s.left-1)=s.left-1:=i64_in _ ⟨by omega,by omega⟩;have hp5:Pre (5+3*mA1 d) (3*mS1 d) s1:=⟨⟨by omega,by omega⟩,⟨by omega,by omega⟩,qc⟩;have h99:=fun K=>f99 hl hd ht hb s1 hp5 b0 K;generalize kidsF l (treeF l uses d) s1=Y at *;obtain⟨Y1,Y2⟩:=Y;simp only at h99 |-;have fr:frzArgs pol1 59 0 [.rf 1 1 0 0,I ((d+1:Nat):Int)] (mH b0 l uses s K)=some ([.rf 1 1 0 0,I ((d+1:Nat):Int)],mH b0 l uses s K):=AR _ _ _ rfl;refine AT (pol:=pol1) Tryz.func59 rfl rfl rfl rfl fr ?_;simp +contextual (disch:=omega) only[Tryz.f59,dd59,go_sem,simprocAttr,mu59,↓AD,↓AC,↓AB,↓AA,h97,hw,Ah,Ad,BN,BJ,BM,BL,A5,A0,Av,Aq,Au,Ar,As,At,AO,AU,AP,AS,append_nil,h99];repeat' (first|intro _|apply And.intro|(unfold dOk;kernel_rfl)|exact St.beq_refl _|exact AI|(show altO _ _ _ _=true;kernel_rfl)|(show (_||_)=true;kernel_rfl)|(show (_&&_)=true;kernel_rfl))
 exact BY (by rfl) (by rfl) s _ (ex1 ..) true false 2 [] Y1 0 0 0 0 false
theorem LD {l:List Int} (hl:∀ x∈l,In64 x) {uses:Int}{d:Nat} (hd:d<=5) (ht:TreeLaw l uses d) (hb:TreeB l uses d) (s:MS) (b0:MB) (K:List MB) (hp:Pre (mA1 (d+1)) (mS1 (d+1)) s) (k:Int) (s1:MS) (hk:nx l 20 ⟨s.at_,s.left-1,s.caps⟩=(k,s1)) (hn1:¬ s1.left<3) (hn2:¬ (l.length:Int)<s1.at_) (h:5<=k) (h2:k<8) :
  call Pg pol1 59 [.rf 1 1 0 0,I ((d+1:Nat):Int)] (mH b0 l uses s K)=some (reAV ((.mk 3 [] (kidsF l (treeF l uses d) s1).1 0 0 0 0 false,(kidsF l (treeF l uses d) s1).2):Re×MS).1,mH b0 l uses ((.mk 3 [] (kidsF l (treeF l uses d) s1).1 0 0 0 0 false,(kidsF l (treeF l uses d) s1).2):Re×MS).2 K):=by
 simp only[mA1,mS1]at hp;have hA:=A3 d;have hS:=A1 d;have hq:=BF l (n:=20) (by omega) ⟨s.at_,s.left-1,s.caps⟩;have p1:=AY l 20 ⟨s.at_,s.left-1,s.caps⟩ hp.c;obtain⟨pa,pl,pc⟩:=hp;have h97:=fun K=>f97 l hl uses 20 (by omega) ⟨s.at_,s.left-1,s.caps⟩ ⟨pa.1,by simp only;omega⟩ b0 K;rw[hk]at hq p1 h97;clear hk;simp only at hq p1 h97;obtain⟨qa,ql,qc⟩:=p1;simp only at qa ql;have hw:IntKind.i64.wrap (s.left-1)=s.left-1:=i64_in _ ⟨by omega,by omega⟩;have hp5:Pre (5+3*mA1 d) (3*mS1 d) s1:=⟨⟨by omega,by omega⟩,⟨by omega,by omega⟩,qc⟩;have h99:=fun K=>f99 hl hd ht hb s1 hp5 b0 K;generalize kidsF l (treeF l uses d) s1=Y at *;obtain⟨Y1,Y2⟩:=Y;simp only at h99 |-;have fr:frzArgs pol1 59 0 [.rf 1 1 0 0,I ((d+1:Nat):Int)] (mH b0 l uses s K)=some ([.rf 1 1 0 0,I ((d+1:Nat):Int)],mH b0 l uses s K):=AR _ _ _ rfl;refine AT (pol:=pol1) Tryz.func59 rfl rfl rfl rfl fr ?_;simp +contextual (disch:=omega) only[Tryz.f59,dd59,go_sem,simprocAttr,mu59,↓AD,↓AC,↓AB,↓AA,h97,hw,Ah,Ad,BN,BJ,BM,BL,A5,A0,Av,Aq,Au,Ar,As,At,AO,AU,AP,AS,append_nil,h99];repeat' (first|intro _|apply And.intro|(unfold dOk;kernel_rfl)|exact St.beq_refl _|exact AI|(show altO _ _ _ _=true;kernel_rfl)|(show (_||_)=true;kernel_rfl)|(show (_&&_)=true;kernel_rfl))
 exact BY (by rfl) (by rfl) s _ (ex1 ..) true false 3 [] Y1 0 0 0 0 false
theorem LA {l:List Int} (hl:∀ x∈l,In64 x) {uses:Int}{d:Nat} (hd:d<=5) (ht:TreeLaw l uses d) (hb:TreeB l uses d) (s:MS) (b0:MB) (K:List MB) (hp:Pre (mA1 (d+1)) (mS1 (d+1)) s) (k:Int) (s1:MS) (hk:nx l 20 ⟨s.at_,s.left-1,s.caps⟩=(k,s1)) (hn1:¬ s1.left<3) (hn2:¬ (l.length:Int)<s1.at_) (h:8<=k) (h2:k<12) :
  call Pg pol1 59 [.rf 1 1 0 0,I ((d+1:Nat):Int)] (mH b0 l uses s K)=some (reAV (repF l uses (treeF l uses d) s1).1,mH b0 l uses (repF l uses (treeF l uses d) s1).2 K):=by
 simp only[mA1,mS1]at hp;have hA:=A3 d;have hS:=A1 d;have hq:=BF l (n:=20) (by omega) ⟨s.at_,s.left-1,s.caps⟩;have p1:=AY l 20 ⟨s.at_,s.left-1,s.caps⟩ hp.c;obtain⟨pa,pl,pc⟩:=hp;have h97:=fun K=>f97 l hl uses 20 (by omega) ⟨s.at_,s.left-1,s.caps⟩ ⟨pa.1,by simp only;omega⟩ b0 K;rw[hk]at hq p1 h97;clear hk;simp only at hq p1 h97;obtain⟨qa,ql,qc⟩:=p1;simp only at qa ql;have hw:IntKind.i64.wrap (s.left-1)=s.left-1:=i64_in _ ⟨by omega,by omega⟩;have hp5:Pre (5+3*mA1 d) (3*mS1 d) s1:=⟨⟨by omega,by omega⟩,⟨by omega,by omega⟩,qc⟩;have h100:=fun K=>f100 hl hd ht hb s1 hp5 b0 K;generalize repF l uses (treeF l uses d) s1=Y at *;obtain⟨Y1,Y2⟩:=Y;simp only at h100 |-;have fr:frzArgs pol1 59 0 [.rf 1 1 0 0,I ((d+1:Nat):Int)] (mH b0 l uses s K)=some ([.rf 1 1 0 0,I ((d+1:Nat):Int)],mH b0 l uses s K):=AR _ _ _ rfl;refine AT (pol:=pol1) Tryz.func59 rfl rfl rfl rfl fr ?_;simp +contextual (disch:=omega) only[Tryz.f59,dd59,go_sem,simprocAttr,mu59,↓AD,↓AC,↓AB,↓AA,h97,hw,Ah,Ad,BN,BJ,BM,BL,A5,A0,Av,Aq,Au,Ar,As,At,AO,AU,AP,AS,append_nil,h100];repeat' (first|intro _|apply And.intro|(unfold dOk;kernel_rfl)|exact St.beq_refl _|exact AI|(show altO _ _ _ _=true;kernel_rfl)|(show (_||_)=true;kernel_rfl)|(show (_&&_)=true;kernel_rfl))
 exact CP rfl rfl s _ (ex1 ..) (fun H=>Ao H (BD _)) (BD _)
theorem Ix {l:List Int} (hl:∀ x∈l,In64 x) {uses:Int}{d:Nat} (hd:d<=5) (ht:TreeLaw l uses d) (hb:TreeB l uses d) (s:MS) (b0:MB) (K:List MB) (hp:Pre (mA1 (d+1)) (mS1 (d+1)) s) (k:Int) (s1:MS) (hk:nx l 20 ⟨s.at_,s.left-1,s.caps⟩=(k,s1)) (hn1:¬ s1.left<3) (hn2:¬ (l.length:Int)<s1.at_) (h:k=12) (u:0<andI uses 64) :
  call Pg pol1 59 [.rf 1 1 0 0,I ((d+1:Nat):Int)] (mH b0 l uses s K)=some (reAV (capF l (treeF l uses d) s1).1,mH b0 l uses (capF l (treeF l uses d) s1).2 K):=by
 simp only[mA1,mS1]at hp;have hA:=A3 d;have hS:=A1 d;have hq:=BF l (n:=20) (by omega) ⟨s.at_,s.left-1,s.caps⟩;have p1:=AY l 20 ⟨s.at_,s.left-1,s.caps⟩ hp.c;obtain⟨pa,pl,pc⟩:=hp;have h97:=fun K=>f97 l hl uses 20 (by omega) ⟨s.at_,s.left-1,s.caps⟩ ⟨pa.1,by simp only;omega⟩ b0 K;rw[hk]at hq p1 h97;clear hk;simp only at hq p1 h97;obtain⟨qa,ql,qc⟩:=p1;simp only at qa ql;have hw:IntKind.i64.wrap (s.left-1)=s.left-1:=i64_in _ ⟨by omega,by omega⟩;have hp5:Pre (5+3*mA1 d) (3*mS1 d) s1:=⟨⟨by omega,by omega⟩,⟨by omega,by omega⟩,qc⟩;subst h;have h101:=fun K=>f101 hl hd ht hb s1 hp5 b0 K;generalize capF l (treeF l uses d) s1=Y at *;obtain⟨Y1,Y2⟩:=Y;simp only at h101 |-;have fr:frzArgs pol1 59 0 [.rf 1 1 0 0,I ((d+1:Nat):Int)] (mH b0 l uses s K)=some ([.rf 1 1 0 0,I ((d+1:Nat):Int)],mH b0 l uses s K):=AR _ _ _ rfl;refine AT (pol:=pol1) Tryz.func59 rfl rfl rfl rfl fr ?_;simp +contextual (disch:=omega) only[Tryz.f59,dd59,go_sem,simprocAttr,mu59,↓AD,↓AC,↓AB,↓AA,h97,hw,Ah,Ad,BN,BJ,BM,BL,A5,A0,Av,Aq,Au,Ar,As,At,AO,AU,AP,AS,append_nil,h101];repeat' (first|intro _|apply And.intro|(unfold dOk;kernel_rfl)|exact St.beq_refl _|exact AI|(show altO _ _ _ _=true;kernel_rfl)|(show (_||_)=true;kernel_rfl)|(show (_&&_)=true;kernel_rfl))
 exact CP rfl rfl s _ (ex1 ..) (fun H=>Ao H (BD _)) (BD _)
theorem Iw {l:List Int} (hl:∀ x∈l,In64 x) {uses:Int}{d:Nat} (hd:d<=5) (ht:TreeLaw l uses d) (hb:TreeB l uses d) (s:MS) (b0:MB) (K:List MB) (hp:Pre (mA1 (d+1)) (mS1 (d+1)) s) (k:Int) (s1:MS) (hk:nx l 20 ⟨s.at_,s.left-1,s.caps⟩=(k,s1)) (hn1:¬ s1.left<3) (hn2:¬ (l.length:Int)<s1.at_) (h:k=13) (u:0<andI uses 64) :
  call Pg pol1 59 [.rf 1 1 0 0,I ((d+1:Nat):Int)] (mH b0 l uses s K)=some (reAV (capF l (treeF l uses d) s1).1,mH b0 l uses (capF l (treeF l uses d) s1).2 K):=by
 simp only[mA1,mS1]at hp;have hA:=A3 d;have hS:=A1 d;have hq:=BF l (n:=20) (by omega) ⟨s.at_,s.left-1,s.caps⟩;have p1:=AY l 20 ⟨s.at_,s.left-1,s.caps⟩ hp.c;obtain⟨pa,pl,pc⟩:=hp;have h97:=fun K=>f97 l hl uses 20 (by omega) ⟨s.at_,s.left-1,s.caps⟩ ⟨pa.1,by simp only;omega⟩ b0 K;rw[hk]at hq p1 h97;clear hk;simp only at hq p1 h97;obtain⟨qa,ql,qc⟩:=p1;simp only at qa ql;have hw:IntKind.i64.wrap (s.left-1)=s.left-1:=i64_in _ ⟨by omega,by omega⟩;have hp5:Pre (5+3*mA1 d) (3*mS1 d) s1:=⟨⟨by omega,by omega⟩,⟨by omega,by omega⟩,qc⟩;subst h;have h101:=fun K=>f101 hl hd ht hb s1 hp5 b0 K;generalize capF l (treeF l uses d) s1=Y at *;obtain⟨Y1,Y2⟩:=Y;simp only at h101 |-;have fr:frzArgs pol1 59 0 [.rf 1 1 0 0,I ((d+1:Nat):Int)] (mH b0 l uses s K)=some ([.rf 1 1 0 0,I ((d+1:Nat):Int)],mH b0 l uses s K):=AR _ _ _ rfl;refine AT (pol:=pol1) Tryz.func59 rfl rfl rfl rfl fr ?_;simp +contextual (disch:=omega) only[Tryz.f59,dd59,go_sem,simprocAttr,mu59,↓AD,↓AC,↓AB,↓AA,h97,hw,Ah,Ad,BN,BJ,BM,BL,A5,A0,Av,Aq,Au,Ar,As,At,AO,AU,AP,AS,append_nil,h101];repeat' (first|intro _|apply And.intro|(unfold dOk;kernel_rfl)|exact St.beq_refl _|exact AI|(show altO _ _ _ _=true;kernel_rfl)|(show (_||_)=true;kernel_rfl)|(show (_&&_)=true;kernel_rfl))
 exact CP rfl rfl s _ (ex1 ..) (fun H=>Ao H (BD _)) (BD _)
theorem Ln {l:List Int} (hl:∀ x∈l,In64 x) {uses:Int}{d:Nat} (hd:d<=5) (ht:TreeLaw l uses d) (hb:TreeB l uses d) (s:MS) (b0:MB) (K:List MB) (hp:Pre (mA1 (d+1)) (mS1 (d+1)) s) (k:Int) (s1:MS) (hk:nx l 20 ⟨s.at_,s.left-1,s.caps⟩=(k,s1)) (hn1:¬ s1.left<3) (hn2:¬ (l.length:Int)<s1.at_) (h:k=14) (u:0<andI uses 16) :
  call Pg pol1 59 [.rf 1 1 0 0,I ((d+1:Nat):Int)] (mH b0 l uses s K)=some (reAV ((.mk 11 [] [] 0 0 0 (nx l 6 s1).1 false,(nx l 6 s1).2):Re×MS).1,mH b0 l uses ((.mk 11 [] [] 0 0 0 (nx l 6 s1).1 false,(nx l 6 s1).2):Re×MS).2 K):=by
 simp only[mA1,mS1]at hp;have hA:=A3 d;have hS:=A1 d;have hq:=BF l (n:=20) (by omega) ⟨s.at_,s.left-1,s.caps⟩;have p1:=AY l 20 ⟨s.at_,s.left-1,s.caps⟩ hp.c;obtain⟨pa,pl,pc⟩:=hp;have h97:=fun K=>f97 l hl uses 20 (by omega) ⟨s.at_,s.left-1,s.caps⟩ ⟨pa.1,by simp only;omega⟩ b0 K;rw[hk]at hq p1 h97;clear hk;simp only at hq p1 h97;obtain⟨qa,ql,qc⟩:=p1;simp only at qa ql;have hw:IntKind.i64.wrap (s.left-1)=s.left-1:=i64_in _ ⟨by omega,by omega⟩;have hp5:Pre (5+3*mA1 d) (3*mS1 d) s1:=⟨⟨by omega,by omega⟩,⟨by omega,by omega⟩,qc⟩;subst h;have h97b:=fun K=>f97 l hl uses 6 (by omega) s1 ⟨by omega,by omega⟩ b0 K;generalize nx l 6 s1=Y at *;obtain⟨Y1,Y2⟩:=Y;simp only at h97b |-;have fr:frzArgs pol1 59 0 [.rf 1 1 0 0,I ((d+1:Nat):Int)] (mH b0 l uses s K)=some ([.rf 1 1 0 0,I ((d+1:Nat):Int)],mH b0 l uses s K):=AR _ _ _ rfl;refine AT (pol:=pol1) Tryz.func59 rfl rfl rfl rfl fr ?_;simp +contextual (disch:=omega) only[Tryz.f59,dd59,go_sem,simprocAttr,mu59,↓AD,↓AC,↓AB,↓AA,h97,hw,Ah,Ad,BN,BJ,BM,BL,A5,A0,Av,Aq,Au,Ar,As,At,AO,AU,AP,AS,append_nil,h97b];repeat' (first|intro _|apply And.intro|(unfold dOk;kernel_rfl)|exact St.beq_refl _|exact AI|(show altO _ _ _ _=true;kernel_rfl)|(show (_||_)=true;kernel_rfl)|(show (_&&_)=true;kernel_rfl))
 exact BY (by rfl) (by rfl) s _ (ex1 ..) true true 11 [] [] 0 0 0 Y1 false
theorem KC {l:List Int} (hl:∀ x∈l,In64 x) {uses:Int}{d:Nat} (hd:d<=5) (ht:TreeLaw l uses d) (hb:TreeB l uses d) (s:MS) (b0:MB) (K:List MB) (hp:Pre (mA1 (d+1)) (mS1 (d+1)) s) (k:Int) (s1:MS) (hk:nx l 20 ⟨s.at_,s.left-1,s.caps⟩=(k,s1)) (hn1:¬ s1.left<3) (hn2:¬ (l.length:Int)<s1.at_) (h:k=15) (u:0<andI uses 4) :
  call Pg pol1 59 [.rf 1 1 0 0,I ((d+1:Nat):Int)] (mH b0 l uses s K)=some (reAV ((.mk (7+(nx l 2 (nx l 3 s1).2).1) [] [(treeF l uses d (nx l 2 (nx l 3 s1).2).2).1] 0 0 0 0 ((nx l 3 s1).1==0),(treeF l uses d (nx l 2 (nx l 3 s1).2).2).2):Re×MS).1,mH b0 l uses ((.mk (7+(nx l 2 (nx l 3 s1).2).1) [] [(treeF l uses d (nx l 2 (nx l 3 s1).2).2).1] 0 0 0 0 ((nx l 3 s1).1==0),(treeF l uses d (nx l 2 (nx l 3 s1).2).2).2):Re×MS).2 K):=by
 simp only[mA1,mS1]at hp;have hA:=A3 d;have hS:=A1 d;have hq:=BF l (n:=20) (by omega) ⟨s.at_,s.left-1,s.caps⟩;have p1:=AY l 20 ⟨s.at_,s.left-1,s.caps⟩ hp.c;obtain⟨pa,pl,pc⟩:=hp;have h97:=fun K=>f97 l hl uses 20 (by omega) ⟨s.at_,s.left-1,s.caps⟩ ⟨pa.1,by simp only;omega⟩ b0 K;rw[hk]at hq p1 h97;clear hk;simp only at hq p1 h97;obtain⟨qa,ql,qc⟩:=p1;simp only at qa ql;have hw:IntKind.i64.wrap (s.left-1)=s.left-1:=i64_in _ ⟨by omega,by omega⟩;have hp5:Pre (5+3*mA1 d) (3*mS1 d) s1:=⟨⟨by omega,by omega⟩,⟨by omega,by omega⟩,qc⟩;subst h;have h97b:=fun K=>f97 l hl uses 3 (by omega) s1 ⟨by omega,by omega⟩ b0 K;have r1:=AY l 3 s1 qc;generalize nx l 3 s1=Y at *;obtain⟨x,s2⟩:=Y;simp only at h97b r1 |-;have h97c:=fun K=>f97 l hl uses 2 (by omega) s2 ⟨by have:=r1.a;omega,by have:=r1.a;omega⟩ b0 K;have hv:=BF l (n:=2) (by omega) s2;have r2:=r1.trans (AY l 2 s2 r1.c);generalize nx l 2 s2=Y at *;obtain⟨y,s3⟩:=Y;simp only at h97c hv r2 |-;have h44:=fun K=>ht s3 b0 K (hp5.step r2 (by omega) (by omega));generalize treeF l uses d s3=Y at *;obtain⟨Y1,Y2⟩:=Y;simp only at h44 |-;have fr:frzArgs pol1 59 0 [.rf 1 1 0 0,I ((d+1:Nat):Int)] (mH b0 l uses s K)=some ([.rf 1 1 0 0,I ((d+1:Nat):Int)],mH b0 l uses s K):=AR _ _ _ rfl;refine AT (pol:=pol1) Tryz.func59 rfl rfl rfl rfl fr ?_;simp +contextual (disch:=omega) only[Tryz.f59,dd59,go_sem,simprocAttr,mu59,↓AD,↓AC,↓AB,↓AA,h97,hw,Ah,Ad,BN,BJ,BM,BL,A5,A0,Av,Aq,Au,Ar,As,At,AO,AU,AP,AS,append_nil,h97b,h97c,h44];repeat' (first|intro _|apply And.intro|(unfold dOk;kernel_rfl)|exact St.beq_refl _|exact AI|(show altO _ _ _ _=true;kernel_rfl)|(show (_||_)=true;kernel_rfl)|(show (_&&_)=true;kernel_rfl))
 exact BY (by rfl) (by rfl) s _ (ex1 ..) true true (7+y) [] [Y1] 0 0 0 0 (x==0)
theorem KF {l:List Int} (hl:∀ x∈l,In64 x) {uses:Int}{d:Nat} (hd:d<=5) (ht:TreeLaw l uses d) (hb:TreeB l uses d) (s:MS) (b0:MB) (K:List MB) (hp:Pre (mA1 (d+1)) (mS1 (d+1)) s) (k:Int) (s1:MS) (hk:nx l 20 ⟨s.at_,s.left-1,s.caps⟩=(k,s1)) (hn1:¬ s1.left<3) (hn2:¬ (l.length:Int)<s1.at_) (h:k=16) (u:0<andI uses 8) :
  call Pg pol1 59 [.rf 1 1 0 0,I ((d+1:Nat):Int)] (mH b0 l uses s K)=some (reAV ((.mk 9 [] [(treeF l uses d s1).1] 0 0 0 0 false,(treeF l uses d s1).2):Re×MS).1,mH b0 l uses ((.mk 9 [] [(treeF l uses d s1).1] 0 0 0 0 false,(treeF l uses d s1).2):Re×MS).2 K):=by
 simp only[mA1,mS1]at hp;have hA:=A3 d;have hS:=A1 d;have hq:=BF l (n:=20) (by omega) ⟨s.at_,s.left-1,s.caps⟩;have p1:=AY l 20 ⟨s.at_,s.left-1,s.caps⟩ hp.c;obtain⟨pa,pl,pc⟩:=hp;have h97:=fun K=>f97 l hl uses 20 (by omega) ⟨s.at_,s.left-1,s.caps⟩ ⟨pa.1,by simp only;omega⟩ b0 K;rw[hk]at hq p1 h97;clear hk;simp only at hq p1 h97;obtain⟨qa,ql,qc⟩:=p1;simp only at qa ql;have hw:IntKind.i64.wrap (s.left-1)=s.left-1:=i64_in _ ⟨by omega,by omega⟩;have hp5:Pre (5+3*mA1 d) (3*mS1 d) s1:=⟨⟨by omega,by omega⟩,⟨by omega,by omega⟩,qc⟩;subst h;have h44:=fun K=>ht s1 b0 K ⟨⟨by omega,by omega⟩,⟨by omega,by omega⟩,qc⟩;generalize treeF l uses d s1=Y at *;obtain⟨Y1,Y2⟩:=Y;simp only at h44 |-;have fr:frzArgs pol1 59 0 [.rf 1 1 0 0,I ((d+1:Nat):Int)] (mH b0 l uses s K)=some ([.rf 1 1 0 0,I ((d+1:Nat):Int)],mH b0 l uses s K):=AR _ _ _ rfl;refine AT (pol:=pol1) Tryz.func59 rfl rfl rfl rfl fr ?_;simp +contextual (disch:=omega) only[Tryz.f59,dd59,go_sem,simprocAttr,mu59,↓AD,↓AC,↓AB,↓AA,h97,hw,Ah,Ad,BN,BJ,BM,BL,A5,A0,Av,Aq,Au,Ar,As,At,AO,AU,AP,AS,append_nil,h44];repeat' (first|intro _|apply And.intro|(unfold dOk;kernel_rfl)|exact St.beq_refl _|exact AI|(show altO _ _ _ _=true;kernel_rfl)|(show (_||_)=true;kernel_rfl)|(show (_&&_)=true;kernel_rfl))
 exact BY (by rfl) (by rfl) s _ (ex1 ..) true true 9 [] [Y1] 0 0 0 0 false
theorem LB {l:List Int} (hl:∀ x∈l,In64 x) {uses:Int}{d:Nat} (hd:d<=5) (ht:TreeLaw l uses d) (hb:TreeB l uses d) (s:MS) (b0:MB) (K:List MB) (hp:Pre (mA1 (d+1)) (mS1 (d+1)) s) (k:Int) (s1:MS) (hk:nx l 20 ⟨s.at_,s.left-1,s.caps⟩=(k,s1)) (hn1:¬ s1.left<3) (hn2:¬ (l.length:Int)<s1.at_) (h:k=17) (u:0<andI uses 1) (c:0<s1.caps) :
  call Pg pol1 59 [.rf 1 1 0 0,I ((d+1:Nat):Int)] (mH b0 l uses s K)=some (reAV ((.mk 6 [] [] 0 0 0 (1+(nx l s1.caps s1).1) false,(nx l s1.caps s1).2):Re×MS).1,mH b0 l uses ((.mk 6 [] [] 0 0 0 (1+(nx l s1.caps s1).1) false,(nx l s1.caps s1).2):Re×MS).2 K):=by
 simp only[mA1,mS1]at hp;have hA:=A3 d;have hS:=A1 d;have hq:=BF l (n:=20) (by omega) ⟨s.at_,s.left-1,s.caps⟩;have p1:=AY l 20 ⟨s.at_,s.left-1,s.caps⟩ hp.c;obtain⟨pa,pl,pc⟩:=hp;have h97:=fun K=>f97 l hl uses 20 (by omega) ⟨s.at_,s.left-1,s.caps⟩ ⟨pa.1,by simp only;omega⟩ b0 K;rw[hk]at hq p1 h97;clear hk;simp only at hq p1 h97;obtain⟨qa,ql,qc⟩:=p1;simp only at qa ql;have hw:IntKind.i64.wrap (s.left-1)=s.left-1:=i64_in _ ⟨by omega,by omega⟩;have hp5:Pre (5+3*mA1 d) (3*mS1 d) s1:=⟨⟨by omega,by omega⟩,⟨by omega,by omega⟩,qc⟩;subst h;have h97b:=fun K=>f97 l hl uses s1.caps (by omega) s1 ⟨by omega,by omega⟩ b0 K;have hv:=BF l c s1;generalize nx l s1.caps s1=Y at *;obtain⟨Y1,Y2⟩:=Y;simp only at h97b hv |-;have fr:frzArgs pol1 59 0 [.rf 1 1 0 0,I ((d+1:Nat):Int)] (mH b0 l uses s K)=some ([.rf 1 1 0 0,I ((d+1:Nat):Int)],mH b0 l uses s K):=AR _ _ _ rfl;refine AT (pol:=pol1) Tryz.func59 rfl rfl rfl rfl fr ?_;simp +contextual (disch:=omega) only[Tryz.f59,dd59,go_sem,simprocAttr,mu59,↓AD,↓AC,↓AB,↓AA,h97,hw,Ah,Ad,BN,BJ,BM,BL,A5,A0,Av,Aq,Au,Ar,As,At,AO,AU,AP,AS,append_nil,h97b];repeat' (first|intro _|apply And.intro|(unfold dOk;kernel_rfl)|exact St.beq_refl _|exact AI|(show altO _ _ _ _=true;kernel_rfl)|(show (_||_)=true;kernel_rfl)|(show (_&&_)=true;kernel_rfl))
 exact BY (by rfl) (by rfl) s _ (ex1 ..) true true 6 [] [] 0 0 0 (1+Y1) false
theorem KE {l:List Int} (hl:∀ x∈l,In64 x) {uses:Int}{d:Nat} (hd:d<=5) (ht:TreeLaw l uses d) (hb:TreeB l uses d) (s:MS) (b0:MB) (K:List MB) (hp:Pre (mA1 (d+1)) (mS1 (d+1)) s) (k:Int) (s1:MS) (hk:nx l 20 ⟨s.at_,s.left-1,s.caps⟩=(k,s1)) (hn1:¬ s1.left<3) (hn2:¬ (l.length:Int)<s1.at_) (h:k=18) (u:0<andI uses 2) (c:0<s1.caps) :
  call Pg pol1 59 [.rf 1 1 0 0,I ((d+1:Nat):Int)] (mH b0 l uses s K)=some (reAV ((.mk 10 [] [(treeF l uses d (nx l s1.caps s1).2).1,(treeF l uses d (treeF l uses d (nx l s1.caps s1).2).2).1] 0 0 0 (1+(nx l s1.caps s1).1) false,(treeF l uses d (treeF l uses d (nx l s1.caps s1).2).2).2):Re×MS).1,mH b0 l uses ((.mk 10 [] [(treeF l uses d (nx l s1.caps s1).2).1,(treeF l uses d (treeF l uses d (nx l s1.caps s1).2).2).1] 0 0 0 (1+(nx l s1.caps s1).1) false,(treeF l uses d (treeF l uses d (nx l s1.caps s1).2).2).2):Re×MS).2 K):=by
 simp only[mA1,mS1]at hp;have hA:=A3 d;have hS:=A1 d;have hq:=BF l (n:=20) (by omega) ⟨s.at_,s.left-1,s.caps⟩;have p1:=AY l 20 ⟨s.at_,s.left-1,s.caps⟩ hp.c;obtain⟨pa,pl,pc⟩:=hp;have h97:=fun K=>f97 l hl uses 20 (by omega) ⟨s.at_,s.left-1,s.caps⟩ ⟨pa.1,by simp only;omega⟩ b0 K;rw[hk]at hq p1 h97;clear hk;simp only at hq p1 h97;obtain⟨qa,ql,qc⟩:=p1;simp only at qa ql;have hw:IntKind.i64.wrap (s.left-1)=s.left-1:=i64_in _ ⟨by omega,by omega⟩;have hp5:Pre (5+3*mA1 d) (3*mS1 d) s1:=⟨⟨by omega,by omega⟩,⟨by omega,by omega⟩,qc⟩;subst h;have h97b:=fun K=>f97 l hl uses s1.caps (by omega) s1 ⟨by omega,by omega⟩ b0 K;have hv:=BF l c s1;have r1:=AY l s1.caps s1 qc;generalize nx l s1.caps s1=Y at *;obtain⟨x,s2⟩:=Y;simp only at h97b hv r1 |-;have pr1:Pre (mA1 d) (mS1 d) s2:=hp5.step r1 (by omega) (by omega);have h44a:=fun K=>ht s2 b0 K pr1;have r2:=r1.trans (hb s2 pr1);generalize treeF l uses d s2=Y at *;obtain⟨y,s3⟩:=Y;simp only at h44a r2 |-;have h44b:=fun K=>ht s3 b0 K (hp5.step r2 (by omega) (by omega));generalize treeF l uses d s3=Y at *;obtain⟨Y1,Y2⟩:=Y;simp only at h44b |-;have fr:frzArgs pol1 59 0 [.rf 1 1 0 0,I ((d+1:Nat):Int)] (mH b0 l uses s K)=some ([.rf 1 1 0 0,I ((d+1:Nat):Int)],mH b0 l uses s K):=AR _ _ _ rfl;refine AT (pol:=pol1) Tryz.func59 rfl rfl rfl rfl fr ?_;simp +contextual (disch:=omega) only[Tryz.f59,dd59,go_sem,simprocAttr,mu59,↓AD,↓AC,↓AB,↓AA,h97,hw,Ah,Ad,BN,BJ,BM,BL,A5,A0,Av,Aq,Au,Ar,As,At,AO,AU,AP,AS,append_nil,h97b,h44a,h44b];repeat' (first|intro _|apply And.intro|(unfold dOk;kernel_rfl)|exact St.beq_refl _|exact AI|(show altO _ _ _ _=true;kernel_rfl)|(show (_||_)=true;kernel_rfl)|(show (_&&_)=true;kernel_rfl))
 exact BY (by rfl) (by rfl) s _ (ex2 ..) true true 10 [] [y,Y1] 0 0 0 (1+x) false
theorem KD {l:List Int} (hl:∀ x∈l,In64 x) {uses:Int}{d:Nat} (hd:d<=5) (ht:TreeLaw l uses d) (hb:TreeB l uses d) (s:MS) (b0:MB) (K:List MB) (hp:Pre (mA1 (d+1)) (mS1 (d+1)) s) (k:Int) (s1:MS) (hk:nx l 20 ⟨s.at_,s.left-1,s.caps⟩=(k,s1)) (hn1:¬ s1.left<3) (hn2:¬ (l.length:Int)<s1.at_) (h:12<=k) (n12:¬ (k=12/\0<andI uses 64)) (n13:¬ (k=13/\0<andI uses 64)) (n14:¬ (k=14/\0<andI uses 16)) (n15:¬ (k=15/\0<andI uses 4)) (n16:¬ (k=16/\0<andI uses 8)) (n17:¬ (k=17/\0<andI uses 1/\0<s1.caps)) (n18:¬ (k=18/\0<andI uses 2/\0<s1.caps)) :
  call Pg pol1 59 [.rf 1 1 0 0,I ((d+1:Nat):Int)] (mH b0 l uses s K)=some (reAV (setM l s1).1,mH b0 l uses (setM l s1).2 K):=by
 simp only[mA1,mS1]at hp;have hA:=A3 d;have hS:=A1 d;have hq:=BF l (n:=20) (by omega) ⟨s.at_,s.left-1,s.caps⟩;have p1:=AY l 20 ⟨s.at_,s.left-1,s.caps⟩ hp.c;obtain⟨pa,pl,pc⟩:=hp;have h97:=fun K=>f97 l hl uses 20 (by omega) ⟨s.at_,s.left-1,s.caps⟩ ⟨pa.1,by simp only;omega⟩ b0 K;rw[hk]at hq p1 h97;clear hk;simp only at hq p1 h97;obtain⟨qa,ql,qc⟩:=p1;simp only at qa ql;have hw:IntKind.i64.wrap (s.left-1)=s.left-1:=i64_in _ ⟨by omega,by omega⟩;have hp5:Pre (5+3*mA1 d) (3*mS1 d) s1:=⟨⟨by omega,by omega⟩,⟨by omega,by omega⟩,qc⟩;have h98:=fun K=>f98 l hl uses s1 ⟨by omega,by omega⟩ b0 K;generalize setM l s1=Y at *;obtain⟨Y1,Y2⟩:=Y;simp only at h98 |-;have fr:frzArgs pol1 59 0 [.rf 1 1 0 0,I ((d+1:Nat):Int)] (mH b0 l uses s K)=some ([.rf 1 1 0 0,I ((d+1:Nat):Int)],mH b0 l uses s K):=AR _ _ _ rfl;refine AT (pol:=pol1) Tryz.func59 rfl rfl rfl rfl fr ?_;simp +contextual (disch:=omega) only[Tryz.f59,dd59,go_sem,simprocAttr,mu59,↓AD,↓AC,↓AB,↓AA,h97,hw,Ah,Ad,BN,BJ,BM,BL,A5,A0,Av,Aq,Au,Ar,As,At,AO,AU,AP,AS,append_nil,h98];repeat' (first|intro _|apply And.intro|(unfold dOk;kernel_rfl)|exact St.beq_refl _|exact AI|(show altO _ _ _ _=true;kernel_rfl)|(show (_||_)=true;kernel_rfl)|(show (_&&_)=true;kernel_rfl))
 all_goals exact CP rfl rfl s _ (ex1 ..) (fun H=>Ao H (BD _)) (BD _)
theorem Jg {l:List Int} (hl:∀ x∈l,In64 x) {uses:Int}{d:Nat} (hd:d<=5) (ht:TreeLaw l uses d) (hb:TreeB l uses d):TreeLaw l uses (d+1):=by
 intro s b0 K hp;simp only[treeF];generalize hk:nx l 20 ⟨s.at_,s.left-1,s.caps⟩=Y;obtain⟨k,s1⟩:=Y;simp only;have hq:=BF l (n:=20) (by omega) ⟨s.at_,s.left-1,s.caps⟩;rw[hk]at hq;simp only at hq;unfold treeStep;by_cases hc:s1.left<3∨(l.length:Int)<s1.at_
 ·rw[if_pos hc];exact L6 hl hd s b0 K hp k s1 hk hc
 rw[if_neg hc];have hn1:¬ s1.left<3:=fun h=>hc (.inl h);have hn2:¬ (l.length:Int)<s1.at_:=fun h=>hc (.inr h);by_cases h5:k<5
 ·rw[if_pos h5];exact LC hl hd ht hb s b0 K hp k s1 hk hn1 hn2 h5
 rw[if_neg h5];by_cases h8:k<8
 ·rw[if_pos h8];exact LD hl hd ht hb s b0 K hp k s1 hk hn1 hn2 (by omega) h8
 rw[if_neg h8];by_cases h12:k<12
 ·rw[if_pos h12];exact LA hl hd ht hb s b0 K hp k s1 hk hn1 hn2 (by omega) h12
 rw[if_neg h12];by_cases c1:(k=12∨k=13)/\0<andI uses 64
 ·rw[if_pos c1];rcases c1.1 with e|e
  ·exact Ix hl hd ht hb s b0 K hp k s1 hk hn1 hn2 e c1.2
  ·exact Iw hl hd ht hb s b0 K hp k s1 hk hn1 hn2 e c1.2
 rw[if_neg c1];by_cases c2:k=14/\0<andI uses 16
 ·rw[if_pos c2];exact Ln hl hd ht hb s b0 K hp k s1 hk hn1 hn2 c2.1 c2.2
 rw[if_neg c2];by_cases c3:k=15/\0<andI uses 4
 ·rw[if_pos c3];exact KC hl hd ht hb s b0 K hp k s1 hk hn1 hn2 c3.1 c3.2
 rw[if_neg c3];by_cases c4:k=16/\0<andI uses 8
 ·rw[if_pos c4];exact KF hl hd ht hb s b0 K hp k s1 hk hn1 hn2 c4.1 c4.2
 rw[if_neg c4];by_cases c5:k=17/\0<andI uses 1/\0<s1.caps
 ·rw[if_pos c5];exact LB hl hd ht hb s b0 K hp k s1 hk hn1 hn2 c5.1 c5.2.1 c5.2.2
 rw[if_neg c5];by_cases c6:k=18/\0<andI uses 2/\0<s1.caps
 ·rw[if_pos c6];exact KE hl hd ht hb s b0 K hp k s1 hk hn1 hn2 c6.1 c6.2.1 c6.2.2
 rw[if_neg c6];exact KD hl hd ht hb s b0 K hp k s1 hk hn1 hn2 (by omega) (fun h=>c1 ⟨.inl h.1,h.2⟩) (fun h=>c1 ⟨.inr h.1,h.2⟩) c2 c3 c4 c5 c6
theorem EI {l:List Int} (hl:∀ x∈l,In64 x) (uses:Int):∀ d,d<=6->TreeLaw l uses d/\TreeB l uses d
 | 0,_=>⟨fun s b0 K hp=>by
    simp only[treeF];generalize hk:nx l 20 ⟨s.at_,s.left-1,s.caps⟩=Y;obtain⟨k,s1⟩:=Y;exact L7 hl s b0 K hp k s1 hk,HB⟩
 | d+1,h=>by
   obtain⟨h1,h2⟩:=EI hl uses d (by omega);exact⟨Jg hl (by omega) h1 h2,HC h2⟩
theorem f11m (l:List Int) (hl:∀ x∈l,In64 x) (uses most:Int) (hmo:0<=most/\most<=1000) (H:List MB) :
  call Pg pol1 20 [.sl false (l.map I),I uses,I most] H=some (patAV ⟨(treeF l uses 5 ⟨0,most,0⟩).1,(treeF l uses 5 ⟨0,most,0⟩).2.caps,false⟩,H):=by
 refine AQ Tryz.func20 rfl rfl rfl rfl rfl rfl (fun _=>rfl) (by simp[AV.plain,AV.plainL,AF]) (show AV.plain (patAV _)=true from Aa _) ?_ H;have hpre:Pre (mA1 5) (mS1 5) ⟨0,most,0⟩:=by
  have h1:mS1 5=364:=rfl;have h2:mA1 5=1818:=rfl;exact⟨by simp only[h2];omega,by simp only[h1];omega,by simp only[];omega⟩
 have h44:∀ b0,call Pg pol1 59 [.rf 1 1 0 0,I 5] [b0,.row 5 [.agg [.sl false (l.map I),I 0,I uses,I most,I 0]] 0]=some (reAV (treeF l uses 5 ⟨0,most,0⟩).1,mH b0 l uses (treeF l uses 5 ⟨0,most,0⟩).2 []):=fun b0=>(EI hl uses 5 (by omega)).1 ⟨0,most,0⟩ b0 [] hpre;generalize treeF l uses 5 ⟨0,most,0⟩=Y at *;obtain⟨r,s⟩:=Y;simp only at h44 |-;have htk8:∀ r l,List.take 8 (reC r++l)=reC r:=fun r l=>by
  have:=AO r;rw[List.take_append_of_le_length (by omega)];exact take_of_length_le (by omega)
 have hdr9:∀ r (a b:AV),List.drop 9 (reC r++[a,b])=[b]:=fun r a b=>by
  have:=AO r;rw[show (9:Nat)=8+1 from rfl,<- List.drop_drop,List.drop_append_of_le_length (by omega),AS];rfl
 have ht10:∀ a b:AV,List.take 10 (reC r++[a,b])=reC r++[a,b]:=fun a b=>take_of_length_le (by simp[AO]);simp +contextual (disch:=omega) only[Tryz.f20,dd20,go_sem,simprocAttr,evBin,mu20,↓AD,↓AC,↓AB,↓AA,h44,htk8,hdr9,ht10,AO,AU,AP,AS,List.all_append];repeat' (first|intro _|apply And.intro|(unfold dOk;kernel_rfl)|exact St.beq_refl _|exact AI|(show altO _ _ _ _=true;kernel_rfl)|(show (_||_)=true;kernel_rfl)|(show (_&&_)=true;kernel_rfl))
 exact⟨_,Ao _ (Aa ⟨r,s.caps,false⟩)⟩
end
section
attribute [local go_sem] evAppend evBin AV.cells map_append
theorem p9 (l:List Int) (hl:∀ x∈l,In64 x) (n:Int) (hn:In64 n):∃ P:Pat,P.re.wt<=2100/\∀ H,call Pg pol1 9 [.sl false (l.map I),I n] H=some (patAV P,H):=by
 have h20:=f11m l hl 127 14 (by omega);have h15:=f12 n 8 hn (by omega);have hk:=Bm (n:=n) (m:=8) (by omega);have hw1:(treeF l 127 5 ⟨0,14,0⟩).1.wt<=2000:=Nat.le_trans (EJ l 127 5 ⟨0,14,0⟩) (by decide);have hc:0<=(treeF l 127 5 ⟨0,14,0⟩).2.caps/\(treeF l 127 5 ⟨0,14,0⟩).2.caps<=4:=((EI hl 127 5 (by omega)).2 ⟨0,14,0⟩ ⟨by
  have h2:mA1 5=1818:=rfl;simp only[h2];omega,by
  have h1:mS1 5=364:=rfl;simp only[h1];omega,by simp only[];omega⟩).c
 generalize treeF l 127 5 ⟨0,14,0⟩=X at *;generalize aroundI n 8=k at *;obtain⟨re,s⟩:=X;simp only at h20 hw1 hc;obtain⟨op,set,kids,mn,mx,md,c,neg⟩:=re;have hX:∀(ca:Int) (ru:Bool),patAV ⟨.mk op set kids mn mx md c neg,ca,ru⟩=.agg [I op,.sl false (set.map spanAV),.sl false (kids.map reAV),I mn,I mx,I md,I c,.bool neg,I ca,.bool ru]:=fun ca ru=>by
  show AV.agg (reC (.mk op set kids mn mx md c neg)++[I ca,.bool ru])=_;rw[Ag];rfl
 have hY:∀(a b ca:Int) (ru:Bool),patAV ⟨.mk 2 [] [.mk op set kids mn mx md c neg,.mk 1 [(a,b)] [] 0 0 0 0 false] 0 0 0 0 false,ca,ru⟩ =
   .agg [I 2,.sl false [],.sl false [.agg [I op,.sl false (set.map spanAV),.sl false (kids.map reAV),I mn,I mx,I md,I c,.bool neg],.agg [I 1,.sl false [.agg [I a,I b]],.sl false [],I 0,I 0,I 0,I 0,.bool false]],I 0,I 0,I 0,I 0,.bool false,I ca,.bool ru]:=fun a b ca ru=>by
  show AV.agg (reC (.mk 2 [] [.mk op set kids mn mx md c neg,.mk 1 [(a,b)] [] 0 0 0 0 false] 0 0 0 0 false)++[I ca,.bool ru])=_;rw[Ag];have e1:reAV (.mk op set kids mn mx md c neg)=.agg [I op,.sl false (set.map spanAV),.sl false (kids.map reAV),I mn,I mx,I md,I c,.bool neg]:=congrArg AV.agg Ag;have e2:reAV (.mk 1 [(a,b)] [] 0 0 0 0 false)=.agg [I 1,.sl false [.agg [I a,I b]],.sl false [],I 0,I 0,I 0,I 0,.bool false]:=congrArg AV.agg Ag;simp only[List.map_cons,map_nil,e1,e2];rfl
 have h20':∀ H,call Pg pol1 20 [.sl false (l.map I),I 127,I 14] H=some (.agg [I op,.sl false (set.map spanAV),.sl false (kids.map reAV),I mn,I mx,I md,I c,.bool neg,I s.caps,.bool false],H):=fun H=>by rw[h20 H,hX]
 clear h20;have hcase:k=0∨k=1∨k=2∨k=3∨k=4∨k=5∨k=6∨k=7:=by omega
 have run:∀ P:Pat,P.re.wt<=2100->(∀ H,call Pg pol1 9 [.sl false (l.map I),I n] H=some (patAV P,H))->∃ P:Pat,P.re.wt<=2100/\∀ H,call Pg pol1 9 [.sl false (l.map I),I n] H=some (patAV P,H):=fun P h1 h2=>⟨P,h1,h2⟩;have fX:∀ ca ru H,∃ H',fz (.agg [I op,.sl false (set.map spanAV),.sl false (kids.map reAV),I mn,I mx,I md,I c,.bool neg,I ca,.bool ru]) H=some (patAV ⟨.mk op set kids mn mx md c neg,ca,ru⟩,H'):=fun ca ru H=>by
  rw[hX];exact⟨H,Ao H (by simp[AV.plain,AV.plainL,AE,AK])⟩
 have fY:∀ a b ca ru H,∃ H',fz (.agg [I 2,.sl true [],.sl true [.agg [I op,.sl false (set.map spanAV),.sl false (kids.map reAV),I mn,I mx,I md,I c,.bool neg],.agg [I 1,.sl true [.agg [I a,I b]],.sl true [],I 0,I 0,I 0,I 0,.bool false]],I 0,I 0,I 0,I 0,.bool false,I ca,.bool ru]) H=some (patAV ⟨.mk 2 [] [.mk op set kids mn mx md c neg,.mk 1 [(a,b)] [] 0 0 0 0 false] 0 0 0 0 false,ca,ru⟩,H'):=fun a b ca ru H=>by
  rw[hY];refine⟨H,?_⟩;have z1:∀ H,fzL (fzJ 6) (set.map spanAV) H=some (set.map spanAV,H):=fun H=>BC _ _ _ (AE set);have z2:∀ H,fzL (fzJ 6) (kids.map reAV) H=some (kids.map reAV,H):=fun H=>BC _ _ _ (AK kids);simp only[fz,fzA,EB,fzL,z1,z2]
 rcases hcase with rfl|rfl|rfl|rfl|rfl|rfl|rfl|rfl
 ·refine run ⟨.mk op set kids mn mx md c neg,s.caps,false⟩ (by simp only;omega) fun H=>?_;refine AQ Tryz.func9 rfl rfl rfl rfl rfl rfl (fun _=>rfl) (by simp[AV.plain,AV.plainL,AF]) (by exact Aa _) ?_ H;simp +contextual -implicitDefEqProofs (disch:=omega) only[Tryz.f9,dd9,go_sem,simprocAttr,mu9,↓AD,↓AC,↓AB,↓AA,h20',h15,evMin];exact fX _ _ _
 ·refine run ⟨.mk op set kids mn mx md c neg,s.caps+1,false⟩ (by simp only;omega) fun H=>?_;refine AQ Tryz.func9 rfl rfl rfl rfl rfl rfl (fun _=>rfl) (by simp[AV.plain,AV.plainL,AF]) (by exact Aa _) ?_ H;simp +contextual -implicitDefEqProofs (disch:=omega) only[Tryz.f9,dd9,go_sem,simprocAttr,mu9,↓AD,↓AC,↓AB,↓AA,h20',h15,evMin];exact fX _ _ _
 ·refine run ⟨.mk op set kids mn mx md c neg,s.caps,false⟩ (by simp only;omega) fun H=>?_;refine AQ Tryz.func9 rfl rfl rfl rfl rfl rfl (fun _=>rfl) (by simp[AV.plain,AV.plainL,AF]) (by exact Aa _) ?_ H;simp +contextual -implicitDefEqProofs (disch:=omega) only[Tryz.f9,dd9,go_sem,simprocAttr,mu9,↓AD,↓AC,↓AB,↓AA,h20',h15,evMin];exact fX _ _ _
 ·refine run ⟨.mk op set kids mn mx md c neg,s.caps,false⟩ (by simp only;omega) fun H=>?_;refine AQ Tryz.func9 rfl rfl rfl rfl rfl rfl (fun _=>rfl) (by simp[AV.plain,AV.plainL,AF]) (by exact Aa _) ?_ H;simp +contextual -implicitDefEqProofs (disch:=omega) only[Tryz.f9,dd9,go_sem,simprocAttr,mu9,↓AD,↓AC,↓AB,↓AA,h20',h15,evMin];exact fX _ _ _
 ·refine run ⟨.mk op set kids mn mx md c neg,s.caps+4,false⟩ (by simp only;omega) fun H=>?_;refine AQ Tryz.func9 rfl rfl rfl rfl rfl rfl (fun _=>rfl) (by simp[AV.plain,AV.plainL,AF]) (by exact Aa _) ?_ H;simp +contextual -implicitDefEqProofs (disch:=omega) only[Tryz.f9,dd9,go_sem,simprocAttr,mu9,↓AD,↓AC,↓AB,↓AA,h20',h15,evMin];exact fX _ _ _
 ·refine run ⟨.mk 2 [] [.mk op set kids mn mx md c neg,.mk 1 [(520,1114106)] [] 0 0 0 0 false] 0 0 0 0 false,s.caps,true⟩ (by simp[Re.wt,Re.wtL]at hw1 |-;omega) fun H=>?_;refine AQ Tryz.func9 rfl rfl rfl rfl rfl rfl (fun _=>rfl) (by simp[AV.plain,AV.plainL,AF]) (by exact Aa _) ?_ H;simp +contextual -implicitDefEqProofs (disch:=omega) only[Tryz.f9,dd9,go_sem,simprocAttr,mu9,↓AD,↓AC,↓AB,↓AA,h20',h15,evMin];exact fY _ _ _ _ _
 ·refine run ⟨.mk 2 [] [.mk op set kids mn mx md c neg,.mk 1 [(584,1114105)] [] 0 0 0 0 false] 0 0 0 0 false,s.caps,true⟩ (by simp[Re.wt,Re.wtL]at hw1 |-;omega) fun H=>?_;refine AQ Tryz.func9 rfl rfl rfl rfl rfl rfl (fun _=>rfl) (by simp[AV.plain,AV.plainL,AF]) (by exact Aa _) ?_ H;simp +contextual -implicitDefEqProofs (disch:=omega) only[Tryz.f9,dd9,go_sem,simprocAttr,mu9,↓AD,↓AC,↓AB,↓AA,h20',h15,evMin];exact fY _ _ _ _ _
 ·refine run ⟨.mk 2 [] [.mk op set kids mn mx md c neg,.mk 1 [(648,1114104)] [] 0 0 0 0 false] 0 0 0 0 false,if s.caps+7<9 then s.caps+7 else 9,true⟩ (by simp[Re.wt,Re.wtL]at hw1 |-;omega) fun H=>?_;refine AQ Tryz.func9 rfl rfl rfl rfl rfl rfl (fun _=>rfl) (by simp[AV.plain,AV.plainL,AF]) (by exact Aa _) ?_ H;simp +contextual -implicitDefEqProofs (disch:=omega) only[Tryz.f9,dd9,go_sem,simprocAttr,mu9,↓AD,↓AC,↓AB,↓AA,h20',h15,evMin];exact fY _ _ _ _ _
end
section
attribute [local go_sem] evBin AV.cells
mutual
def pathsG:Re->List (List Int)
 | .mk op set kids mn mx md n neg=>[]::pathsL kids 0
def pathsL:List Re->Nat->List (List Int)
 | [],_=>[]
 | k::ks,i=>(pathsG k).map (fun p=>(i:Int)::p)++pathsL ks (i+1)
end
theorem Cx:∀(a b:List Re) (i:Nat),pathsL (a++b) i=pathsL a i++pathsL b (i+a.length)
 | [],b,i=>by simp[pathsL]
 | k::ks,b,i=>by
   simp only[List.cons_append,pathsL,Cx ks b (i+1),List.append_assoc,length_cons];rw[show i+1+ks.length=i+(ks.length+1) by omega]
theorem GX {l:List Re}{i:Nat}{k:Re} (h:l[i]?=some k):pathsL (l.take (i+1)) 0=pathsL (l.take i) 0++(pathsG k).map (fun p=>(i:Int)::p):=by
 have hi:i<l.length:=(List.getElem?_eq_some_iff.1 h).1;rw[List.take_add_one,h,Cx];simp[pathsL,Nat.min_eq_left (Nat.le_of_lt hi)]
mutual
theorem DB:∀ r:Re,(pathsG r).length=r.size
 | .mk op set kids mn mx md n neg=>by
   have:=DA kids 0;simp[pathsG,Re.size,this];omega
theorem DA:∀(l:List Re) (i:Nat),(pathsL l i).length=Re.sizeL l
 | [],i=>rfl
 | k::ks,i=>by
   have h1:=DB k;have h2:=DA ks (i+1);simp[pathsL,Re.sizeL,h1,h2]
end
mutual
theorem Cb:∀(r:Re) (p:List Int),p∈pathsG r->p.length<=r.depth
 | .mk op set kids mn mx md n neg,p,h=>by
   simp only[pathsG,List.mem_cons]at h;rcases h with rfl|h
   ·simp
   ·have:=Dp kids 0 p h;simp[Re.depth];omega
theorem Dp:∀(l:List Re) (i:Nat) (p:List Int),p∈pathsL l i->p.length<=1+Re.depthL l
 | [],i,p,h=>by simp[pathsL]at h
 | k::ks,i,p,h=>by
   simp only[pathsL,List.mem_append,mem_map]at h;rcases h with ⟨q,hq,rfl⟩|h
   ·have:=Cb k q hq;simp[Re.depthL];omega
   ·have:=Dp ks (i+1) p h;simp[Re.depthL];omega
end
abbrev pathAV (p:List Int):AV:=.sl false (p.map I)
theorem BH (l:List (List Int)):AV.plainL (l.map pathAV)=true:=by
 rw[C9];intro x hx;obtain⟨p,_,rfl⟩:=mem_map.1 hx;simp[AV.plain,AF]
theorem Jx {H:List MB}{i n z:Nat}{els:List AV}{q:List Int}{t:Bool} (hi:getRow1 H i=some (1,els,z)) (hn:els.length=n) (hz:z<=n) (hr:n+q.length<=4000000000) :
  evAppend Pg H 22 22 (.ms i 1 n 0 n) (.sl t (q.map I))=some (.ms i 1 (n+q.length) 0 (n+q.length),H.set i (.row 1 (els++q.map I) z)):=by
 have hs:srcElems Pg H 3 (.sl t (q.map I))=some (q.map I):=rfl;have hall:((q.map I).all fun y=>decide (y.cells.length=1)&&y.cells.all AV.ok)=true:=by
  rw[all_eq_true];intro x hx;obtain⟨y,_,rfl⟩:=mem_map.1 hx;rfl
 rw[BV (e:=3) (by kernel_rfl) (by kernel_rfl) (k:=1) (by kernel_rfl) (by_:=8) (by kernel_rfl) (ze:=I 0) (by kernel_rfl) rfl (by omega) hs hall hi hn hz (Ap (by rw[length_map];exact hr) (by omega)),length_map]
theorem Jw {H:List MB}{i n z:Nat}{els:List AV}{y:AV}{t:Bool} (hi:getRow1 H i=some (1,els,z)) (hn:els.length=n) (hy:(decide (y.cells.length=1)&&y.cells.all AV.ok)=true) (hz:z<=n) (hr:n+1<=4000000000) :
  evAppend Pg H 64 64 (.ms i 1 n 0 n) (.sl t [y])=some (.ms i 1 (n+1) 0 (n+1),H.set i (.row 1 (els++[y]) z)):=by
 have hs:srcElems Pg H 22 (.sl t [y])=some [y]:=rfl;rw[BV (e:=22) (by kernel_rfl) (by kernel_rfl) (k:=1) (by kernel_rfl) (by_:=24) (by kernel_rfl) (ze:=.sl true []) (by kernel_rfl) rfl (by omega) hs (by simp only[List.all_cons,List.all_nil,hy,Bool.and_true]) hi hn hz (Ap hr (by omega))];rfl
theorem IV (fl:Bool) (rest:List (List Int)) (x:Int) (q:List Int) (b0 b1:MB) :
  fzs (.sl fl []::(rest.map pathAV++[.ms 2 1 (1+q.length) 0 (1+q.length)])) [b0,b1,.row 1 (I x::q.map I) 0]=some (.sl false []::(rest.map pathAV++[pathAV (x::q)]),[b0,b1,.row 1 (I x::q.map I) (1+q.length)]):=by
 have h1:∀ H,fzA (fzJ 6) (.sl fl []) H=some (.sl false [],H):=fun H=>rfl;have h2:fzA (fzJ 6) (.ms 2 1 (1+q.length) 0 (1+q.length)) [b0,b1,.row 1 (I x::q.map I) 0]=some (pathAV (x::q),[b0,b1,.row 1 (I x::q.map I) (1+q.length)]):=by
  rw[EA (n:=5) (z:=0) (k:=1) (els:=I x::q.map I) rfl (by simp;omega) (by simp[AV.plainL,AV.plain,AF])];simp[mark,getRow]
 have h4:∀(l:List AV) (m:List AV) (H:List MB),AV.plainL l=true->fzL (fzJ 6) (l++m) H=match fzL (fzJ 6) m H with
   | some (ys,H')=>some (l++ys,H')
   | none=>none:=by
  intro l
  induction l with
  | nil=>intro m H _;simp only[List.nil_append];cases fzL (fzJ 6) m H<;>rfl
  | cons a l ih=>
    intro m H hp;simp only[AV.plainL,Bool.and_eq_true]at hp;simp only[List.cons_append,fzL,Cp _ a H hp.1,ih m H hp.2];cases fzL (fzJ 6) m H<;>rfl
 simp only[fzs,fzL,h1,h4 _ _ _ (BH rest),h2]
theorem Jb (fl:Bool) (R:List (List Int)) (b0:MB):∃ H',fz (.ms 1 1 (1+R.length) 0 (1+R.length)) [b0,.row 1 (.sl fl []::R.map pathAV) 0]=some (.sl false (([]::R).map pathAV),H'):=by
 have h1:∀ H,fzA (fzJ 5) (.sl fl []) H=some (.sl false [],H):=fun H=>rfl;have hk:∀ H,fzJ 6 (.sl fl []::R.map pathAV) H=some (([]::R).map pathAV,H):=fun H=>by
  simp only[fzJ,fzL,h1,BC _ _ _ (BH R)];rfl
 refine⟨mark [b0,.row 1 (.sl fl []::R.map pathAV) 0] 1 (0+(1+R.length)),?_⟩;unfold fz;refine HZ rfl (by simp;omega) (by omega) ?_;rw[List.drop_zero,take_of_length_le (by simp;omega)];exact hk _
theorem s34:∀(N:Nat) (r:Re),r.wt<=N->r.wt<=1000000->∀ H,call Pg pol1 34 [reAV r] H=some (.sl false ((pathsG r).map pathAV),H)
 | 0,r,h,_=>by have:=r.wt_pos;omega
 | N+1,.mk op set kids mn mx md n neg,h,hN=>by
   intro H;have hkl:=Re.wtL_len kids;have hwt:1+set.length+Re.wtL kids=(Re.mk op set kids mn mx md n neg).wt:=by simp[Re.wt]
   have hszk:=Re.sizeL_wt kids;have ih:=fun k (hk:k∈kids)=>s34 N k (by have:=Re.wtL_mem hk;omega) (by have:=Re.wtL_mem hk;omega);rw[show reAV (.mk op set kids mn mx md n neg)=.agg (nodeL op set kids mn mx md n neg) from congrArg AV.agg Ag];refine AQ Tryz.func34 rfl rfl rfl rfl rfl rfl (fun _=>rfl) (by simp[AV.plain,AV.plainL,AE,AK]) (by simp[AV.plain,BH]) ?_ H;simp +contextual -implicitDefEqProofs (disch:=omega) only[Tryz.f34,dd34,go_sem,simprocAttr,evAppend,map_append,mu34,↓AD,↓AC,↓AB,↓AA];refine Af (M:=(mskOf (pol1.mask 34) (pol1.gc 34) (pol1.acts 34) 0 3)) rfl kids.length (fun i=>(⟨38,[(4,I i),(3,.ms 1 1 (1+(pathsL (kids.take i) 0).length) 0 (1+(pathsL (kids.take i) 0).length)),(1,.rf 0 1 0 0)],[.row 8 [.agg (nodeL op set kids mn mx md n neg)] 0,.row 1 (.sl (decide (i=0)) []::(pathsL (kids.take i) 0).map pathAV) 0]⟩:St)) (fun _=>True) ?_ ?_ trivial _ (by first|rfl|(refine AX (n:=2) (m:=⟨some [4,3,1],some 2,[]⟩) rfl rfl ?_ ?_ ?_<;>first|rfl|(simp[keepT,AV.underL,AV.under,MB.under,AG,AJ,AH,AF,AE,AL,AM,-map_take,-map_replicate,-map_set,AK];done)|(simp[keepT,AV.underL,AV.under,MB.under,AG,AJ,AH,AF,AE,AL,AM,-map_take,-map_replicate,-map_set,AK];omega)))
   ·intro i hi _;obtain⟨k,hk⟩:∃ k,kids[i]?=some k:=⟨_,List.getElem?_eq_getElem hi⟩;have hkm:=mem_of_getElem? hk;have ihk:=ih k hkm;have hl8:=AO k;have ht8:=AP k;have hs1:=Re.sizeL_take hk;have hs2:=Re.sizeL_le (l:=kids) (i:=i+1);have hpl:=DA (kids.take i) 0;have hpk:=DB k;have hpd:=Cb k;have hkw:=Re.wtL_mem hkm;have hks:=Re.depth_size k;rw[GX hk];generalize pathsL (kids.take i) 0=R at *;have hne:0<(pathsG k).length:=by have:=k.size_pos;omega
    generalize pathsG k=P at *;simp +contextual -implicitDefEqProofs (disch:=omega) only[Tryz.f34,dd34,go_sem,simprocAttr,evAppend,map_append,mu34,↓AD,↓AC,↓AB,↓AA,hk,hl8,ht8,ihk];refine Af (M:=(mskOf (pol1.mask 34) (pol1.gc 34) (pol1.acts 34) 0 7)) rfl P.length (fun j=>(⟨38,[(6,I j),(5,.sl false (P.map pathAV)),(4,I i),(3,.ms 1 1 (1+(R++(P.take j).map (fun p=>(i:Int)::p)).length) 0 (1+(R++(P.take j).map (fun p=>(i:Int)::p)).length)),(1,.rf 0 1 0 0)],[.row 8 [.agg (nodeL op set kids mn mx md n neg)] 0,.row 1 (.sl (decide (i=0/\j=0)) []::(R++(P.take j).map (fun p=>(i:Int)::p)).map pathAV) 0]⟩:St)) (fun _=>True) ?_ ?_ trivial _ ?_
    ·intro j hj _;obtain⟨q,hq⟩:∃ q,P[j]?=some q:=⟨_,List.getElem?_eq_getElem hj⟩;have hql:=hpd q (mem_of_getElem? hq);have e1:R++(P.take (j+1)).map (fun p=>(i:Int)::p)=(R++(P.take j).map (fun p=>(i:Int)::p))++[(i:Int)::q]:=by
      rw[List.take_add_one,hq];simp
     rw[e1,show decide (i=0/\j+1=0)=false by simp];have hRl:(R++(P.take j).map (fun p=>(i:Int)::p)).length<=1000000:=by
      simp only[length_append,length_map,List.length_take];omega
     generalize R++(P.take j).map (fun p=>(i:Int)::p)=Rj at *;generalize decide (i=0/\j=0)=fl at *;have hz:=IV fl Rj i q (.row 8 [.agg (nodeL op set kids mn mx md n neg)] 0) (.row 1 (.sl fl []::(Rj.map pathAV++[.ms 2 1 (1+q.length) 0 (1+q.length)])) 0);have hap1:=fun b0 b1=>Jx (H:=[b0,b1,.row 1 [I i] 0]) (i:=2) (n:=1) (z:=0) (els:=[I i]) (q:=q) (t:=false) rfl rfl (by omega) (by omega);have hap2:=fun b0 b2=>Jw (H:=[b0,.row 1 (.sl fl []::Rj.map pathAV) 0,b2]) (i:=1) (n:=1+Rj.length) (z:=0) (els:=.sl fl []::Rj.map pathAV) (y:=.ms 2 1 (1+q.length) 0 (1+q.length)) (t:=true) rfl (by simp;omega) rfl (by omega) (by omega);simp +contextual -implicitDefEqProofs (disch:=omega) only[Tryz.f34,dd34,go_sem,simprocAttr,mu34,↓AD,↓AC,↓AB,↓AA,hq,hap1,hap2,hz,AV.beqL_refl];rw[map_append,show 1+(Rj.length+1)=1+Rj.length+1 by omega];exact(by first|rfl|(refine AX (n:=2) (m:=⟨some [6,5,4,3,1],some 2,[]⟩) rfl rfl ?_ ?_ ?_<;>first|rfl|(simp[keepT,AV.underL,AV.under,MB.under,AG,AJ,AH,AF,AE,AL,AM,-map_take,-map_replicate,-map_set,AK,BH];done)|(simp[keepT,AV.underL,AV.under,MB.under,AG,AJ,AH,AF,AE,AL,AM,-map_take,-map_replicate,-map_set,AK,BH];omega)))
    ·intro _;rw[List.take_length,decide_eq_false (show ¬ (i=0/\P.length=0) by omega)];simp +contextual -implicitDefEqProofs (disch:=omega) only[Tryz.f34,dd34,go_sem,simprocAttr,evAppend,map_append,mu34,↓AD,↓AC,↓AB,↓AA];exact(by first|rfl|(refine AX (n:=2) (m:=⟨some [4,3,1],some 2,[]⟩) rfl rfl ?_ ?_ ?_<;>first|rfl|(simp[keepT,AV.underL,AV.under,MB.under,AG,AJ,AH,AF,AE,AL,AM,-map_take,-map_replicate,-map_set,AK,BH,-map_map];done)|(simp[keepT,AV.underL,AV.under,MB.under,AG,AJ,AH,AF,AE,AL,AM,-map_take,-map_replicate,-map_set,AK,BH,-map_map];omega)))
    ·rw[List.take_zero,map_nil,append_nil,show decide (i=0/\0=0)=decide (i=0) by simp];exact(by first|rfl|(refine AX (n:=2) (m:=⟨some [6,5,4,3,1],some 2,[]⟩) rfl rfl ?_ ?_ ?_<;>first|rfl|(simp[keepT,AV.underL,AV.under,MB.under,AG,AJ,AH,AF,AE,AL,AM,-map_take,-map_replicate,-map_set,AK,BH];done)|(simp[keepT,AV.underL,AV.under,MB.under,AG,AJ,AH,AF,AE,AL,AM,-map_take,-map_replicate,-map_set,AK,BH];omega)))
   ·intro _;rw[List.take_length];simp +contextual -implicitDefEqProofs (disch:=omega) only[Tryz.f34,dd34,go_sem,simprocAttr,evAppend,map_append,mu34,↓AD,↓AC,↓AB,↓AA];exact Jb _ _ _
end
section
attribute [local go_sem] evBin
abbrev zeroRe:Re:=.mk 0 [] [] 0 0 0 0 false
def atG:List Int->Re->Re×Int
 | [],r=>(r,0)
 | i::p,.mk op set kids mn mx md n neg=>if i<0∨(kids.length:Int)<=i then(zeroRe,7) else match kids[i.toNat]? with
   | some k=>atG p k
   | none=>(zeroRe,7)
def putG:List Int->Re->Re->Re×Int
 | [],r,part=>(part,0)
 | i::p,.mk op set kids mn mx md n neg,part=>if i<0∨(kids.length:Int)<=i then(zeroRe,7) else match kids[i.toNat]? with
   | some k=>if(putG p k part).2=0 then(.mk op set (kids.set i.toNat (putG p k part).1) mn mx md n neg,0) else(zeroRe,(putG p k part).2)
   | none=>(zeroRe,7)
theorem Js:∀(p:List Int) (r:Re),(atG p r).1.wt<=r.wt
 | [],r=>Nat.le_refl _
 | i::p,.mk op set kids mn mx md n neg=>by
   have hz:zeroRe.wt<=1:=by simp[Re.wt,Re.wtL]
   have hpos:=(Re.mk op set kids mn mx md n neg).wt_pos;unfold atG;split
   ·simp only;omega
   ·split
    ·rename_i k hk;have h1:=Js p k;have h2:=Re.wtL_mem (mem_of_getElem? hk);simp only[Re.wt];omega
    ·simp only;omega
theorem Ho:∀(l:List Re) (i:Nat) (k x:Re),l[i]?=some k->Re.wtL (l.set i x)+k.wt=Re.wtL l+x.wt
 | [],i,k,x,h=>by simp at h
 | a::ks,0,k,x,h=>by
   simp at h;subst h;simp[Re.wtL];omega
 | a::ks,i+1,k,x,h=>by
   have:=Ho ks i k x (by simpa using h);simp[Re.wtL];omega
theorem Hu:∀(p:List Int) (r part:Re),(putG p r part).1.wt<=r.wt+part.wt
 | [],r,part=>by simp[putG]
 | i::p,.mk op set kids mn mx md n neg,part=>by
   have hz:zeroRe.wt<=1:=by simp[Re.wt,Re.wtL]
   have hpos:=(Re.mk op set kids mn mx md n neg).wt_pos;unfold putG;split
   ·simp only;omega
   ·split
    ·rename_i k hk;have h1:=Hu p k part;have h2:=Re.wtL_mem (mem_of_getElem? hk);have h3:=Ho kids i.toNat k (putG p k part).1 hk;split
     ·simp only[Re.wt];omega
     ·simp only;omega
    ·simp only;omega
section
variable (cs:List AV) (k:IntKind) (n:Int) (b:Bool) (xs:List AV) (a c d e f:Nat)
theorem Ay:(AV.agg cs).cells=cs:=rfl
theorem Ax:(AV.int k n).cells=[.int k n]:=rfl
theorem Ai:(AV.bool b).cells=[.bool b]:=rfl
theorem A6:(AV.sl b xs).cells=[.sl b xs]:=rfl
theorem A9:(AV.ms a c d e f).cells=[.ms a c d e f]:=rfl
theorem A7:(AV.rf a c d e).cells=[.rf a c d e]:=rfl
theorem A8:(AV.pt xs).cells=[.pt xs]:=rfl
end
theorem all8 (l:List Re):((l.map reAV).all fun y=>decide (y.cells.length=8))=true:=by
 rw[all_eq_true];intro x hx;obtain⟨r,_,rfl⟩:=mem_map.1 hx;simp[AV.cells,AO]
theorem all1 (l:List Int):((l.map I).all fun y=>decide (y.cells.length=1))=true:=by
 rw[all_eq_true];intro x hx;obtain⟨r,_,rfl⟩:=mem_map.1 hx;rfl
theorem Jt (i:Int) (p:List Int) (op:Int) (set:List (Int×Int)) (kids:List Re) (mn mx md n:Int) (neg:Bool):atG (i::p) (.mk op set kids mn mx md n neg) =
 if i<0∨(kids.length:Int)<=i then(zeroRe,7) else match kids[i.toNat]? with
 | some k=>atG p k
 | none=>(zeroRe,7):=by rw[atG]
theorem Kn (r:Re):atG [] r=(r,0):=by rw[atG]
theorem IN (i:Int) (p:List Int) (op:Int) (set:List (Int×Int)) (kids:List Re) (mn mx md n:Int) (neg:Bool) (part:Re):putG (i::p) (.mk op set kids mn mx md n neg) part =
 if i<0∨(kids.length:Int)<=i then(zeroRe,7) else match kids[i.toNat]? with
 | some k=>if(putG p k part).2=0 then(.mk op set (kids.set i.toNat (putG p k part).1) mn mx md n neg,0) else(zeroRe,(putG p k part).2)
 | none=>(zeroRe,7):=by rw[putG]
theorem I8 (r part:Re):putG [] r part=(part,0):=by rw[putG]
theorem s35:∀(p:List Int) (r:Re),p.length<=1000000->r.wt<=1000000->∀ H,call Pg pol1 35 [reAV r,pathAV p] H=some (.tup [reAV (atG p r).1,I (atG p r).2],H)
 | [],.mk op set kids mn mx md n neg,hp,hN=>by
   intro H;rw[show reAV (.mk op set kids mn mx md n neg)=.agg (nodeL op set kids mn mx md n neg) from congrArg AV.agg Ag];refine AQ Tryz.func35 rfl rfl rfl rfl rfl rfl (fun _=>rfl) (by simp[AV.plain,AV.plainL,AE,AK]) (by simp[AV.plain,AV.plainL,Aw]) ?_ H;rw[Kn];simp +contextual -implicitDefEqProofs (disch:=omega) only[Tryz.f35,dd35,go_sem,simprocAttr,evAppend,AV.cells,map_append,mu35,↓AD,↓AC,↓AB,↓AA];rw[show reAV (.mk op set kids mn mx md n neg)=.agg (nodeL op set kids mn mx md n neg) from congrArg AV.agg Ag];exact⟨_,Ao _ (by simp[AV.plain,AV.plainL,AE,AK])⟩
 | i::p,.mk op set kids mn mx md n neg,hp,hN=>by
   intro H;have hwt:1+set.length+Re.wtL kids=(Re.mk op set kids mn mx md n neg).wt:=by simp[Re.wt]
   have hkl:=Re.wtL_len kids;have ih:=fun k (hk:k∈kids)=>s35 p k (by have:=hp;rw[length_cons]at this;omega) (by have:=Re.wtL_mem hk;omega);rw[show reAV (.mk op set kids mn mx md n neg)=.agg (nodeL op set kids mn mx md n neg) from congrArg AV.agg Ag];refine AQ Tryz.func35 rfl rfl rfl rfl rfl rfl (fun _=>rfl) (by simp[AV.plain,AV.plainL,AE,AK,AF]) (by simp[AV.plain,AV.plainL,Aw]) ?_ H;have ha1:=all1 (i::p);rw[Jt];simp only[length_cons]at hp;by_cases h0:i<0
   ·rw[if_pos (.inl h0)];simp +contextual -implicitDefEqProofs (disch:=omega) only[Tryz.f35,dd35,go_sem,simprocAttr,evAppend,AV.cells,map_append,mu35,↓AD,↓AC,↓AB,↓AA];repeat' (first|intro _|apply And.intro|(unfold dOk;kernel_rfl)|exact St.beq_refl _|exact AI|(show altO _ _ _ _=true;kernel_rfl)|(show (_||_)=true;kernel_rfl)|(show (_&&_)=true;kernel_rfl))
    exact⟨_,rfl⟩
   ·obtain⟨j,rfl⟩:∃ j:Nat,i=j:=⟨i.toNat,by omega⟩;by_cases h1:kids.length<=j
    ·rw[if_pos (.inr (by omega))];simp +contextual -implicitDefEqProofs (disch:=omega) only[Tryz.f35,dd35,go_sem,simprocAttr,evAppend,AV.cells,map_append,mu35,↓AD,↓AC,↓AB,↓AA];repeat' (first|intro _|apply And.intro|(unfold dOk;kernel_rfl)|exact St.beq_refl _|exact AI|(show altO _ _ _ _=true;kernel_rfl)|(show (_||_)=true;kernel_rfl)|(show (_&&_)=true;kernel_rfl))
     exact⟨_,rfl⟩
    ·rw[if_neg (by omega),Int.toNat_natCast];obtain⟨k,hk⟩:∃ k,kids[j]?=some k:=⟨_,List.getElem?_eq_getElem (by omega)⟩;have ihk:=ih k (mem_of_getElem? hk);have hl8:=AO k;have ht8:=AP k;rw[hk];simp only;generalize atG p k=X at *;obtain⟨x,e⟩:=X;have htk:List.take p.length (p.map I)=p.map I:=take_of_length_le (by simp);simp +contextual -implicitDefEqProofs (disch:=omega) only[Tryz.f35,dd35,go_sem,simprocAttr,evAppend,map_append,mu35,↓AD,↓AC,↓AB,↓AA,hk,hl8,ht8,ihk,all1 p,htk,Ay,Ax,Ai,A6,A9,A7,A8,AO,AU,AP,AS];repeat' (first|intro _|apply And.intro|(unfold dOk;kernel_rfl)|exact St.beq_refl _|exact AI|(show altO _ _ _ _=true;kernel_rfl)|(show (_||_)=true;kernel_rfl)|(show (_&&_)=true;kernel_rfl))
     exact⟨_,Ao _ (by simp[AV.plain,AV.plainL,Aw])⟩
theorem GG {H:List MB}{i n z:Nat}{els:List AV}{q:List Re}{t:Bool} (hi:getRow1 H i=some (8,els,z)) (hn:els.length=n) (hz:z<=n) (hr:n+q.length<=4000000000) :
  evAppend Pg H 24 24 (.ms i 8 n 0 n) (.sl t (q.map reAV))=some (.ms i 8 (n+q.length) 0 (n+q.length),H.set i (.row 8 (els++q.map reAV) z)):=by
 have hs:srcElems Pg H 26 (.sl t (q.map reAV))=some (q.map reAV):=rfl;have hall:((q.map reAV).all fun y=>decide (y.cells.length=8)&&y.cells.all AV.ok)=true:=by
  rw[all_eq_true];intro x hx;obtain⟨y,_,rfl⟩:=mem_map.1 hx;simp[AV.cells,AO,AU]
 rw[BV (e:=26) (by kernel_rfl) (by kernel_rfl) (k:=8) (by kernel_rfl) (by_:=96) (by kernel_rfl) (ze:=.agg [I 0,.sl true [],.sl true [],I 0,I 0,I 0,I 0,.bool false]) (by kernel_rfl) rfl (by omega) hs hall hi hn hz (Ap (by rw[length_map];exact hr) (by omega)),length_map]
theorem LO (op:Int) (set:List (Int×Int)) (ks:List Re) (mn mx md n:Int) (neg:Bool) {m:Nat} (hm:ks.length=m) {H:List MB} (hr:getRow H 4=some (8,ks.map reAV,0)) :
  ∃ H',fz (.tup [.agg [I op,.sl false (set.map spanAV),.ms 4 8 m 0 m,I mn,I mx,I md,I n,.bool neg],I 0]) H=some (.tup [reAV (.mk op set ks mn mx md n neg),I 0],H'):=by
 have h2:fzA (fzJ 6) (.ms 4 8 m 0 m) H=some (.sl false (ks.map reAV),mark H 4 m):=EA (n:=5) hr (by rw[length_map];exact hm) (AK ks);refine⟨mark H 4 m,?_⟩;rw[show reAV (.mk op set ks mn mx md n neg)=.agg (nodeL op set ks mn mx md n neg) from congrArg AV.agg Ag];simp only[fz,Kj,EB,fzL,D9 _ _ _ (AE set),h2,F3];rfl
theorem s36:∀(p:List Int) (r part:Re),p.length<=1000000->r.wt<=1000000->∀ H,call Pg pol1 36 [reAV r,pathAV p,reAV part] H=some (.tup [reAV (putG p r part).1,I (putG p r part).2],H):=by
 intro p
 induction p with
 | nil=>
   intro r part hp hN H;obtain⟨op,set,kids,mn,mx,md,n,neg⟩:=r;rw[show reAV (.mk op set kids mn mx md n neg)=.agg (nodeL op set kids mn mx md n neg) from congrArg AV.agg Ag];refine AQ Tryz.func36 rfl rfl rfl rfl rfl rfl (fun _=>rfl) (by simp[AV.plain,AV.plainL,AE,AK,Aw]) (by simp[AV.plain,AV.plainL,Aw]) ?_ H;rw[I8];simp +contextual -implicitDefEqProofs (disch:=omega) only[Tryz.f36,dd36,go_sem,simprocAttr,evAppend,AV.cells,map_append,mu36,↓AD,↓AC,↓AB,↓AA,AO,AU,AP,AS,append_nil];exact⟨_,Ao _ (by simp[AV.plain,AV.plainL,Aw])⟩
 | cons i p ihp=>
   intro r part hp hN H;obtain⟨op,set,kids,mn,mx,md,n,neg⟩:=r;have hwt:1+set.length+Re.wtL kids=(Re.mk op set kids mn mx md n neg).wt:=by simp[Re.wt]
   have hkl:=Re.wtL_len kids;have ih:=fun k (hk:k∈kids)=>ihp k part (by have:=hp;rw[length_cons]at this;omega) (by have:=Re.wtL_mem hk;omega);rw[show reAV (.mk op set kids mn mx md n neg)=.agg (nodeL op set kids mn mx md n neg) from congrArg AV.agg Ag];refine AQ Tryz.func36 rfl rfl rfl rfl rfl rfl (fun _=>rfl) (by simp[AV.plain,AV.plainL,AE,AK,AF,Aw]) (by simp[AV.plain,AV.plainL,Aw]) ?_ H;rw[IN];simp only[length_cons]at hp;by_cases h0:i<0
   ·rw[if_pos (.inl h0)];simp +contextual -implicitDefEqProofs (disch:=omega) only[Tryz.f36,dd36,go_sem,simprocAttr,evAppend,AV.cells,map_append,mu36,↓AD,↓AC,↓AB,↓AA,AO,AU,AP,AS,append_nil];repeat' (first|intro _|apply And.intro|(unfold dOk;kernel_rfl)|exact St.beq_refl _|exact AI|(show altO _ _ _ _=true;kernel_rfl)|(show (_||_)=true;kernel_rfl)|(show (_&&_)=true;kernel_rfl))
    exact⟨_,rfl⟩
   ·obtain⟨j,rfl⟩:∃ j:Nat,i=j:=⟨i.toNat,by omega⟩;by_cases h1:kids.length<=j
    ·rw[if_pos (.inr (by omega))];simp +contextual -implicitDefEqProofs (disch:=omega) only[Tryz.f36,dd36,go_sem,simprocAttr,evAppend,AV.cells,map_append,mu36,↓AD,↓AC,↓AB,↓AA,AO,AU,AP,AS,append_nil];repeat' (first|intro _|apply And.intro|(unfold dOk;kernel_rfl)|exact St.beq_refl _|exact AI|(show altO _ _ _ _=true;kernel_rfl)|(show (_||_)=true;kernel_rfl)|(show (_&&_)=true;kernel_rfl))
     exact⟨_,rfl⟩
    ·rw[if_neg (by omega),Int.toNat_natCast];have hj:j<kids.length:=by omega
     obtain⟨k,hk⟩:∃ k,kids[j]?=some k:=⟨_,List.getElem?_eq_getElem hj⟩;have ihk:=ih k (mem_of_getElem? hk);have hl8:=AO k;have ht8:=AP k;rw[hk];simp only;generalize putG p k part=X at *;obtain⟨x,e⟩:=X;simp only at ihk |-;have htk:List.take p.length (p.map I)=p.map I:=take_of_length_le (by simp);by_cases he:e=0
     ·subst he;rw[if_pos rfl];have hs1:List.take j (kids.map reAV)=(kids.take j).map reAV:=by simp
      have hs2:List.drop (j+1) (List.take kids.length (kids.map reAV))=(kids.drop (j+1)).map reAV:=by
       rw[take_of_length_le (by simp),List.map_drop]
      have htl:(kids.take j).length=j:=by simp;omega
      have hdl:(kids.drop (j+1)).length=kids.length-(j+1):=by simp
      have hap1:=fun b0 b1 b2 b3=>GG (H:=[b0,b1,b2,b3,.row 8 [] 0]) (i:=4) (n:=0) (z:=0) (els:=[]) (q:=kids.take j) (t:=false) rfl rfl (by omega) (by omega);have hap2:=fun b0 b1 b2 b3=>GH (H:=[b0,b1,b2,b3,.row 8 ((kids.take j).map reAV) 0]) (i:=4) (n:=j) (z:=0) (els:=(kids.take j).map reAV) (y:=reAV x) (t:=true) rfl (by rw[length_map];exact htl) (by simp[AV.cells,AO,AU]) (by omega) (by omega);have hap3:=fun b0 b1 b2 b3=>GG (H:=[b0,b1,b2,b3,.row 8 ((kids.take j).map reAV++[reAV x]) 0]) (i:=4) (n:=j+1) (z:=0) (els:=(kids.take j).map reAV++[reAV x]) (q:=kids.drop (j+1)) (t:=false) rfl (by rw[length_append,length_map,htl];rfl) (by omega) (by omega);rw[htl,Nat.zero_add]at hap1;rw[hdl]at hap3;simp +contextual -implicitDefEqProofs (disch:=omega) only[Tryz.f36,dd36,go_sem,simprocAttr,mu36,↓AD,↓AC,↓AB,↓AA,hk,hl8,ht8,ihk,all1 p,all8 kids,htk,hs1,hs2,hap1,hap2,hap3,Ay,Ax,Ai,A6,A9,A7,A8,AO,AU,AP,AS,Bool.false_and];repeat' (first|intro _|apply And.intro|(unfold dOk;kernel_rfl)|exact St.beq_refl _|exact AI|(show altO _ _ _ _=true;kernel_rfl)|(show (_||_)=true;kernel_rfl)|(show (_&&_)=true;kernel_rfl))
      have hset:(kids.take j).map reAV++[reAV x]++(kids.drop (j+1)).map reAV=(kids.set j x).map reAV:=by
       rw[List.set_eq_take_append_cons_drop,if_pos hj];simp
      have hsl:(kids.set j x).length=j+1+(kids.length-(j+1)):=by simp;omega
      rw[hset];exact LO op set (kids.set j x) mn mx md n neg hsl rfl
     ·rw[if_neg he];simp +contextual -implicitDefEqProofs (disch:=omega) only[Tryz.f36,dd36,go_sem,simprocAttr,evAppend,map_append,mu36,↓AD,↓AC,↓AB,↓AA,hk,hl8,ht8,ihk,he,all1 p,htk,Ay,Ax,Ai,A6,A9,A7,A8,AO,AU,AP,AS];repeat' (first|intro _|apply And.intro|(unfold dOk;kernel_rfl)|exact St.beq_refl _|exact AI|(show altO _ _ _ _=true;kernel_rfl)|(show (_||_)=true;kernel_rfl)|(show (_&&_)=true;kernel_rfl))
      exact⟨_,rfl⟩
end
end Go.Ev
