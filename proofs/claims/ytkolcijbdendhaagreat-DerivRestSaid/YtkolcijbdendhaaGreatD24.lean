/- What functions of the program compute; no further conditions. -/
import Derived.Test.YtkolcijbdendhaaGreatD23
set_option linter.unusedVariables false
set_option linter.unusedSimpArgs false
open List (append_assoc append_nil cons_append length_append map_append map_replicate map_set map_take nil_append take_of_length_le)
open Go.Proofs Go.RowKit Go.IntWalk
set_option maxHeartbeats 8000000
set_option maxRecDepth 100000
namespace Go.Ev
attribute [local go_sem] AV.cells A8 BI bndO bnd evEq eqCells not_false_eq_true not_true_eq_false toList_some Array.size_empty length_append map_append tySzE List.head?_drop Nat.mul_one As A1 Am At Au Ag
section
attribute [local go_sem] evAppend
theorem A7 (b0 x x' a a' b:MB) (K:List MB):sameAt (K.length+1+1+1) (b0::x::(K++[a]++[b])) (b0::x'::(K++[a']++[b]))=true:=by
 have h:∀ x a,(b0::x::(K++[a]++[b]))[K.length+1+1+1]?=some b:=fun x a=>by
  rw[List.getElem?_cons_succ,List.getElem?_cons_succ];exact BM K a b
 unfold sameAt;rw[h,h];exact MB.beq_refl b
section
variable {l:List Int} (hl:∀ x∈l,In64 x) {uses:Int}{d:Nat} (hd:d<=5) (ht:TreeLaw l uses d) (hb:TreeB l uses d)
include hb
theorem M8 {s:MS} (hp:Pre (5+3*mA1 d) (3*mS1 d) s):Post (5+3*mA1 d) (3*mS1 d) s (repF l uses (treeF l uses d) s).2:=by
 have hA:=A6 d;have hS:=A5 d;unfold repF;simp only;have p1:=Ac l 12 s hp.c;have p2:=p1.trans (Ac l 2 _ p1.c);obtain⟨s3,e3,p3⟩:∃ s3,(if 0<andI uses 8 then(if(nx l 4 (nx l 2 (nx l 12 s).2).2).1=0 then 2 else(nx l 2 (nx l 12 s).2).1,(nx l 4 (nx l 2 (nx l 12 s).2).2).2) else nx l 2 (nx l 12 s).2).2=s3/\Post (1+1+1) (0+0+0) s s3:=by
  split
  ·exact⟨_,rfl,p2.trans (Ac l 4 _ p2.c)⟩
  ·exact⟨_,rfl,p2.up (by omega) (by omega)⟩
 rw[e3];have q:=hb s3 (hp.step p3 (by omega) (by omega));have r:=p3.trans q;split
 ·exact(r.trans (Do l _ r.c)).up (by omega) (by omega)
 ·exact r.up (by omega) (by omega)
theorem Np {s:MS} (hp:Pre (5+3*mA1 d) (3*mS1 d) s):Post (5+3*mA1 d) (3*mS1 d) s (capF l (treeF l uses d) s).2:=by
 have hA:=A6 d;have hS:=A5 d;have hc:=hp.c;unfold capF;simp only;obtain⟨b,s2,e2,p2,c2,hbb⟩:∃(b:Bool) (s2:MS),(if 4<s.caps+1 then(true,s) else if 0<s.caps then(decide ((nx l 9 s).1=0),(nx l 9 s).2) else(false,s))=(b,s2)/\Post 1 0 s s2/\s2.caps=s.caps/\(b=false->¬ 4<s.caps+1):=by
  have p0:Post 1 0 s s:=⟨by omega,by omega,hc⟩;split
  ·exact⟨_,_,rfl,p0,rfl,fun h=>by cases h⟩
  ·rename_i h4;split
   ·exact⟨_,_,rfl,Ac l 9 s hc,rfl,fun _=>h4⟩
   ·exact⟨_,_,rfl,p0,rfl,fun _=>h4⟩
 rw[e2];simp only;have hm1:0<max 1 s2.caps:=by omega
 have hv:=BE l hm1 s2;have p3:=p2.trans (Ac l (max 1 s2.caps) s2 p2.c);have c3:(nx l (max 1 s2.caps) s2).2.caps=s2.caps:=rfl;obtain⟨m,s4,e4,p4,c4,hm⟩:∃(m:Int) (s4:MS),(if b=true then(1+(nx l (max 1 s2.caps) s2).1,(nx l (max 1 s2.caps) s2).2) else(s.caps+1,s2))=(m,s4)/\Post (1+1) (0+0) s s4/\s4.caps=s.caps/\(0<=m/\m<=4):=by
  cases b with
  | true=>exact⟨_,_,if_pos rfl,p3,by rw[c3,c2],by omega⟩
  | false=>
    have:=hbb rfl;exact⟨_,_,if_neg Bool.false_ne_true,p2.up (by omega) (by omega),c2,by omega⟩
 rw[e4];simp only;have p5:Post 2 0 s ⟨s4.at_,s4.left,max s4.caps m⟩:=⟨by have:=p4.a;simp only;omega,by have:=p4.l;simp only;omega,by simp only;omega⟩;have q:=hb _ (hp.step p5 (by omega) (by omega));exact(p5.trans q).up (by omega) (by omega)
theorem My {s:MS} (k:Int) (hp:Pre (8+3*mA1 d) (3*mS1 d) s):Post (8+3*mA1 d) (3*mS1 d) s (treeStep l uses (treeF l uses d) k s).2:=by
 have hA:=A6 d;have hS:=A5 d;have hp5:Pre (5+3*mA1 d) (3*mS1 d) s:=⟨⟨hp.a.1,by have:=hp.a;omega⟩,hp.l,hp.c⟩;have hlf:Post 1 0 s (leafF l k s).2:=by
  unfold leafF;split
  ·exact⟨by simp only;omega,by simp only;omega,hp.c⟩
  ·exact Do l s hp.c
 have n6:=Ac l 6 s hp.c;have n3:=Ac l 3 s hp.c;have n32:=n3.trans (Ac l 2 _ n3.c);have nc:=Ac l s.caps s hp.c;have hA2:Pre (mA1 d) (mS1 d) s:=hp.step (x:=0) (y:=0) ⟨by omega,by omega,hp.c⟩ (by omega) (by omega);unfold treeStep;split
 ·exact hlf.up (by omega) (by omega)
 split
 ·exact(Gq hb hp5).up (by omega) (by omega)
 split
 ·exact(Gq hb hp5).up (by omega) (by omega)
 split
 ·exact(M8 hb hp5).up (by omega) (by omega)
 split
 ·exact(Np hb hp5).up (by omega) (by omega)
 split
 ·exact n6.up (by omega) (by omega)
 split
 ·exact(n32.trans (hb _ (hp.step n32 (by omega) (by omega)))).up (by omega) (by omega)
 split
 ·exact(hb _ hA2).up (by omega) (by omega)
 split
 ·exact nc.up (by omega) (by omega)
 split
 ·have y:=nc.trans (hb _ (hp.step nc (by omega) (by omega)));exact(y.trans (hb _ (hp.step y (by omega) (by omega)))).up (by omega) (by omega)
 ·exact(Do l s hp.c).up (by omega) (by omega)
theorem K6:TreeB l uses (d+1):=by
 intro s hp;have hA:=A6 d;have hS:=A5 d;simp only[mA1,mS1]at hp |-;have hc:=hp.c;have p0:Post 0 1 s ⟨s.at_,s.left-1,s.caps⟩:=⟨by simp only;omega,by simp only;omega,hc⟩;have p1:=p0.trans (Ac l 20 _ p0.c);exact(p1.trans (My hb _ (hp.step p1 (by omega) (by omega)))).up (by omega) (by omega)
end
theorem K5 {l:List Int}{uses:Int}:TreeB l uses 0:=by
 intro s hp;have hc:=hp.c;have p0:Post 0 1 s ⟨s.at_,s.left-1,s.caps⟩:=⟨by simp only;omega,by simp only;omega,hc⟩;have p1:=p0.trans (Ac l 20 _ p0.c);simp only[treeF,mA1,mS1];unfold leafF;split
 ·exact p1.up (by omega) (by omega)
 ·exact(p1.trans (Do l _ p1.c)).up (by omega) (by omega)
theorem SM {l:List Int} (hl:∀ x∈l,In64 x) {uses:Int} (s:MS) (b0:MB) (K:List MB) (hp:Pre (mA1 0) (mS1 0) s) (k:Int) (s1:MS) (hk:nx l 20 ⟨s.at_,s.left-1,s.caps⟩=(k,s1)) :
  call Pg pol1 22 [.rf 1 1 0 0,I ((0:Nat):Int)] (mH b0 l uses s K)=some (reAV (leafF l k s1).1,mH b0 l uses (leafF l k s1).2 K):=by
 simp only[mA1,mS1]at hp;have hq:=BE l (n:=20) (by omega) ⟨s.at_,s.left-1,s.caps⟩;have p1:=Ac l 20 ⟨s.at_,s.left-1,s.caps⟩ hp.c;obtain⟨pa,pl,pc⟩:=hp;have h97:=fun K=>f97 l hl uses 20 (by omega) ⟨s.at_,s.left-1,s.caps⟩ ⟨pa.1,by simp only;omega⟩ b0 K;rw[hk]at hq p1 h97;clear hk;simp only at hq p1 h97;obtain⟨qa,ql,qc⟩:=p1;simp only at qa ql;have hw:IntKind.i64.wrap (s.left-1)=s.left-1:=i64_in _ ⟨by omega,by omega⟩;have h98:=fun K=>f98 l hl uses s1 ⟨by omega,by omega⟩ b0 K;generalize hY:setM l s1=Y at *;have fr:frzArgs pol1 22 0 [.rf 1 1 0 0,I ((0:Nat):Int)] (mH b0 l uses s K)=some ([.rf 1 1 0 0,I ((0:Nat):Int)],mH b0 l uses s K):=AQ _ _ _ rfl;by_cases hk0:k=0
 ·subst hk0;rw[show leafF l 0 s1=(.mk 0 [] [] 0 0 0 0 false,s1) from if_pos rfl];refine AT (pol:=pol1) Tryz.func22 rfl rfl rfl rfl fr ?_
  all_goals simp +contextual (disch:=omega) only[Tryz.f22,dd22,go_sem,simprocAttr,mu22,↓AD,↓AC,↓AB,↓AA,h97,hw,Ap,Al,BS,BM,BR,BQ,A7,A4,A0,Av,Az,Aw,Ax,Ay,AH,AL,AI,An,append_nil]
  all_goals repeat' (first|intro _|apply And.intro|(unfold dOk;kernel_rfl)|exact St.beq_refl _|exact AP|(show altO _ _ _ _=true;kernel_rfl)|(show (_||_)=true;kernel_rfl)|(show (_&&_)=true;kernel_rfl))
  all_goals exact Bg (by rfl) (by rfl) s s1 (ex1 ..) true true 0 [] [] 0 0 0 0 false
 ·rw[show leafF l k s1=Y from(if_neg hk0).trans hY];obtain⟨Y1,Y2⟩:=Y;refine AT (pol:=pol1) Tryz.func22 rfl rfl rfl rfl fr ?_
  all_goals simp +contextual (disch:=omega) only[Tryz.f22,dd22,go_sem,simprocAttr,mu22,↓AD,↓AC,↓AB,↓AA,h97,hw,Ap,Al,BS,BM,BR,BQ,A7,A4,A0,Av,Az,Aw,Ax,Ay,AH,AL,AI,An,append_nil,h98]
  all_goals repeat' (first|intro _|apply And.intro|(unfold dOk;kernel_rfl)|exact St.beq_refl _|exact AP|(show altO _ _ _ _=true;kernel_rfl)|(show (_||_)=true;kernel_rfl)|(show (_&&_)=true;kernel_rfl))
  all_goals exact DG rfl rfl s _ (ex1 ..) (fun H=>Ad H (BH _)) (BH _)
theorem SL {l:List Int} (hl:∀ x∈l,In64 x) {uses:Int}{d:Nat} (hd:d<=5) (s:MS) (b0:MB) (K:List MB) (hp:Pre (mA1 (d+1)) (mS1 (d+1)) s) (k:Int) (s1:MS) (hk:nx l 20 ⟨s.at_,s.left-1,s.caps⟩=(k,s1)) (hc:s1.left<3∨(l.length:Int)<s1.at_) :
  call Pg pol1 22 [.rf 1 1 0 0,I (((d+1):Nat):Int)] (mH b0 l uses s K)=some (reAV (leafF l k s1).1,mH b0 l uses (leafF l k s1).2 K):=by
 simp only[mA1,mS1]at hp;have hA:=A6 d;have hS:=A5 d;have hq:=BE l (n:=20) (by omega) ⟨s.at_,s.left-1,s.caps⟩;have p1:=Ac l 20 ⟨s.at_,s.left-1,s.caps⟩ hp.c;obtain⟨pa,pl,pc⟩:=hp;have h97:=fun K=>f97 l hl uses 20 (by omega) ⟨s.at_,s.left-1,s.caps⟩ ⟨pa.1,by simp only;omega⟩ b0 K;rw[hk]at hq p1 h97;clear hk;simp only at hq p1 h97;obtain⟨qa,ql,qc⟩:=p1;simp only at qa ql;have hw:IntKind.i64.wrap (s.left-1)=s.left-1:=i64_in _ ⟨by omega,by omega⟩;have hc':s1.left<3∨(¬ s1.left<3/\(l.length:Int)<s1.at_):=by omega
 have h98:=fun K=>f98 l hl uses s1 ⟨by omega,by omega⟩ b0 K;generalize hY:setM l s1=Y at *;have fr:frzArgs pol1 22 0 [.rf 1 1 0 0,I (((d+1):Nat):Int)] (mH b0 l uses s K)=some ([.rf 1 1 0 0,I (((d+1):Nat):Int)],mH b0 l uses s K):=AQ _ _ _ rfl;by_cases hk0:k=0
 ·subst hk0;rw[show leafF l 0 s1=(.mk 0 [] [] 0 0 0 0 false,s1) from if_pos rfl];refine AT (pol:=pol1) Tryz.func22 rfl rfl rfl rfl fr ?_;rcases hc' with hc1|⟨hc1,hc2⟩
  all_goals simp +contextual (disch:=omega) only[Tryz.f22,dd22,go_sem,simprocAttr,mu22,↓AD,↓AC,↓AB,↓AA,h97,hw,Ap,Al,BS,BM,BR,BQ,A7,A4,A0,Av,Az,Aw,Ax,Ay,AH,AL,AI,An,append_nil]
  all_goals repeat' (first|intro _|apply And.intro|(unfold dOk;kernel_rfl)|exact St.beq_refl _|exact AP|(show altO _ _ _ _=true;kernel_rfl)|(show (_||_)=true;kernel_rfl)|(show (_&&_)=true;kernel_rfl))
  all_goals exact Bg (by rfl) (by rfl) s s1 (ex1 ..) true true 0 [] [] 0 0 0 0 false
 ·rw[show leafF l k s1=Y from(if_neg hk0).trans hY];obtain⟨Y1,Y2⟩:=Y;refine AT (pol:=pol1) Tryz.func22 rfl rfl rfl rfl fr ?_;rcases hc' with hc1|⟨hc1,hc2⟩
  all_goals simp +contextual (disch:=omega) only[Tryz.f22,dd22,go_sem,simprocAttr,mu22,↓AD,↓AC,↓AB,↓AA,h97,hw,Ap,Al,BS,BM,BR,BQ,A7,A4,A0,Av,Az,Aw,Ax,Ay,AH,AL,AI,An,append_nil,h98]
  all_goals repeat' (first|intro _|apply And.intro|(unfold dOk;kernel_rfl)|exact St.beq_refl _|exact AP|(show altO _ _ _ _=true;kernel_rfl)|(show (_||_)=true;kernel_rfl)|(show (_&&_)=true;kernel_rfl))
  all_goals exact DG rfl rfl s _ (ex1 ..) (fun H=>Ad H (BH _)) (BH _)
theorem RL {l:List Int} (hl:∀ x∈l,In64 x) {uses:Int}{d:Nat} (hd:d<=5) (ht:TreeLaw l uses d) (hb:TreeB l uses d) (s:MS) (b0:MB) (K:List MB) (hp:Pre (mA1 (d+1)) (mS1 (d+1)) s) (k:Int) (s1:MS) (hk:nx l 20 ⟨s.at_,s.left-1,s.caps⟩=(k,s1)) (hn1:¬ s1.left<3) (hn2:¬ (l.length:Int)<s1.at_) (h:k<5) :
  call Pg pol1 22 [.rf 1 1 0 0,I ((d+1:Nat):Int)] (mH b0 l uses s K)=some (reAV ((.mk 2 [] (kidsF l (treeF l uses d) s1).1 0 0 0 0 false,(kidsF l (treeF l uses d) s1).2):Re×MS).1,mH b0 l uses ((.mk 2 [] (kidsF l (treeF l uses d) s1).1 0 0 0 0 false,(kidsF l (treeF l uses d) s1).2):Re×MS).2 K):=by
 simp only[mA1,mS1]at hp;have hA:=A6 d;have hS:=A5 d;have hq:=BE l (n:=20) (by omega) ⟨s.at_,s.left-1,s.caps⟩;have p1:=Ac l 20 ⟨s.at_,s.left-1,s.caps⟩ hp.c;obtain⟨pa,pl,pc⟩:=hp;have h97:=fun K=>f97 l hl uses 20 (by omega) ⟨s.at_,s.left-1,s.caps⟩ ⟨pa.1,by simp only;omega⟩ b0 K;rw[hk]at hq p1 h97;clear hk;simp only at hq p1 h97;obtain⟨qa,ql,qc⟩:=p1;simp only at qa ql;have hw:IntKind.i64.wrap (s.left-1)=s.left-1:=i64_in _ ⟨by omega,by omega⟩;have hp5:Pre (5+3*mA1 d) (3*mS1 d) s1:=⟨⟨by omega,by omega⟩,⟨by omega,by omega⟩,qc⟩;have h99:=fun K=>f99 hl hd ht hb s1 hp5 b0 K;generalize kidsF l (treeF l uses d) s1=Y at *;obtain⟨Y1,Y2⟩:=Y;simp only at h99 |-;have fr:frzArgs pol1 22 0 [.rf 1 1 0 0,I ((d+1:Nat):Int)] (mH b0 l uses s K)=some ([.rf 1 1 0 0,I ((d+1:Nat):Int)],mH b0 l uses s K):=AQ _ _ _ rfl;refine AT (pol:=pol1) Tryz.func22 rfl rfl rfl rfl fr ?_;simp +contextual (disch:=omega) only[Tryz.f22,dd22,go_sem,simprocAttr,mu22,↓AD,↓AC,↓AB,↓AA,h97,hw,Ap,Al,BS,BM,BR,BQ,A7,A4,A0,Av,Az,Aw,Ax,Ay,AH,AL,AI,An,append_nil,h99];repeat' (first|intro _|apply And.intro|(unfold dOk;kernel_rfl)|exact St.beq_refl _|exact AP|(show altO _ _ _ _=true;kernel_rfl)|(show (_||_)=true;kernel_rfl)|(show (_&&_)=true;kernel_rfl))
 exact Bg (by rfl) (by rfl) s _ (ex1 ..) true false 2 [] Y1 0 0 0 0 false
theorem RM {l:List Int} (hl:∀ x∈l,In64 x) {uses:Int}{d:Nat} (hd:d<=5) (ht:TreeLaw l uses d) (hb:TreeB l uses d) (s:MS) (b0:MB) (K:List MB) (hp:Pre (mA1 (d+1)) (mS1 (d+1)) s) (k:Int) (s1:MS) (hk:nx l 20 ⟨s.at_,s.left-1,s.caps⟩=(k,s1)) (hn1:¬ s1.left<3) (hn2:¬ (l.length:Int)<s1.at_) (h:5<=k) (h2:k<8) :
  call Pg pol1 22 [.rf 1 1 0 0,I ((d+1:Nat):Int)] (mH b0 l uses s K)=some (reAV ((.mk 3 [] (kidsF l (treeF l uses d) s1).1 0 0 0 0 false,(kidsF l (treeF l uses d) s1).2):Re×MS).1,mH b0 l uses ((.mk 3 [] (kidsF l (treeF l uses d) s1).1 0 0 0 0 false,(kidsF l (treeF l uses d) s1).2):Re×MS).2 K):=by
 simp only[mA1,mS1]at hp;have hA:=A6 d;have hS:=A5 d;have hq:=BE l (n:=20) (by omega) ⟨s.at_,s.left-1,s.caps⟩;have p1:=Ac l 20 ⟨s.at_,s.left-1,s.caps⟩ hp.c;obtain⟨pa,pl,pc⟩:=hp;have h97:=fun K=>f97 l hl uses 20 (by omega) ⟨s.at_,s.left-1,s.caps⟩ ⟨pa.1,by simp only;omega⟩ b0 K;rw[hk]at hq p1 h97;clear hk;simp only at hq p1 h97;obtain⟨qa,ql,qc⟩:=p1;simp only at qa ql;have hw:IntKind.i64.wrap (s.left-1)=s.left-1:=i64_in _ ⟨by omega,by omega⟩;have hp5:Pre (5+3*mA1 d) (3*mS1 d) s1:=⟨⟨by omega,by omega⟩,⟨by omega,by omega⟩,qc⟩;have h99:=fun K=>f99 hl hd ht hb s1 hp5 b0 K;generalize kidsF l (treeF l uses d) s1=Y at *;obtain⟨Y1,Y2⟩:=Y;simp only at h99 |-;have fr:frzArgs pol1 22 0 [.rf 1 1 0 0,I ((d+1:Nat):Int)] (mH b0 l uses s K)=some ([.rf 1 1 0 0,I ((d+1:Nat):Int)],mH b0 l uses s K):=AQ _ _ _ rfl;refine AT (pol:=pol1) Tryz.func22 rfl rfl rfl rfl fr ?_;simp +contextual (disch:=omega) only[Tryz.f22,dd22,go_sem,simprocAttr,mu22,↓AD,↓AC,↓AB,↓AA,h97,hw,Ap,Al,BS,BM,BR,BQ,A7,A4,A0,Av,Az,Aw,Ax,Ay,AH,AL,AI,An,append_nil,h99];repeat' (first|intro _|apply And.intro|(unfold dOk;kernel_rfl)|exact St.beq_refl _|exact AP|(show altO _ _ _ _=true;kernel_rfl)|(show (_||_)=true;kernel_rfl)|(show (_&&_)=true;kernel_rfl))
 exact Bg (by rfl) (by rfl) s _ (ex1 ..) true false 3 [] Y1 0 0 0 0 false
theorem RJ {l:List Int} (hl:∀ x∈l,In64 x) {uses:Int}{d:Nat} (hd:d<=5) (ht:TreeLaw l uses d) (hb:TreeB l uses d) (s:MS) (b0:MB) (K:List MB) (hp:Pre (mA1 (d+1)) (mS1 (d+1)) s) (k:Int) (s1:MS) (hk:nx l 20 ⟨s.at_,s.left-1,s.caps⟩=(k,s1)) (hn1:¬ s1.left<3) (hn2:¬ (l.length:Int)<s1.at_) (h:8<=k) (h2:k<12) :
  call Pg pol1 22 [.rf 1 1 0 0,I ((d+1:Nat):Int)] (mH b0 l uses s K)=some (reAV (repF l uses (treeF l uses d) s1).1,mH b0 l uses (repF l uses (treeF l uses d) s1).2 K):=by
 simp only[mA1,mS1]at hp;have hA:=A6 d;have hS:=A5 d;have hq:=BE l (n:=20) (by omega) ⟨s.at_,s.left-1,s.caps⟩;have p1:=Ac l 20 ⟨s.at_,s.left-1,s.caps⟩ hp.c;obtain⟨pa,pl,pc⟩:=hp;have h97:=fun K=>f97 l hl uses 20 (by omega) ⟨s.at_,s.left-1,s.caps⟩ ⟨pa.1,by simp only;omega⟩ b0 K;rw[hk]at hq p1 h97;clear hk;simp only at hq p1 h97;obtain⟨qa,ql,qc⟩:=p1;simp only at qa ql;have hw:IntKind.i64.wrap (s.left-1)=s.left-1:=i64_in _ ⟨by omega,by omega⟩;have hp5:Pre (5+3*mA1 d) (3*mS1 d) s1:=⟨⟨by omega,by omega⟩,⟨by omega,by omega⟩,qc⟩;have h100:=fun K=>f100 hl hd ht hb s1 hp5 b0 K;generalize repF l uses (treeF l uses d) s1=Y at *;obtain⟨Y1,Y2⟩:=Y;simp only at h100 |-;have fr:frzArgs pol1 22 0 [.rf 1 1 0 0,I ((d+1:Nat):Int)] (mH b0 l uses s K)=some ([.rf 1 1 0 0,I ((d+1:Nat):Int)],mH b0 l uses s K):=AQ _ _ _ rfl;refine AT (pol:=pol1) Tryz.func22 rfl rfl rfl rfl fr ?_;simp +contextual (disch:=omega) only[Tryz.f22,dd22,go_sem,simprocAttr,mu22,↓AD,↓AC,↓AB,↓AA,h97,hw,Ap,Al,BS,BM,BR,BQ,A7,A4,A0,Av,Az,Aw,Ax,Ay,AH,AL,AI,An,append_nil,h100];repeat' (first|intro _|apply And.intro|(unfold dOk;kernel_rfl)|exact St.beq_refl _|exact AP|(show altO _ _ _ _=true;kernel_rfl)|(show (_||_)=true;kernel_rfl)|(show (_&&_)=true;kernel_rfl))
 exact DG rfl rfl s _ (ex1 ..) (fun H=>Ad H (BH _)) (BH _)
theorem OF {l:List Int} (hl:∀ x∈l,In64 x) {uses:Int}{d:Nat} (hd:d<=5) (ht:TreeLaw l uses d) (hb:TreeB l uses d) (s:MS) (b0:MB) (K:List MB) (hp:Pre (mA1 (d+1)) (mS1 (d+1)) s) (k:Int) (s1:MS) (hk:nx l 20 ⟨s.at_,s.left-1,s.caps⟩=(k,s1)) (hn1:¬ s1.left<3) (hn2:¬ (l.length:Int)<s1.at_) (h:k=12) (u:0<andI uses 64) :
  call Pg pol1 22 [.rf 1 1 0 0,I ((d+1:Nat):Int)] (mH b0 l uses s K)=some (reAV (capF l (treeF l uses d) s1).1,mH b0 l uses (capF l (treeF l uses d) s1).2 K):=by
 simp only[mA1,mS1]at hp;have hA:=A6 d;have hS:=A5 d;have hq:=BE l (n:=20) (by omega) ⟨s.at_,s.left-1,s.caps⟩;have p1:=Ac l 20 ⟨s.at_,s.left-1,s.caps⟩ hp.c;obtain⟨pa,pl,pc⟩:=hp;have h97:=fun K=>f97 l hl uses 20 (by omega) ⟨s.at_,s.left-1,s.caps⟩ ⟨pa.1,by simp only;omega⟩ b0 K;rw[hk]at hq p1 h97;clear hk;simp only at hq p1 h97;obtain⟨qa,ql,qc⟩:=p1;simp only at qa ql;have hw:IntKind.i64.wrap (s.left-1)=s.left-1:=i64_in _ ⟨by omega,by omega⟩;have hp5:Pre (5+3*mA1 d) (3*mS1 d) s1:=⟨⟨by omega,by omega⟩,⟨by omega,by omega⟩,qc⟩;subst h;have h101:=fun K=>f101 hl hd ht hb s1 hp5 b0 K;generalize capF l (treeF l uses d) s1=Y at *;obtain⟨Y1,Y2⟩:=Y;simp only at h101 |-;have fr:frzArgs pol1 22 0 [.rf 1 1 0 0,I ((d+1:Nat):Int)] (mH b0 l uses s K)=some ([.rf 1 1 0 0,I ((d+1:Nat):Int)],mH b0 l uses s K):=AQ _ _ _ rfl;refine AT (pol:=pol1) Tryz.func22 rfl rfl rfl rfl fr ?_;simp +contextual (disch:=omega) only[Tryz.f22,dd22,go_sem,simprocAttr,mu22,↓AD,↓AC,↓AB,↓AA,h97,hw,Ap,Al,BS,BM,BR,BQ,A7,A4,A0,Av,Az,Aw,Ax,Ay,AH,AL,AI,An,append_nil,h101];repeat' (first|intro _|apply And.intro|(unfold dOk;kernel_rfl)|exact St.beq_refl _|exact AP|(show altO _ _ _ _=true;kernel_rfl)|(show (_||_)=true;kernel_rfl)|(show (_&&_)=true;kernel_rfl))
 exact DG rfl rfl s _ (ex1 ..) (fun H=>Ad H (BH _)) (BH _)
theorem OE {l:List Int} (hl:∀ x∈l,In64 x) {uses:Int}{d:Nat} (hd:d<=5) (ht:TreeLaw l uses d) (hb:TreeB l uses d) (s:MS) (b0:MB) (K:List MB) (hp:Pre (mA1 (d+1)) (mS1 (d+1)) s) (k:Int) (s1:MS) (hk:nx l 20 ⟨s.at_,s.left-1,s.caps⟩=(k,s1)) (hn1:¬ s1.left<3) (hn2:¬ (l.length:Int)<s1.at_) (h:k=13) (u:0<andI uses 64) :
  call Pg pol1 22 [.rf 1 1 0 0,I ((d+1:Nat):Int)] (mH b0 l uses s K)=some (reAV (capF l (treeF l uses d) s1).1,mH b0 l uses (capF l (treeF l uses d) s1).2 K):=by
 simp only[mA1,mS1]at hp;have hA:=A6 d;have hS:=A5 d;have hq:=BE l (n:=20) (by omega) ⟨s.at_,s.left-1,s.caps⟩;have p1:=Ac l 20 ⟨s.at_,s.left-1,s.caps⟩ hp.c;obtain⟨pa,pl,pc⟩:=hp;have h97:=fun K=>f97 l hl uses 20 (by omega) ⟨s.at_,s.left-1,s.caps⟩ ⟨pa.1,by simp only;omega⟩ b0 K;rw[hk]at hq p1 h97;clear hk;simp only at hq p1 h97;obtain⟨qa,ql,qc⟩:=p1;simp only at qa ql;have hw:IntKind.i64.wrap (s.left-1)=s.left-1:=i64_in _ ⟨by omega,by omega⟩;have hp5:Pre (5+3*mA1 d) (3*mS1 d) s1:=⟨⟨by omega,by omega⟩,⟨by omega,by omega⟩,qc⟩;subst h;have h101:=fun K=>f101 hl hd ht hb s1 hp5 b0 K;generalize capF l (treeF l uses d) s1=Y at *;obtain⟨Y1,Y2⟩:=Y;simp only at h101 |-;have fr:frzArgs pol1 22 0 [.rf 1 1 0 0,I ((d+1:Nat):Int)] (mH b0 l uses s K)=some ([.rf 1 1 0 0,I ((d+1:Nat):Int)],mH b0 l uses s K):=AQ _ _ _ rfl;refine AT (pol:=pol1) Tryz.func22 rfl rfl rfl rfl fr ?_;simp +contextual (disch:=omega) only[Tryz.f22,dd22,go_sem,simprocAttr,mu22,↓AD,↓AC,↓AB,↓AA,h97,hw,Ap,Al,BS,BM,BR,BQ,A7,A4,A0,Av,Az,Aw,Ax,Ay,AH,AL,AI,An,append_nil,h101];repeat' (first|intro _|apply And.intro|(unfold dOk;kernel_rfl)|exact St.beq_refl _|exact AP|(show altO _ _ _ _=true;kernel_rfl)|(show (_||_)=true;kernel_rfl)|(show (_&&_)=true;kernel_rfl))
 exact DG rfl rfl s _ (ex1 ..) (fun H=>Ad H (BH _)) (BH _)
theorem R6 {l:List Int} (hl:∀ x∈l,In64 x) {uses:Int}{d:Nat} (hd:d<=5) (ht:TreeLaw l uses d) (hb:TreeB l uses d) (s:MS) (b0:MB) (K:List MB) (hp:Pre (mA1 (d+1)) (mS1 (d+1)) s) (k:Int) (s1:MS) (hk:nx l 20 ⟨s.at_,s.left-1,s.caps⟩=(k,s1)) (hn1:¬ s1.left<3) (hn2:¬ (l.length:Int)<s1.at_) (h:k=14) (u:0<andI uses 16) :
  call Pg pol1 22 [.rf 1 1 0 0,I ((d+1:Nat):Int)] (mH b0 l uses s K)=some (reAV ((.mk 11 [] [] 0 0 0 (nx l 6 s1).1 false,(nx l 6 s1).2):Re×MS).1,mH b0 l uses ((.mk 11 [] [] 0 0 0 (nx l 6 s1).1 false,(nx l 6 s1).2):Re×MS).2 K):=by
 simp only[mA1,mS1]at hp;have hA:=A6 d;have hS:=A5 d;have hq:=BE l (n:=20) (by omega) ⟨s.at_,s.left-1,s.caps⟩;have p1:=Ac l 20 ⟨s.at_,s.left-1,s.caps⟩ hp.c;obtain⟨pa,pl,pc⟩:=hp;have h97:=fun K=>f97 l hl uses 20 (by omega) ⟨s.at_,s.left-1,s.caps⟩ ⟨pa.1,by simp only;omega⟩ b0 K;rw[hk]at hq p1 h97;clear hk;simp only at hq p1 h97;obtain⟨qa,ql,qc⟩:=p1;simp only at qa ql;have hw:IntKind.i64.wrap (s.left-1)=s.left-1:=i64_in _ ⟨by omega,by omega⟩;have hp5:Pre (5+3*mA1 d) (3*mS1 d) s1:=⟨⟨by omega,by omega⟩,⟨by omega,by omega⟩,qc⟩;subst h;have h97b:=fun K=>f97 l hl uses 6 (by omega) s1 ⟨by omega,by omega⟩ b0 K;generalize nx l 6 s1=Y at *;obtain⟨Y1,Y2⟩:=Y;simp only at h97b |-;have fr:frzArgs pol1 22 0 [.rf 1 1 0 0,I ((d+1:Nat):Int)] (mH b0 l uses s K)=some ([.rf 1 1 0 0,I ((d+1:Nat):Int)],mH b0 l uses s K):=AQ _ _ _ rfl;refine AT (pol:=pol1) Tryz.func22 rfl rfl rfl rfl fr ?_;simp +contextual (disch:=omega) only[Tryz.f22,dd22,go_sem,simprocAttr,mu22,↓AD,↓AC,↓AB,↓AA,h97,hw,Ap,Al,BS,BM,BR,BQ,A7,A4,A0,Av,Az,Aw,Ax,Ay,AH,AL,AI,An,append_nil,h97b];repeat' (first|intro _|apply And.intro|(unfold dOk;kernel_rfl)|exact St.beq_refl _|exact AP|(show altO _ _ _ _=true;kernel_rfl)|(show (_||_)=true;kernel_rfl)|(show (_&&_)=true;kernel_rfl))
 exact Bg (by rfl) (by rfl) s _ (ex1 ..) true true 11 [] [] 0 0 0 Y1 false
theorem PV {l:List Int} (hl:∀ x∈l,In64 x) {uses:Int}{d:Nat} (hd:d<=5) (ht:TreeLaw l uses d) (hb:TreeB l uses d) (s:MS) (b0:MB) (K:List MB) (hp:Pre (mA1 (d+1)) (mS1 (d+1)) s) (k:Int) (s1:MS) (hk:nx l 20 ⟨s.at_,s.left-1,s.caps⟩=(k,s1)) (hn1:¬ s1.left<3) (hn2:¬ (l.length:Int)<s1.at_) (h:k=15) (u:0<andI uses 4) :
  call Pg pol1 22 [.rf 1 1 0 0,I ((d+1:Nat):Int)] (mH b0 l uses s K)=some (reAV ((.mk (7+(nx l 2 (nx l 3 s1).2).1) [] [(treeF l uses d (nx l 2 (nx l 3 s1).2).2).1] 0 0 0 0 ((nx l 3 s1).1==0),(treeF l uses d (nx l 2 (nx l 3 s1).2).2).2):Re×MS).1,mH b0 l uses ((.mk (7+(nx l 2 (nx l 3 s1).2).1) [] [(treeF l uses d (nx l 2 (nx l 3 s1).2).2).1] 0 0 0 0 ((nx l 3 s1).1==0),(treeF l uses d (nx l 2 (nx l 3 s1).2).2).2):Re×MS).2 K):=by
 simp only[mA1,mS1]at hp;have hA:=A6 d;have hS:=A5 d;have hq:=BE l (n:=20) (by omega) ⟨s.at_,s.left-1,s.caps⟩;have p1:=Ac l 20 ⟨s.at_,s.left-1,s.caps⟩ hp.c;obtain⟨pa,pl,pc⟩:=hp;have h97:=fun K=>f97 l hl uses 20 (by omega) ⟨s.at_,s.left-1,s.caps⟩ ⟨pa.1,by simp only;omega⟩ b0 K;rw[hk]at hq p1 h97;clear hk;simp only at hq p1 h97;obtain⟨qa,ql,qc⟩:=p1;simp only at qa ql;have hw:IntKind.i64.wrap (s.left-1)=s.left-1:=i64_in _ ⟨by omega,by omega⟩;have hp5:Pre (5+3*mA1 d) (3*mS1 d) s1:=⟨⟨by omega,by omega⟩,⟨by omega,by omega⟩,qc⟩;subst h;have h97b:=fun K=>f97 l hl uses 3 (by omega) s1 ⟨by omega,by omega⟩ b0 K;have r1:=Ac l 3 s1 qc;generalize nx l 3 s1=Y at *;obtain⟨x,s2⟩:=Y;simp only at h97b r1 |-;have h97c:=fun K=>f97 l hl uses 2 (by omega) s2 ⟨by have:=r1.a;omega,by have:=r1.a;omega⟩ b0 K;have hv:=BE l (n:=2) (by omega) s2;have r2:=r1.trans (Ac l 2 s2 r1.c);generalize nx l 2 s2=Y at *;obtain⟨y,s3⟩:=Y;simp only at h97c hv r2 |-;have h44:=fun K=>ht s3 b0 K (hp5.step r2 (by omega) (by omega));generalize treeF l uses d s3=Y at *;obtain⟨Y1,Y2⟩:=Y;simp only at h44 |-;have fr:frzArgs pol1 22 0 [.rf 1 1 0 0,I ((d+1:Nat):Int)] (mH b0 l uses s K)=some ([.rf 1 1 0 0,I ((d+1:Nat):Int)],mH b0 l uses s K):=AQ _ _ _ rfl;refine AT (pol:=pol1) Tryz.func22 rfl rfl rfl rfl fr ?_;simp +contextual (disch:=omega) only[Tryz.f22,dd22,go_sem,simprocAttr,mu22,↓AD,↓AC,↓AB,↓AA,h97,hw,Ap,Al,BS,BM,BR,BQ,A7,A4,A0,Av,Az,Aw,Ax,Ay,AH,AL,AI,An,append_nil,h97b,h97c,h44];repeat' (first|intro _|apply And.intro|(unfold dOk;kernel_rfl)|exact St.beq_refl _|exact AP|(show altO _ _ _ _=true;kernel_rfl)|(show (_||_)=true;kernel_rfl)|(show (_&&_)=true;kernel_rfl))
 exact Bg (by rfl) (by rfl) s _ (ex1 ..) true true (7+y) [] [Y1] 0 0 0 0 (x==0)
theorem PY {l:List Int} (hl:∀ x∈l,In64 x) {uses:Int}{d:Nat} (hd:d<=5) (ht:TreeLaw l uses d) (hb:TreeB l uses d) (s:MS) (b0:MB) (K:List MB) (hp:Pre (mA1 (d+1)) (mS1 (d+1)) s) (k:Int) (s1:MS) (hk:nx l 20 ⟨s.at_,s.left-1,s.caps⟩=(k,s1)) (hn1:¬ s1.left<3) (hn2:¬ (l.length:Int)<s1.at_) (h:k=16) (u:0<andI uses 8) :
  call Pg pol1 22 [.rf 1 1 0 0,I ((d+1:Nat):Int)] (mH b0 l uses s K)=some (reAV ((.mk 9 [] [(treeF l uses d s1).1] 0 0 0 0 false,(treeF l uses d s1).2):Re×MS).1,mH b0 l uses ((.mk 9 [] [(treeF l uses d s1).1] 0 0 0 0 false,(treeF l uses d s1).2):Re×MS).2 K):=by
 simp only[mA1,mS1]at hp;have hA:=A6 d;have hS:=A5 d;have hq:=BE l (n:=20) (by omega) ⟨s.at_,s.left-1,s.caps⟩;have p1:=Ac l 20 ⟨s.at_,s.left-1,s.caps⟩ hp.c;obtain⟨pa,pl,pc⟩:=hp;have h97:=fun K=>f97 l hl uses 20 (by omega) ⟨s.at_,s.left-1,s.caps⟩ ⟨pa.1,by simp only;omega⟩ b0 K;rw[hk]at hq p1 h97;clear hk;simp only at hq p1 h97;obtain⟨qa,ql,qc⟩:=p1;simp only at qa ql;have hw:IntKind.i64.wrap (s.left-1)=s.left-1:=i64_in _ ⟨by omega,by omega⟩;have hp5:Pre (5+3*mA1 d) (3*mS1 d) s1:=⟨⟨by omega,by omega⟩,⟨by omega,by omega⟩,qc⟩;subst h;have h44:=fun K=>ht s1 b0 K ⟨⟨by omega,by omega⟩,⟨by omega,by omega⟩,qc⟩;generalize treeF l uses d s1=Y at *;obtain⟨Y1,Y2⟩:=Y;simp only at h44 |-;have fr:frzArgs pol1 22 0 [.rf 1 1 0 0,I ((d+1:Nat):Int)] (mH b0 l uses s K)=some ([.rf 1 1 0 0,I ((d+1:Nat):Int)],mH b0 l uses s K):=AQ _ _ _ rfl;refine AT (pol:=pol1) Tryz.func22 rfl rfl rfl rfl fr ?_;simp +contextual (disch:=omega) only[Tryz.f22,dd22,go_sem,simprocAttr,mu22,↓AD,↓AC,↓AB,↓AA,h97,hw,Ap,Al,BS,BM,BR,BQ,A7,A4,A0,Av,Az,Aw,Ax,Ay,AH,AL,AI,An,append_nil,h44];repeat' (first|intro _|apply And.intro|(unfold dOk;kernel_rfl)|exact St.beq_refl _|exact AP|(show altO _ _ _ _=true;kernel_rfl)|(show (_||_)=true;kernel_rfl)|(show (_&&_)=true;kernel_rfl))
 exact Bg (by rfl) (by rfl) s _ (ex1 ..) true true 9 [] [Y1] 0 0 0 0 false
theorem RK {l:List Int} (hl:∀ x∈l,In64 x) {uses:Int}{d:Nat} (hd:d<=5) (ht:TreeLaw l uses d) (hb:TreeB l uses d) (s:MS) (b0:MB) (K:List MB) (hp:Pre (mA1 (d+1)) (mS1 (d+1)) s) (k:Int) (s1:MS) (hk:nx l 20 ⟨s.at_,s.left-1,s.caps⟩=(k,s1)) (hn1:¬ s1.left<3) (hn2:¬ (l.length:Int)<s1.at_) (h:k=17) (u:0<andI uses 1) (c:0<s1.caps) :
  call Pg pol1 22 [.rf 1 1 0 0,I ((d+1:Nat):Int)] (mH b0 l uses s K)=some (reAV ((.mk 6 [] [] 0 0 0 (1+(nx l s1.caps s1).1) false,(nx l s1.caps s1).2):Re×MS).1,mH b0 l uses ((.mk 6 [] [] 0 0 0 (1+(nx l s1.caps s1).1) false,(nx l s1.caps s1).2):Re×MS).2 K):=by
 simp only[mA1,mS1]at hp;have hA:=A6 d;have hS:=A5 d;have hq:=BE l (n:=20) (by omega) ⟨s.at_,s.left-1,s.caps⟩;have p1:=Ac l 20 ⟨s.at_,s.left-1,s.caps⟩ hp.c;obtain⟨pa,pl,pc⟩:=hp;have h97:=fun K=>f97 l hl uses 20 (by omega) ⟨s.at_,s.left-1,s.caps⟩ ⟨pa.1,by simp only;omega⟩ b0 K;rw[hk]at hq p1 h97;clear hk;simp only at hq p1 h97;obtain⟨qa,ql,qc⟩:=p1;simp only at qa ql;have hw:IntKind.i64.wrap (s.left-1)=s.left-1:=i64_in _ ⟨by omega,by omega⟩;have hp5:Pre (5+3*mA1 d) (3*mS1 d) s1:=⟨⟨by omega,by omega⟩,⟨by omega,by omega⟩,qc⟩;subst h;have h97b:=fun K=>f97 l hl uses s1.caps (by omega) s1 ⟨by omega,by omega⟩ b0 K;have hv:=BE l c s1;generalize nx l s1.caps s1=Y at *;obtain⟨Y1,Y2⟩:=Y;simp only at h97b hv |-;have fr:frzArgs pol1 22 0 [.rf 1 1 0 0,I ((d+1:Nat):Int)] (mH b0 l uses s K)=some ([.rf 1 1 0 0,I ((d+1:Nat):Int)],mH b0 l uses s K):=AQ _ _ _ rfl;refine AT (pol:=pol1) Tryz.func22 rfl rfl rfl rfl fr ?_;simp +contextual (disch:=omega) only[Tryz.f22,dd22,go_sem,simprocAttr,mu22,↓AD,↓AC,↓AB,↓AA,h97,hw,Ap,Al,BS,BM,BR,BQ,A7,A4,A0,Av,Az,Aw,Ax,Ay,AH,AL,AI,An,append_nil,h97b];repeat' (first|intro _|apply And.intro|(unfold dOk;kernel_rfl)|exact St.beq_refl _|exact AP|(show altO _ _ _ _=true;kernel_rfl)|(show (_||_)=true;kernel_rfl)|(show (_&&_)=true;kernel_rfl))
 exact Bg (by rfl) (by rfl) s _ (ex1 ..) true true 6 [] [] 0 0 0 (1+Y1) false
theorem PX {l:List Int} (hl:∀ x∈l,In64 x) {uses:Int}{d:Nat} (hd:d<=5) (ht:TreeLaw l uses d) (hb:TreeB l uses d) (s:MS) (b0:MB) (K:List MB) (hp:Pre (mA1 (d+1)) (mS1 (d+1)) s) (k:Int) (s1:MS) (hk:nx l 20 ⟨s.at_,s.left-1,s.caps⟩=(k,s1)) (hn1:¬ s1.left<3) (hn2:¬ (l.length:Int)<s1.at_) (h:k=18) (u:0<andI uses 2) (c:0<s1.caps) :
  call Pg pol1 22 [.rf 1 1 0 0,I ((d+1:Nat):Int)] (mH b0 l uses s K)=some (reAV ((.mk 10 [] [(treeF l uses d (nx l s1.caps s1).2).1,(treeF l uses d (treeF l uses d (nx l s1.caps s1).2).2).1] 0 0 0 (1+(nx l s1.caps s1).1) false,(treeF l uses d (treeF l uses d (nx l s1.caps s1).2).2).2):Re×MS).1,mH b0 l uses ((.mk 10 [] [(treeF l uses d (nx l s1.caps s1).2).1,(treeF l uses d (treeF l uses d (nx l s1.caps s1).2).2).1] 0 0 0 (1+(nx l s1.caps s1).1) false,(treeF l uses d (treeF l uses d (nx l s1.caps s1).2).2).2):Re×MS).2 K):=by
 simp only[mA1,mS1]at hp;have hA:=A6 d;have hS:=A5 d;have hq:=BE l (n:=20) (by omega) ⟨s.at_,s.left-1,s.caps⟩;have p1:=Ac l 20 ⟨s.at_,s.left-1,s.caps⟩ hp.c;obtain⟨pa,pl,pc⟩:=hp;have h97:=fun K=>f97 l hl uses 20 (by omega) ⟨s.at_,s.left-1,s.caps⟩ ⟨pa.1,by simp only;omega⟩ b0 K;rw[hk]at hq p1 h97;clear hk;simp only at hq p1 h97;obtain⟨qa,ql,qc⟩:=p1;simp only at qa ql;have hw:IntKind.i64.wrap (s.left-1)=s.left-1:=i64_in _ ⟨by omega,by omega⟩;have hp5:Pre (5+3*mA1 d) (3*mS1 d) s1:=⟨⟨by omega,by omega⟩,⟨by omega,by omega⟩,qc⟩;subst h;have h97b:=fun K=>f97 l hl uses s1.caps (by omega) s1 ⟨by omega,by omega⟩ b0 K;have hv:=BE l c s1;have r1:=Ac l s1.caps s1 qc;generalize nx l s1.caps s1=Y at *;obtain⟨x,s2⟩:=Y;simp only at h97b hv r1 |-;have pr1:Pre (mA1 d) (mS1 d) s2:=hp5.step r1 (by omega) (by omega);have h44a:=fun K=>ht s2 b0 K pr1;have r2:=r1.trans (hb s2 pr1);generalize treeF l uses d s2=Y at *;obtain⟨y,s3⟩:=Y;simp only at h44a r2 |-;have h44b:=fun K=>ht s3 b0 K (hp5.step r2 (by omega) (by omega));generalize treeF l uses d s3=Y at *;obtain⟨Y1,Y2⟩:=Y;simp only at h44b |-;have fr:frzArgs pol1 22 0 [.rf 1 1 0 0,I ((d+1:Nat):Int)] (mH b0 l uses s K)=some ([.rf 1 1 0 0,I ((d+1:Nat):Int)],mH b0 l uses s K):=AQ _ _ _ rfl;refine AT (pol:=pol1) Tryz.func22 rfl rfl rfl rfl fr ?_;simp +contextual (disch:=omega) only[Tryz.f22,dd22,go_sem,simprocAttr,mu22,↓AD,↓AC,↓AB,↓AA,h97,hw,Ap,Al,BS,BM,BR,BQ,A7,A4,A0,Av,Az,Aw,Ax,Ay,AH,AL,AI,An,append_nil,h97b,h44a,h44b];repeat' (first|intro _|apply And.intro|(unfold dOk;kernel_rfl)|exact St.beq_refl _|exact AP|(show altO _ _ _ _=true;kernel_rfl)|(show (_||_)=true;kernel_rfl)|(show (_&&_)=true;kernel_rfl))
 exact Bg (by rfl) (by rfl) s _ (ex2 ..) true true 10 [] [y,Y1] 0 0 0 (1+x) false
theorem PW {l:List Int} (hl:∀ x∈l,In64 x) {uses:Int}{d:Nat} (hd:d<=5) (ht:TreeLaw l uses d) (hb:TreeB l uses d) (s:MS) (b0:MB) (K:List MB) (hp:Pre (mA1 (d+1)) (mS1 (d+1)) s) (k:Int) (s1:MS) (hk:nx l 20 ⟨s.at_,s.left-1,s.caps⟩=(k,s1)) (hn1:¬ s1.left<3) (hn2:¬ (l.length:Int)<s1.at_) (h:12<=k) (n12:¬ (k=12/\0<andI uses 64)) (n13:¬ (k=13/\0<andI uses 64)) (n14:¬ (k=14/\0<andI uses 16)) (n15:¬ (k=15/\0<andI uses 4)) (n16:¬ (k=16/\0<andI uses 8)) (n17:¬ (k=17/\0<andI uses 1/\0<s1.caps)) (n18:¬ (k=18/\0<andI uses 2/\0<s1.caps)) :
  call Pg pol1 22 [.rf 1 1 0 0,I ((d+1:Nat):Int)] (mH b0 l uses s K)=some (reAV (setM l s1).1,mH b0 l uses (setM l s1).2 K):=by
 simp only[mA1,mS1]at hp;have hA:=A6 d;have hS:=A5 d;have hq:=BE l (n:=20) (by omega) ⟨s.at_,s.left-1,s.caps⟩;have p1:=Ac l 20 ⟨s.at_,s.left-1,s.caps⟩ hp.c;obtain⟨pa,pl,pc⟩:=hp;have h97:=fun K=>f97 l hl uses 20 (by omega) ⟨s.at_,s.left-1,s.caps⟩ ⟨pa.1,by simp only;omega⟩ b0 K;rw[hk]at hq p1 h97;clear hk;simp only at hq p1 h97;obtain⟨qa,ql,qc⟩:=p1;simp only at qa ql;have hw:IntKind.i64.wrap (s.left-1)=s.left-1:=i64_in _ ⟨by omega,by omega⟩;have hp5:Pre (5+3*mA1 d) (3*mS1 d) s1:=⟨⟨by omega,by omega⟩,⟨by omega,by omega⟩,qc⟩;have h98:=fun K=>f98 l hl uses s1 ⟨by omega,by omega⟩ b0 K;generalize setM l s1=Y at *;obtain⟨Y1,Y2⟩:=Y;simp only at h98 |-;have fr:frzArgs pol1 22 0 [.rf 1 1 0 0,I ((d+1:Nat):Int)] (mH b0 l uses s K)=some ([.rf 1 1 0 0,I ((d+1:Nat):Int)],mH b0 l uses s K):=AQ _ _ _ rfl;refine AT (pol:=pol1) Tryz.func22 rfl rfl rfl rfl fr ?_;simp +contextual (disch:=omega) only[Tryz.f22,dd22,go_sem,simprocAttr,mu22,↓AD,↓AC,↓AB,↓AA,h97,hw,Ap,Al,BS,BM,BR,BQ,A7,A4,A0,Av,Az,Aw,Ax,Ay,AH,AL,AI,An,append_nil,h98];repeat' (first|intro _|apply And.intro|(unfold dOk;kernel_rfl)|exact St.beq_refl _|exact AP|(show altO _ _ _ _=true;kernel_rfl)|(show (_||_)=true;kernel_rfl)|(show (_&&_)=true;kernel_rfl))
 all_goals exact DG rfl rfl s _ (ex1 ..) (fun H=>Ad H (BH _)) (BH _)
theorem O5 {l:List Int} (hl:∀ x∈l,In64 x) {uses:Int}{d:Nat} (hd:d<=5) (ht:TreeLaw l uses d) (hb:TreeB l uses d):TreeLaw l uses (d+1):=by
 intro s b0 K hp;simp only[treeF];generalize hk:nx l 20 ⟨s.at_,s.left-1,s.caps⟩=Y;obtain⟨k,s1⟩:=Y;simp only;have hq:=BE l (n:=20) (by omega) ⟨s.at_,s.left-1,s.caps⟩;rw[hk]at hq;simp only at hq;unfold treeStep;by_cases hc:s1.left<3∨(l.length:Int)<s1.at_
 ·rw[if_pos hc];exact SL hl hd s b0 K hp k s1 hk hc
 rw[if_neg hc];have hn1:¬ s1.left<3:=fun h=>hc (.inl h);have hn2:¬ (l.length:Int)<s1.at_:=fun h=>hc (.inr h);by_cases h5:k<5
 ·rw[if_pos h5];exact RL hl hd ht hb s b0 K hp k s1 hk hn1 hn2 h5
 rw[if_neg h5];by_cases h8:k<8
 ·rw[if_pos h8];exact RM hl hd ht hb s b0 K hp k s1 hk hn1 hn2 (by omega) h8
 rw[if_neg h8];by_cases h12:k<12
 ·rw[if_pos h12];exact RJ hl hd ht hb s b0 K hp k s1 hk hn1 hn2 (by omega) h12
 rw[if_neg h12];by_cases c1:(k=12∨k=13)/\0<andI uses 64
 ·rw[if_pos c1];rcases c1.1 with e|e
  ·exact OF hl hd ht hb s b0 K hp k s1 hk hn1 hn2 e c1.2
  ·exact OE hl hd ht hb s b0 K hp k s1 hk hn1 hn2 e c1.2
 rw[if_neg c1];by_cases c2:k=14/\0<andI uses 16
 ·rw[if_pos c2];exact R6 hl hd ht hb s b0 K hp k s1 hk hn1 hn2 c2.1 c2.2
 rw[if_neg c2];by_cases c3:k=15/\0<andI uses 4
 ·rw[if_pos c3];exact PV hl hd ht hb s b0 K hp k s1 hk hn1 hn2 c3.1 c3.2
 rw[if_neg c3];by_cases c4:k=16/\0<andI uses 8
 ·rw[if_pos c4];exact PY hl hd ht hb s b0 K hp k s1 hk hn1 hn2 c4.1 c4.2
 rw[if_neg c4];by_cases c5:k=17/\0<andI uses 1/\0<s1.caps
 ·rw[if_pos c5];exact RK hl hd ht hb s b0 K hp k s1 hk hn1 hn2 c5.1 c5.2.1 c5.2.2
 rw[if_neg c5];by_cases c6:k=18/\0<andI uses 2/\0<s1.caps
 ·rw[if_pos c6];exact PX hl hd ht hb s b0 K hp k s1 hk hn1 hn2 c6.1 c6.2.1 c6.2.2
 rw[if_neg c6];exact PW hl hd ht hb s b0 K hp k s1 hk hn1 hn2 (by omega) (fun h=>c1 ⟨.inl h.1,h.2⟩) (fun h=>c1 ⟨.inr h.1,h.2⟩) c2 c3 c4 c5 c6
theorem Jp {l:List Int} (hl:∀ x∈l,In64 x) (uses:Int):∀ d,d<=6->TreeLaw l uses d/\TreeB l uses d
 | 0,_=>⟨fun s b0 K hp=>by
    simp only[treeF];generalize hk:nx l 20 ⟨s.at_,s.left-1,s.caps⟩=Y;obtain⟨k,s1⟩:=Y;exact SM hl s b0 K hp k s1 hk,K5⟩
 | d+1,h=>by
   obtain⟨h1,h2⟩:=Jp hl uses d (by omega);exact⟨O5 hl (by omega) h1 h2,K6 h2⟩
theorem f11m (l:List Int) (hl:∀ x∈l,In64 x) (uses most:Int) (hmo:0<=most/\most<=1000) (H:List MB) :
  call Pg pol1 7 [.sl false (l.map I),I uses,I most] H=some (patAV ⟨(treeF l uses 5 ⟨0,most,0⟩).1,(treeF l uses 5 ⟨0,most,0⟩).2.caps,false⟩,H):=by
 refine AS Tryz.func7 rfl rfl rfl rfl rfl rfl (fun _=>rfl) (by simp[AV.plain,AV.plainL,AJ]) (show AV.plain (patAV _)=true from A9 _) ?_ H;have hpre:Pre (mA1 5) (mS1 5) ⟨0,most,0⟩:=by
  have h1:mS1 5=364:=rfl;have h2:mA1 5=1818:=rfl;exact⟨by simp only[h2];omega,by simp only[h1];omega,by simp only[];omega⟩
 have h44:∀ b0,call Pg pol1 22 [.rf 1 1 0 0,I 5] [b0,.row 5 [.agg [.sl false (l.map I),I 0,I uses,I most,I 0]] 0]=some (reAV (treeF l uses 5 ⟨0,most,0⟩).1,mH b0 l uses (treeF l uses 5 ⟨0,most,0⟩).2 []):=fun b0=>(Jp hl uses 5 (by omega)).1 ⟨0,most,0⟩ b0 [] hpre;generalize treeF l uses 5 ⟨0,most,0⟩=Y at *;obtain⟨r,s⟩:=Y;simp only at h44 |-;have htk8:∀ r l,List.take 8 (reC r++l)=reC r:=fun r l=>by
  have:=AH r;rw[List.take_append_of_le_length (by omega)];exact take_of_length_le (by omega)
 have hdr9:∀ r (a b:AV),List.drop 9 (reC r++[a,b])=[b]:=fun r a b=>by
  have:=AH r;rw[show (9:Nat)=8+1 from rfl,<- List.drop_drop,List.drop_append_of_le_length (by omega),An];rfl
 have ht10:∀ a b:AV,List.take 10 (reC r++[a,b])=reC r++[a,b]:=fun a b=>take_of_length_le (by simp[AH]);simp +contextual (disch:=omega) only[Tryz.f7,dd7,go_sem,simprocAttr,evBin,mu7,↓AD,↓AC,↓AB,↓AA,h44,htk8,hdr9,ht10,AH,AL,AI,An,List.all_append];repeat' (first|intro _|apply And.intro|(unfold dOk;kernel_rfl)|exact St.beq_refl _|exact AP|(show altO _ _ _ _=true;kernel_rfl)|(show (_||_)=true;kernel_rfl)|(show (_&&_)=true;kernel_rfl))
 exact⟨_,Ad _ (A9 ⟨r,s.caps,false⟩)⟩
end
section
attribute [local go_sem] evBin
theorem Sk {H:List MB}{i n:Nat}{rs:List Int}{c:Int}{t:Bool} (hi:getRow H i=some (1,rs.map I,0)) (hn:rs.length=n) (hr:n+1<=4000000000) :
  evAppend Pg H 22 22 (.ms i 1 n 0 n) (.sl t [I c])=some (.ms i 1 (n+1) 0 (n+1),H.set i (.row 1 ((rs++[c]).map I) 0)):=by
 have hs:srcElems Pg H 3 (.sl t [I c])=some [I c]:=rfl;rw[Ao (e:=3) (by kernel_rfl) (by kernel_rfl) (k:=1) (by kernel_rfl) (by_:=8) (by kernel_rfl) (ze:=I 0) (by kernel_rfl) rfl (by omega) hs rfl hi (by rw[List.length_map];exact hn) (Nat.zero_le _) (Ag (by simpa using hr) (by omega))];rw[map_append];rfl
def ktextT:List Int:=[97,97,97,98,98,99,97,98,10,32,65,200]
def textAt (l:List Int) (i:Nat):Int:=ktextT.getD (pickI l i 12).toNat 0
def textN (l:List Int) (n:Nat):List Int:=(List.range n).map (textAt l)
theorem LA (l:List Int) (n:Nat):textN l (n+1)=textN l n++[textAt l n]:=by simp[textN,List.range_succ]
theorem H4 (l:List Int) (n:Nat):(textN l n).length=n:=by simp[textN]
def textI (l:List Int) (most:Nat):List Int:=textN l (min l.length most)
theorem Mw (l:List Int) (i:Nat):0<=textAt l i/\textAt l i<=200:=by
 have hp:=F1 (l:=l) (i:=i) (m:=12) (by omega);unfold textAt;generalize pickI l i 12=p at *;obtain⟨n,rfl⟩:∃ n:Nat,p=n:=⟨p.toNat,by omega⟩;simp only[Int.toNat_natCast];have hn:n<12:=by omega
 have h12:∀ n,n<12->0<=ktextT.getD n 0/\ktextT.getD n 0<=200:=by decide
 exact h12 n hn
theorem OD (l:List Int) (most:Nat):∀ x∈textI l most,0<=x/\x<=200:=by
 intro x hx;simp only[textI,textN,List.mem_map]at hx;obtain⟨i,_,rfl⟩:=hx;exact Mw l i
theorem SN (l:List Int) (hl:∀ x∈l,In64 x) (most:Nat) (hm:most<=1000000) (H:List MB):call Pg pol1 15 [.sl false (l.map I),I most] H=some (.sl false ((textI l most).map I),H):=by
 have hpl:=AJ l;refine AS Tryz.func15 rfl rfl rfl rfl rfl rfl (fun _=>rfl) (by simp[AV.plain,AV.plainL,hpl]) (by simp[AV.plain,AJ]) ?_ H;have hP:=fun i=>f57 l i 12 hl (by omega);simp +contextual (disch:=omega) only[Tryz.f15,dd15,go_sem,simprocAttr,evAppend,mu15,↓AD,↓AC,↓AB,↓AA];refine AY (M:=(mskOf (pol1.mask 15) (pol1.gc 15) (pol1.acts 15) 0 3)) rfl (min l.length most) (fun i=>(⟨28,[(6,I i),(5,.ms 0 1 i 0 i),(1,I most),(0,.sl false (l.map I))],[.row 1 ((textN l i).map I) 0]⟩:St)) (fun _=>True) ?_ ?_ trivial _ ?_
 ·intro i hi _;have h1:i<l.length:=by omega
  have h2:i<most:=by omega
  have hp:=F1 (l:=l) (i:=i) (m:=12) (by omega);have ht:textAt l i=ktextT.getD (pickI l i 12).toNat 0:=rfl;have hP:=hP i;generalize pickI l i 12=p at *;obtain⟨n,rfl⟩:∃ n:Nat,p=n:=⟨p.toNat,by omega⟩;have hg:([I 97,I 97,I 97,I 98,I 98,I 99,I 97,I 98,I 10,I 32,I 65,I 200]:List AV)[n]?=some (I (textAt l i)):=by
   rw[ht,Int.toNat_natCast];have h12:∀ n,n<12->ktextT[n]?=some (ktextT.getD n 0):=by decide
   have e:([I 97,I 97,I 97,I 98,I 98,I 99,I 97,I 98,I 10,I 32,I 65,I 200]:List AV)=ktextT.map I:=rfl;rw[e,List.getElem?_map,h12 n (by omega)];rfl
  have happ:=fun(K:List MB) (t:Bool)=>Sk (H:=.row 1 ((textN l i).map I) 0::K) (i:=0) (c:=textAt l i) (t:=t) rfl (H4 l i) (by omega);simp +contextual (disch:=omega) only[Tryz.f15,dd15,go_sem,simprocAttr,mu15,↓AD,↓AC,↓AB,↓AA,hP,hg,happ];rw[LA];exact(by first|rfl|(refine CR (n:=1) (m:=⟨some [6,5,1,0],some 1,[]⟩) rfl rfl ?_ ?_ ?_<;>first|rfl|(simp[keepT,AV.underL,AV.under,MB.under,AE,AK,Aa,AJ,AF,AN,AO,-map_take,-map_replicate,-map_set];done)|(simp[keepT,AV.underL,AV.under,MB.under,AE,AK,Aa,AJ,AF,AN,AO,-map_take,-map_replicate,-map_set];omega)))
 ·intro _;have hx:(min l.length most=l.length∨min l.length most=most)/\min l.length most<=l.length:=by omega
  have hlen:=H4 l (min l.length most);unfold textI;generalize min l.length most=m at *;by_cases h1:m<l.length
  ·have h2:m=most:=by omega
   subst h2;simp +contextual (disch:=omega) only[Tryz.f15,dd15,go_sem,simprocAttr,evAppend,mu15,↓AD,↓AC,↓AB,↓AA];exact⟨_,BG (k:=1) rfl (by simpa using hlen) (AJ _)⟩
  ·have h2:m=l.length:=by omega
   subst h2;simp +contextual (disch:=omega) only[Tryz.f15,dd15,go_sem,simprocAttr,evAppend,mu15,↓AD,↓AC,↓AB,↓AA];exact⟨_,BG (k:=1) rfl (by simpa using hlen) (AJ _)⟩
 ·exact(by first|rfl|(refine CR (n:=1) (m:=⟨some [6,5,1,0],some 1,[]⟩) rfl rfl ?_ ?_ ?_<;>first|rfl|(simp[keepT,AV.underL,AV.under,MB.under,AE,AK,Aa,AJ,AF,AN,AO,-map_take,-map_replicate,-map_set];done)|(simp[keepT,AV.underL,AV.under,MB.under,AE,AK,Aa,AJ,AF,AN,AO,-map_take,-map_replicate,-map_set];omega)))
end
section
attribute [local go_sem] evBin
def treeI (l:List Int) (most:Int):Re:=(treeF l 96 5 ⟨0,most,0⟩).1
theorem OB (l:List Int) (most:Int):(treeI l most).wt<=2000:=Nat.le_trans (GD l 96 5 _) (by decide)
def pattI (l:List Int) (uses most:Int):Pat:=⟨(treeF l uses 5 ⟨0,most,0⟩).1,(treeF l uses 5 ⟨0,most,0⟩).2.caps,false⟩
theorem f7 (l:List Int) (hl:∀ x∈l,In64 x) (uses most:Int) (hmo:0<=most/\most<=1000) (H:List MB) :
 call Pg pol1 7 [.sl false (l.map I),I uses,I most] H=some (patAV (pattI l uses most),H):=f11m l hl uses most hmo H
theorem f6 (l:List Int) (hl:∀ x∈l,In64 x) (most:Int) (hmo:0<=most/\most<=1000) (H:List MB) :
  call Pg pol1 6 [.sl false (l.map I),I most] H=some (reAV (treeI l most),H):=by
 have h7:=f7 l hl 96 most hmo;refine AS Tryz.func6 rfl rfl rfl rfl rfl rfl (fun _=>rfl) (by simp[AV.plain,AV.plainL,AJ]) (AU _) ?_ H;obtain⟨p,hp⟩:∃ p,pattI l 96 most=p:=⟨_,rfl⟩;have e:treeI l most=p.re:=by rw[<- hp];rfl
 rw[hp]at h7;rw[e];clear e hp;obtain⟨re,caps,runes⟩:=p;have hl8:=AH re;have htk8:∀ l,List.take 8 (reC re++l)=reC re:=fun l=>by
  rw[List.take_append_of_le_length (by omega)];exact take_of_length_le (by omega)
 simp +contextual (disch:=omega) only[Tryz.f6,dd6,go_sem,simprocAttr,evAppend,mu6,↓AD,↓AC,↓AB,↓AA,h7,hl8,htk8,AH,AI,AL];exact fzEq (AU _) rfl
theorem d13 (a b:List Int) (hl:a.length<=1000000000) (hb:b.length<=1000000000) (H:List MB):call Pg pol1 13 [.sl false (a.map I),.sl false (b.map I)] H=some (.bool (decide (a=b)),H):=by
 refine AS Tryz.func13 rfl rfl rfl rfl rfl rfl (fun _=>rfl) (by simp[AV.plain,AV.plainL,AJ]) rfl ?_ H;by_cases hn:a.length=b.length
 ·have hn':((a.length:Int)=(b.length:Int))=True:=eq_true (by omega);simp +contextual (disch:=omega) only[Tryz.f13,dd13,go_sem,simprocAttr,evAppend,mu13,↓AD,↓AC,↓AB,↓AA,hn'];refine AY (M:=(mskOf (pol1.mask 13) (pol1.gc 13) (pol1.acts 13) 0 4)) (by rfl) a.length (fun i=>(⟨26,[(5,I i),(1,.sl false (b.map I)),(0,.sl false (a.map I))],[]⟩:St)) (fun i=>a.take i=b.take i) ?_ ?_ rfl _ (by first|rfl|(refine AR rfl (by rfl) (by rfl) (by rfl) ?_ ?_<;>simp[AV.underL,AV.under,MB.under,AE,AK,AJ,AF,AN,AO,-map_take,AJ]))
  ·intro i hi hinv;obtain⟨p,hp⟩:∃ p,a[i]?=some p:=⟨_,List.getElem?_eq_getElem hi⟩;obtain⟨q,hq⟩:∃ p,b[i]?=some p:=⟨_,List.getElem?_eq_getElem (by omega)⟩;have hp':(a.map I)[i]?=some (I p):=by simp[hp]
   have hq':(b.map I)[i]?=some (I q):=by simp[hq]
   have hlt:(i:Int)<(a.length:Int):=by omega
   have hltb:(i:Int)<(b.length:Int):=by omega
   by_cases he:p=q
   ·subst he;have h1:a.take (i+1)=b.take (i+1):=by rw[AX hp,AX hq,hinv]
    simp +contextual (disch:=omega) only[Tryz.f13,dd13,go_sem,simprocAttr,evAppend,mu13,↓AD,↓AC,↓AB,↓AA,hp',hq',hlt,hltb,h1];repeat' (first|intro _|apply And.intro|(unfold dOk;kernel_rfl)|exact St.beq_refl _|exact AP|(show altO _ _ _ _=true;kernel_rfl)|(show (_||_)=true;kernel_rfl)|(show (_&&_)=true;kernel_rfl))
    exact(by first|rfl|(refine AR rfl (by rfl) (by rfl) (by rfl) ?_ ?_<;>simp[AV.underL,AV.under,MB.under,AE,AK,AJ,AF,AN,AO,-map_take,AJ]))
   ·have hne:a≠b:=fun e=>he (by rw[e,hq]at hp;exact(Option.some.inj hp).symm);rw[decide_eq_false hne];simp +contextual (disch:=omega) only[Tryz.f13,dd13,go_sem,simprocAttr,evAppend,mu13,↓AD,↓AC,↓AB,↓AA,hp',hq',hlt,hltb,he];repeat' (first|intro _|apply And.intro|(unfold dOk;kernel_rfl)|exact St.beq_refl _|exact AP|(show altO _ _ _ _=true;kernel_rfl)|(show (_||_)=true;kernel_rfl)|(show (_&&_)=true;kernel_rfl))
    exact fzEq rfl rfl
  ·intro hinv;have:a=b:=by
    rw[List.take_length,hn,List.take_length]at hinv;exact hinv
   rw[decide_eq_true this];simp +contextual (disch:=omega) only[Tryz.f13,dd13,go_sem,simprocAttr,evAppend,mu13,↓AD,↓AC,↓AB,↓AA,hn'];exact fzEq rfl rfl
 ·have hn':((a.length:Int)=(b.length:Int))=False:=eq_false (by omega);have hne:a≠b:=fun e=>hn (by rw[e]);rw[decide_eq_false hne];simp +contextual (disch:=omega) only[Tryz.f13,dd13,go_sem,simprocAttr,evAppend,mu13,↓AD,↓AC,↓AB,↓AA,hn'];exact fzEq rfl rfl
theorem d38 (x:Int) (H:List MB):call Pg pol1 38 [I x] H=some (reAV (setR [(x,x)]),H):=by
 refine AS Tryz.func38 rfl rfl rfl rfl rfl rfl (fun _=>rfl) rfl (AU _) ?_ H;simp +contextual (disch:=omega) only[Tryz.f38,dd38,go_sem,simprocAttr,evAppend,mu38,↓AD,↓AC,↓AB,↓AA];have hz:=JS true true 1 [(x,x)] [] 0 0 0 0 false;exact⟨_,hz _⟩
theorem t8R (r:Re) (l:List AV):List.take 8 (reC r++l)=reC r:=by
 rw[List.take_append_of_le_length (by rw[AH];exact Nat.le_refl _)];exact take_of_length_le (by rw[AH];exact Nat.le_refl _)
theorem d9R (r:Re) (a b:AV):List.drop 9 (reC r++[a,b])=[b]:=by
 rw[List.drop_append,AH,List.drop_of_length_le (by rw[AH];omega)];rfl
theorem t9R (r:Re) (a:AV) (l:List AV):List.take 9 (reC r++a::l)=reC r++[a]:=by
 rw[List.take_append,AH,take_of_length_le (by rw[AH];omega)];rfl
theorem d10R (r:Re) (a b:AV):List.drop 10 (reC r++[a,b])=[]:=List.drop_of_length_le (by simp[AH])
theorem fzZe (n:Int) {K:List MB}:∃ H',fz (.tup [zeR,I n]) K=some (.tup [reAV emptyR,I n],H'):=⟨K,rfl⟩
theorem d20 (r:Re) (x:Int) (hw:r.wt<=1000000) (H:List MB) :
  call Pg pol1 20 [reAV r,I x] H=some (if chkP ⟨r,9,true⟩≠0 then .tup [reAV emptyR,I (chkP ⟨r,9,true⟩)] else if x<0∨1114111<x then .tup [reAV emptyR,I 5] else resA (stepR x r),H):=by
 have h23:=d23 ⟨r,9,true⟩ hw;have hck:=HH (p:=⟨r,9,true⟩);have hpl:AV.plain (if chkP ⟨r,9,true⟩≠0 then .tup [reAV emptyR,I (chkP ⟨r,9,true⟩)] else if x<0∨1114111<x then .tup [reAV emptyR,I 5] else resA (stepR x r))=true:=by
  split
  ·rfl
  ·split
   ·rfl
   ·exact GV _
 refine AS Tryz.func20 rfl rfl rfl rfl rfl rfl (fun _=>rfl) (by simp[AV.plain,AV.plainL,AM]) hpl ?_ H;clear hpl;by_cases hc:chkP ⟨r,9,true⟩=0
 ·rw[if_neg (by simpa using hc)];obtain⟨hok,hsz,hwh⟩:=hck hc;have h29:=d29 hsz hok 9 1114111 hwh x;rw[hc]at h23;by_cases x0:x<0
  ·rw[if_pos (.inl x0)];simp +contextual (disch:=omega) only[Tryz.f20,dd20,go_sem,simprocAttr,evAppend,mu20,↓AD,↓AC,↓AB,↓AA,h23,x0,AH,AI,AL,t8R,d9R,t9R,d10R,length_append,append_assoc,cons_append,nil_append]
   first|exact fzEq (by simp[AV.plain,AV.plainL,AM]) rfl|exact fzZe _
  ·by_cases x1:1114111<x
   ·rw[if_pos (.inr x1)];simp +contextual (disch:=omega) only[Tryz.f20,dd20,go_sem,simprocAttr,evAppend,mu20,↓AD,↓AC,↓AB,↓AA,h23,x0,x1,AH,AI,AL,t8R,d9R,t9R,d10R,length_append,append_assoc,cons_append,nil_append]
    first|exact fzEq (by simp[AV.plain,AV.plainL,AM]) rfl|exact fzZe _
   ·rw[if_neg (by omega)];cases hst:stepR x r with
    | none=>
      rw[hst]at h29;unfold resA at h29 |-;simp +contextual (disch:=omega) only[Tryz.f20,dd20,go_sem,simprocAttr,evAppend,mu20,↓AD,↓AC,↓AB,↓AA,h23,x0,x1,h29,AH,AI,AL,t8R,d9R,t9R,d10R,length_append,append_assoc,cons_append,nil_append]
      first|exact fzEq (by simp[AV.plain,AV.plainL,AM]) rfl|exact fzZe _
    | some q=>
      rw[hst]at h29;unfold resA at h29 |-;simp +contextual (disch:=omega) only[Tryz.f20,dd20,go_sem,simprocAttr,evAppend,mu20,↓AD,↓AC,↓AB,↓AA,h23,x0,x1,h29,AH,AI,AL,t8R,d9R,t9R,d10R,length_append,append_assoc,cons_append,nil_append]
      first|exact fzEq (by simp[AV.plain,AV.plainL,AM]) rfl|exact fzZe _
 ·rw[if_pos hc];simp +contextual (disch:=omega) only[Tryz.f20,dd20,go_sem,simprocAttr,evAppend,mu20,↓AD,↓AC,↓AB,↓AA,h23,hc,AH,AI,AL,t8R,d9R,t9R,d10R,length_append,append_assoc,cons_append,nil_append]
  first|exact fzEq (by simp[AV.plain,AV.plainL,AM]) rfl|exact fzZe _
end
end Go.Ev
namespace Go.Ev
abbrev lvA:Re:=setR [(97,97)]
abbrev lvB:Re:=setR [(98,98)]
abbrev lvR:Re:=.mk 2 [] [.mk 4 [] [lvA] 0 (-1) 0 0 false,lvB] 0 0 0 0 false
theorem P2:chkP ⟨lvR,9,true⟩=0:=by decide
theorem P3:chkP ⟨lvR,0,false⟩=0:=by decide
theorem Pz:setsR lvR=[[(97,97)],[(98,98)]]:=by simp[setsR,setsL]
theorem P1:endsR [[(97,97)],[(98,98)]] 255=[0,97,98,99]:=by decide
theorem Oi:splitA [[(97,97)],[(98,98)]] [0,97,98,99] 255=some [[(0,96),(99,255)],[(97,97)],[(98,98)]]:=by
 rw[H5]
 ·congr 1
 ·rintro(h|⟨c,hc,h⟩)
  ·revert h;decide
  ·revert h;revert c;decide
theorem RU:badR lvR=false:=by decide
theorem SK:nf lvR=lvR:=by simp[nf,nfL,formN,catR,flatR,joinR,repR,Re.op,Re.sub,isNoth,Re.set]
theorem st_a:stepR 97 lvR=some lvR:=by
 simp[stepR,drv,drvL,catD,joinR,nullG,nullAll,nullAny,nullHd,hasSpan,badR,badRL,altBad,flatR,nf,nfL,formN,catR,altR,altL,othersOf,spansOf,putAll,putR,repR,Re.op,Re.sub,isNoth,Re.set,Re.size,Re.sizeL,Re.depth,Re.depthL,B3,show max (-1:Int) 0=0 from rfl]
theorem st_b:stepR 98 lvR=some emptyR:=by
 simp[stepR,drv,drvL,catD,joinR,nullG,nullAll,nullAny,nullHd,hasSpan,badR,badRL,altBad,flatR,nf,nfL,formN,catR,altR,altL,othersOf,spansOf,putAll,putR,repR,Re.op,Re.sub,isNoth,Re.set,Re.size,Re.sizeL,Re.depth,Re.depthL,B3,show max (-1:Int) 0=0 from rfl]
theorem st_c:stepR 99 lvR=some nothR:=by
 simp[stepR,drv,drvL,catD,joinR,nullG,nullAll,nullAny,nullHd,hasSpan,badR,badRL,altBad,flatR,nf,nfL,formN,catR,altR,altL,othersOf,spansOf,putAll,putR,repR,Re.op,Re.sub,isNoth,Re.set,Re.size,Re.sizeL,Re.depth,Re.depthL,B3,show max (-1:Int) 0=0 from rfl]
theorem st_0:stepR 0 lvR=some nothR:=by
 simp[stepR,drv,drvL,catD,joinR,nullG,nullAll,nullAny,nullHd,hasSpan,badR,badRL,altBad,flatR,nf,nfL,formN,catR,altR,altL,othersOf,spansOf,putAll,putR,repR,Re.op,Re.sub,isNoth,Re.set,Re.size,Re.sizeL,Re.depth,Re.depthL,B3,show max (-1:Int) 0=0 from rfl]
theorem st_n (x:Int):stepR x nothR=some nothR:=by
 simp[stepR,drv,drvL,catD,joinR,nullG,nullAll,nullAny,nullHd,hasSpan,badR,badRL,altBad,flatR,nf,nfL,formN,catR,altR,altL,othersOf,spansOf,putAll,putR,repR,Re.op,Re.sub,isNoth,Re.set,Re.size,Re.sizeL,Re.depth,Re.depthL,B3,show max (-1:Int) 0=0 from rfl]
theorem st_e (x:Int):stepR x emptyR=some nothR:=by
 simp[stepR,drv,drvL,catD,joinR,nullG,nullAll,nullAny,nullHd,hasSpan,badR,badRL,altBad,flatR,nf,nfL,formN,catR,altR,altL,othersOf,spansOf,putAll,putR,repR,Re.op,Re.sub,isNoth,Re.set,Re.size,Re.sizeL,Re.depth,Re.depthL,B3,show max (-1:Int) 0=0 from rfl]
theorem EL {lim most f:Nat}{xs:List Int}{ts ts':List Re}{rows:List (List Nat)}{row:List Nat}{accs:List Bool}{r:Re} (h1:ts[rows.length]?=some r) (h2:rowD lim r xs ts=some (ts',row)) (h3:¬ most<ts'.length) :
  autoF lim most xs (f+1) ts rows accs=autoF lim most xs f ts' (rows++[row]) (accs++[nullG r]):=by
 simp only[autoF,h1,h2,if_neg h3]
theorem Nv {lim most f:Nat}{xs:List Int}{ts:List Re}{rows:List (List Nat)}{accs:List Bool} (h1:ts[rows.length]?=none):autoF lim most xs (f+1) ts rows accs=.ok rows accs:=by
 simp only[autoF,h1]
theorem P4:autoF 1024 1024 [0,97,98] 2000 [lvR] [] []=.ok [[1,0,2],[1,1,1],[1,1,1]] [false,false,true]:=by
 have hne1:lvR≠nothR:=by simp
 have hne2:lvR≠emptyR:=by simp
 have hne3:nothR≠emptyR:=by simp
 have a1:addT [lvR] nothR=[lvR,nothR]:=C9 (by simp);have a2:addT [lvR,nothR] lvR=[lvR,nothR]:=Dl (by simp);have a3:addT [lvR,nothR] emptyR=[lvR,nothR,emptyR]:=C9 (by simp);have a4:addT [lvR,nothR,emptyR] nothR=[lvR,nothR,emptyR]:=Dl (by simp);have i1:ixT nothR [lvR,nothR]=1:=by simp[ixT]
 have i2:ixT lvR [lvR,nothR]=0:=by simp[ixT]
 have i3:ixT emptyR [lvR,nothR,emptyR]=2:=by simp[ixT]
 have i4:ixT nothR [lvR,nothR,emptyR]=1:=by simp[ixT]
 have r1:rowD 1024 lvR [0,97,98] [lvR]=some ([lvR,nothR,emptyR],[1,0,2]):=by
  simp[rowD,stepD,st_0,st_a,st_b,a1,a2,a3,i1,i2,i3]
 have r2:rowD 1024 nothR [0,97,98] [lvR,nothR,emptyR]=some ([lvR,nothR,emptyR],[1,1,1]):=by
  simp[rowD,stepD,st_n,a4,i4]
 have r3:rowD 1024 emptyR [0,97,98] [lvR,nothR,emptyR]=some ([lvR,nothR,emptyR],[1,1,1]):=by
  simp[rowD,stepD,st_e,a4,i4]
 rw[show (2000:Nat)=1999+1 from rfl,EL rfl r1 (by simp),show (1999:Nat)=1998+1 from rfl,EL rfl r2 (by simp),show (1998:Nat)=1997+1 from rfl,EL rfl r3 (by simp),show (1997:Nat)=1996+1 from rfl,Nv rfl];simp[nullG,nullAll,nullAny,nullHd]
end Go.Ev
namespace Go.Ev
attribute [local go_sem] AV.cells A8 BI bndO bnd evEq eqCells not_false_eq_true not_true_eq_false toList_some Array.size_empty length_append map_append tySzE List.head?_drop Nat.mul_one As A1 Am At Au Ag
section
attribute [local go_sem] evAppend evBin
def simA (r:Re):AV:=if chkP ⟨r,9,true⟩≠0 then .tup [reAV emptyR,I (chkP ⟨r,9,true⟩)] else if badR r=true then .tup [reAV emptyR,I 4] else .tup [reAV (nf r),I 0]
theorem LT (r:Re):AV.plain (simA r)=true:=by
 unfold simA;split
 ·rfl
 ·split
  ·rfl
  ·simp[AV.plain,AV.plainL,AM]
theorem d19 (r:Re) (hw:r.wt<=1000000) (H:List MB):call Pg pol1 19 [reAV r] H=some (simA r,H):=by
 have h23:=d23 ⟨r,9,true⟩ hw;have hck:=HH (p:=⟨r,9,true⟩);refine AS Tryz.func19 rfl rfl rfl rfl rfl rfl (fun _=>rfl) (by simp[AV.plain,AV.plainL,AM]) (LT r) ?_ H;unfold simA;by_cases hc:chkP ⟨r,9,true⟩=0
 ·rw[if_neg (by simpa using hc)];obtain⟨hok,hsz,hwh⟩:=hck hc;have h27:=d27 r (by omega) hok;rw[hc]at h23;cases hb:badR r with
  | true=>
    rw[hb,if_pos rfl]at h27;rw[if_pos rfl];simp +contextual -implicitDefEqProofs (disch:=omega) only[Tryz.f19,dd19,go_sem,simprocAttr,mu19,↓AD,↓AC,↓AB,↓AA,h23,h27,AH,AI,AL,t8R,d9R,t9R,d10R,length_append,append_assoc,cons_append,nil_append]
    first|exact fzEq (by simp[AV.plain,AV.plainL,AM]) rfl|exact fzZe _
  | false=>
    rw[hb,if_neg (by simp)]at h27;rw[if_neg (by simp)];simp +contextual -implicitDefEqProofs (disch:=omega) only[Tryz.f19,dd19,go_sem,simprocAttr,mu19,↓AD,↓AC,↓AB,↓AA,h23,h27,AH,AI,AL,t8R,d9R,t9R,d10R,length_append,append_assoc,cons_append,nil_append]
    first|exact fzEq (by simp[AV.plain,AV.plainL,AM]) rfl|exact fzZe _
 ·rw[if_pos hc];simp +contextual -implicitDefEqProofs (disch:=omega) only[Tryz.f19,dd19,go_sem,simprocAttr,mu19,↓AD,↓AC,↓AB,↓AA,h23,hc,AH,AI,AL,t8R,d9R,t9R,d10R,length_append,append_assoc,cons_append,nil_append]
  first|exact fzEq (by simp[AV.plain,AV.plainL,AM]) rfl|exact fzZe _
theorem Oj:autoA ⟨lvR,0,false⟩=.tup [autD [[(0,96),(99,255)],[(97,97)],[(98,98)]] [[1,0,2],[1,1,1],[1,1,1]] [false,false,true],I 0]:=by
 unfold autoA;rw[if_neg (by rw[P3];simp)];simp only[Pz,show topI false=255 from rfl,P1,Oi];rw[if_neg (by rw[RU];simp),SK];show outD _ (autoF 1024 1024 [0,97,98] 2000 [lvR] [] [])=_;rw[P4];rfl
abbrev z14:List AV:=[I 2,.sl true [],.sl true [.agg [I 4,.sl true [],.sl true [reAV (setR [(97,97)])],I 0,I (-1),I 0,I 0,.bool false],reAV (setR [(98,98)])],I 0,I 0,I 0,I 0,.bool false]
theorem fz14 (H:List MB):fz (.agg z14) H=some (reAV lvR,H):=rfl
theorem SP (H:List MB):fz (.agg (z14++[I 0,.bool false])) H=some (patAV ⟨lvR,0,false⟩,H):=rfl
theorem c14a {f:Nat}{x v:AV} (hp:pol1.pure f=true) (hx:AV.plain x=true) (hb:pol1.byref f 0=false) (hb1:pol1.byref f 1=false) (h:∀ H,call Pg pol1 f [reAV lvR,x] H=some (v,H)) (H:List MB):call Pg pol1 f [.agg z14,x] H=some (v,H):=by
 rw[C8 (l:=[reAV lvR,x]) (H1:=H) hp ?_ (by simp[AV.plainL,AV.plain,AM,hx])]
 ·exact h H
 ·have h2:pol1.byref f (0+1)=false:=hb1;simp only[frzArgs,hb,h2,Bool.false_eq_true,if_false,fz14,Ad _ hx]
theorem c14b {f:Nat}{x v:AV} (hp:pol1.pure f=true) (hx:AV.plain x=true) (hb:pol1.byref f 0=false) (hb1:pol1.byref f 1=false) (h:∀ H,call Pg pol1 f [x,reAV lvR] H=some (v,H)) (H:List MB):call Pg pol1 f [x,.agg z14] H=some (v,H):=by
 rw[C8 (l:=[x,reAV lvR]) (H1:=H) hp ?_ (by simp[AV.plainL,AV.plain,AM,hx])]
 ·exact h H
 ·have h2:pol1.byref f (0+1)=false:=hb1;simp only[frzArgs,hb,h2,Bool.false_eq_true,if_false,fz14,Ad _ hx]
theorem c14p {v:AV} (h:∀ H,call Pg pol1 9 [patAV ⟨lvR,0,false⟩] H=some (v,H)) (H:List MB):call Pg pol1 9 [.agg (z14++[I 0,.bool false])] H=some (v,H):=by
 rw[C8 (l:=[patAV ⟨lvR,0,false⟩]) (H1:=H) rfl ?_ (by simp only[AV.plainL,Bool.and_true];exact A9 _)]
 ·exact h H
 ·have hb:pol1.byref 9 0=false:=rfl;simp only[frzArgs,hb,Bool.false_eq_true,if_false,SP]
theorem d14 (H:List MB):call Pg pol1 14 [] H=some (.bool true,H):=by
 have h38a:=d38 97;have h38b:=d38 98;have h20a:=d20 lvR 97 (by decide);have h20b:=d20 lvR 98 (by decide);have h20c:=d20 lvR 99 (by decide);simp only[P2,ne_eq,not_true_eq_false,if_false,st_a,st_b,st_c,resA]at h20a h20b h20c;rw[if_neg (by decide)]at h20a h20b h20c;have h9:=d9 ⟨lvR,0,false⟩ (by decide);rw[Oj]at h9;have h36:=d36 _ lvR lvR (Nat.le_refl _) (by decide) (by decide);have h13:=d13 [1,0,2] [1,0,2] (by decide) (by decide);have k1:=c14a rfl rfl rfl rfl h20a;have k2:=c14a rfl rfl rfl rfl h20b;have k3:=c14a rfl rfl rfl rfl h20c;have k4:=c14p h9;have k5:=c14b rfl (AU lvR) rfl rfl h36;simp only[z14,cons_append,nil_append]at k1 k2 k3 k4 k5;simp only[autD,List.map_cons,List.map_nil]at k4;rw[C7]at k5;have e0:(reC emptyR).head?=some (I 0):=rfl;have n0:(reC nothR).head?=some (I 1):=rfl;have n1:(reC nothR)[1]?=some (.sl false []):=rfl;have k6:∀ H,call Pg pol1 13 [nsAV [1,0,2],.sl true [I 1,I 0,I 2]] H=some (.bool true,H):=fun H=>by
  rw[C8 (l:=[.sl false [I 1,I 0,I 2],.sl false [I 1,I 0,I 2]]) (H1:=H) rfl ?_ rfl]
  ·exact(h13 H).trans (by simp)
  ·rfl
 refine AS Tryz.func14 rfl rfl rfl rfl rfl rfl (fun _=>rfl) rfl rfl ?_ H;simp +contextual -implicitDefEqProofs (disch:=omega) only[Tryz.f14,dd14,go_sem,simprocAttr,mu14,↓AD,↓AC,↓AB,↓AA,h38a,h38b,k1,k2,k3,k4,k5,k6,e0,n0,n1,AH,AI,AL,t8R,d9R,t9R,d10R,length_append,append_assoc,cons_append,nil_append];exact⟨_,rfl⟩
end
end Go.Ev
namespace Go.Ev
structure Tame9 (r:Re):Prop where
 whole:wholeG 9 255 r=true
 reg:regG r=true
def T9 (p:Re×MS):Prop:=Tame9 p.1/\0<=p.2.caps/\p.2.caps<=4
theorem Jx (j:Nat):spansG (smallS.getD j []) 255=true:=by
 by_cases h:j<8
 ·rcases j with _|_|_|_|_|_|_|_|j
  all_goals first|decide|omega
 ·have:smallS.getD j []=[]:=by
   rw[List.getD_eq_getElem?_getD,List.getElem?_eq_none (by simp[smallS];omega)];rfl
  rw[this];decide
theorem Jv (l:List Int) (s:MS):Tame9 (setM l s).1:=by
 refine⟨?_,?_⟩
 ·have h1:=Jx ((pickI l s.at_ 15).tdiv 2).toNat;simp only[List.getD_eq_getElem?_getD]at h1;simp[setM,wholeG,wholeL,formedG,kidsG,h1]
 ·simp[setM,regG,regL]
theorem LB:Tame9 (.mk 0 [] [] 0 0 0 0 false):=⟨by simp[wholeG,wholeL,formedG,kidsG],by simp[regG,regL]⟩
theorem OS {l:List Re} (h:∀ k∈l,regG k=true):regL l=true:=by
 rw[DV];simp only[Bool.not_eq_true',List.any_eq_false,Bool.not_eq_true,Bool.not_eq_false'];exact fun k hk=>by simp[h k hk]
theorem Tame9.kids {op:Int}{ks:List Re} (hop:op=2∨op=3) (h:∀ k∈ks,Tame9 k) (h2:2<=ks.length):Tame9 (.mk op [] ks 0 0 0 0 false):=by
 have h1:=(Af 9 255 ks).2 (fun k hk=>(h k hk).whole);have h3:=OS fun k hk=>(h k hk).reg;rcases hop with rfl|rfl<;>exact⟨by simp[wholeG,formedG,kidsG,h1,h2],by simp[regG,h3]⟩
theorem MJ (l:List Int) (k:Int) (s:MS) (hc:0<=s.caps/\s.caps<=4):T9 (leafF l k s):=by
 unfold leafF;split
 ·exact⟨LB,hc⟩
 ·exact⟨Jv l s,hc⟩
theorem LC (l:List Int) {tr:MS->Re×MS} (h:∀ s,0<=s.caps/\s.caps<=4->T9 (tr s)) (s:MS) (hc:0<=s.caps/\s.caps<=4):∀ i,(∀ k∈(stK l tr s i).1,Tame9 k)/\(stK l tr s i).1.length=i/\0<=(stK l tr s i).2.caps/\(stK l tr s i).2.caps<=4
 | 0=>⟨fun k hk=>by simp[stK]at hk,rfl,hc⟩
 | i+1=>by
   obtain⟨h1,h2,h3⟩:=LC l h s hc i;obtain⟨h4,h5⟩:=h (nx l 2 (stK l tr s i).2).2 h3;refine⟨fun k hk=>?_,by simp[stK,h2],h5⟩;simp only[stK,List.mem_append,List.mem_singleton]at hk;rcases hk with hk|rfl
   ·exact h1 k hk
   ·exact h4
theorem PU (l:List Int) {tr:MS->Re×MS} (h:∀ s,0<=s.caps/\s.caps<=4->T9 (tr s)) (s:MS) (hc:0<=s.caps/\s.caps<=4):(∀ k∈(kidsF l tr s).1,Tame9 k)/\2<=(kidsF l tr s).1.length/\0<=(kidsF l tr s).2.caps/\(kidsF l tr s).2.caps<=4:=by
 obtain⟨a1,a2,a3⟩:=LC l h s hc 3;obtain⟨b1,b2,b3⟩:=LC l h s hc 2;unfold kidsF;split
 ·exact⟨a1,by simp only;omega,a3⟩
 ·exact⟨b1,by simp only;omega,b3⟩
theorem MG (l:List Int):∀ d s,0<=s.caps/\s.caps<=4->T9 (treeF l 96 d s)
 | 0,s,hc=>by
   rw[treeF];exact MJ l _ _ hc
 | d+1,s,hc=>by
   have ih:=MG l d;have hk:=PU l ih;have hY:(nx l 20 ⟨s.at_,s.left-1,s.caps⟩).2.caps=s.caps:=rfl;rw[treeF];generalize nx l 20 ⟨s.at_,s.left-1,s.caps⟩=Y at *;obtain⟨k,s1⟩:=Y;simp only at hY;rw[<- hY]at hc;unfold treeStep;simp only;split
   ·exact MJ l _ _ hc
   split
   ·exact⟨Tame9.kids (.inl rfl) (hk s1 hc).1 (hk s1 hc).2.1,(hk s1 hc).2.2⟩
   split
   ·exact⟨Tame9.kids (.inr rfl) (hk s1 hc).1 (hk s1 hc).2.1,(hk s1 hc).2.2⟩
   split
   ·have e8:¬ 0<andI 96 8:=by decide
    have e32:¬ (andI 96 32=0):=by decide
    unfold repF;simp only[if_neg e8,e32,false_and,if_false];have hkk:=BE l (n:=12) (by omega) s1;have hkc:(nx l 12 s1).2.caps=s1.caps:=rfl;have hm:=BE l (n:=2) (by omega) (nx l 12 s1).2;have hmc:(nx l 2 (nx l 12 s1).2).2.caps=s1.caps:=rfl;generalize nx l 12 s1=kk at *;generalize nx l 2 kk.2=m at *;have hm2:m.1=0∨m.1=1:=by omega
    have hrep:repG (([0,0,0,0,1,1,1,0,2,0,1,2]:List Int).getD kk.1.toNat 0) (([-1,-1,-1,1,-1,-1,2,2,2,3,1,-1]:List Int).getD kk.1.toNat 0) m.1=true:=by
     obtain⟨q,hq⟩:∃ q:Nat,kk.1=q:=⟨kk.1.toNat,by omega⟩;rw[hq,Int.toNat_natCast];have hq2:q<12:=by omega
     rcases hm2 with e|e<;>rw[e]<;>(rcases q with _|_|_|_|_|_|_|_|_|_|_|_|q)<;>first|decide|omega
    obtain⟨h1,h2⟩:=ih m.2 (by rw[hmc];exact hc);refine⟨⟨?_,?_⟩,h2⟩
    ·simp only[List.getD_eq_getElem?_getD]at hrep;simp[wholeG,wholeL,formedG,kidsG,h1.whole,hrep]
    ·have:¬ m.1=2:=by omega
     simp[regG,regL,h1.reg,this]
   split
   ·unfold capF;simp only;obtain⟨p,hp⟩:∃ p:Bool×MS,(if 4<s1.caps+1 then(true,s1) else if 0<s1.caps then(decide ((nx l 9 s1).1=0),(nx l 9 s1).2) else(false,s1))=p:=⟨_,rfl⟩;rw[hp];have hpc:p.2.caps=s1.caps:=by
     rw[<- hp];split
     ·rfl
     ·split<;>rfl
    have hp1:p.1=false->s1.caps+1<=4:=fun h=>by
     rw[<- hp]at h;split at h
     ·cases h
     ·omega
    have hnv:=BE l (n:=max 1 p.2.caps) (by omega) p.2;have hq:∀ q:Int×MS,q=(if p.1=true then(1+(nx l (max 1 p.2.caps) p.2).1,(nx l (max 1 p.2.caps) p.2).2) else(s1.caps+1,p.2))->1<=q.1/\q.1<=4/\q.2.caps=s1.caps:=fun q e=>by
     subst e;cases h:p.1 with
     | true=>exact⟨by simp only[if_true];omega,by simp only[if_true];omega,hpc⟩
     | false=>
       have:=hp1 h;exact⟨by simp;omega,by simpa using this,by simpa using hpc⟩
    generalize (if p.1=true then(1+(nx l (max 1 p.2.caps) p.2).1,(nx l (max 1 p.2.caps) p.2).2) else(s1.caps+1,p.2))=q at *;obtain⟨q1,q2,q3⟩:=hq q rfl;obtain⟨h1,h2⟩:=ih ⟨q.2.at_,q.2.left,max q.2.caps q.1⟩ (by simp only;omega);refine⟨⟨?_,?_⟩,h2⟩
    ·have e1:q.1<=9:=by omega
     simp[wholeG,wholeL,formedG,kidsG,h1.whole,q1,e1]
    ·simp[regG,regL,h1.reg]
   split
   ·rename_i h;exact absurd h.2 (by decide)
   split
   ·rename_i h;exact absurd h.2 (by decide)
   split
   ·rename_i h;exact absurd h.2 (by decide)
   split
   ·rename_i h;exact absurd h.2.1 (by decide)
   split
   ·rename_i h;exact absurd h.2.1 (by decide)
   ·exact⟨Jv l s1,hc⟩
theorem Mu (l:List Int) (most:Int):chkP ⟨treeI l most,9,false⟩=0∨chkP ⟨treeI l most,9,false⟩=4:=by
 obtain⟨⟨h1,h2⟩,_⟩:=MG l 5 ⟨0,most,0⟩ ⟨by simp,by simp⟩;have e1:wholeG 9 (topI false) (treeI l most)=true:=h1;have e2:regG (treeI l most)=true:=h2;have h9:¬ ((9:Int)<0∨(9:Int)<9∨wholeG 9 (topI false) (treeI l most)=false):=by rw[e1];simp
 unfold chkP validP;by_cases h:256<(treeI l most).size∨24<(treeI l most).depth
 ·right;simp only[if_pos h];rfl
 ·left;simp only[if_neg h,if_neg h9,e2];rfl
end Go.Ev
