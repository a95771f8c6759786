/- What functions of the program compute; no further conditions. -/
import Derived.Test.YtkolcijbdendhaaGreatF26
set_option linter.unusedVariables false
set_option linter.unusedSimpArgs false
open List (append_assoc append_nil cons_append getElem?_eq_getElem length_append map_append map_take mem_map nil_append take_length take_of_length_le)
open Go.Proofs Go.RowKit Go.IntWalk
set_option maxHeartbeats 8000000
set_option maxRecDepth 100000
namespace Go.Ev
attribute [local go_sem] AV.cells Ax A8 bndO bnd evEq eqCells not_false_eq_true not_true_eq_false toList_some Array.size_empty length_append tySzE List.head?_drop Nat.mul_one Aj Aq Ag Ak Al Ae
section
attribute [local go_sem] evAppend map_append
theorem BE (b0 x x' a a' b:MB) (K:List MB):sameAt (K.length+1+1+1) (b0::x::(K++[a]++[b])) (b0::x'::(K++[a']++[b]))=true:=by
 have h:∀ x a,(b0::x::(K++[a]++[b]))[K.length+1+1+1]?=some b:=fun x a=>by
  rw[List.getElem?_cons_succ,List.getElem?_cons_succ];exact BP K a b
 unfold sameAt;rw[h,h];exact MB.beq_refl b
section
variable {l:List Int} (hl:∀ x∈l,In64 x) {uses:Int}{d:Nat} (hd:d<=5) (ht:TreeLaw l uses d) (hb:TreeB l uses d)
include hb
theorem NG {s:MS} (hp:Pre (5+3*mA1 d) (3*mS1 d) s):Post (5+3*mA1 d) (3*mS1 d) s (repF l uses (treeF l uses d) s).2:=by
 have hA:=BD d;have hS:=BC d;unfold repF;simp only;have p1:=Ah l 12 s hp.c;have p2:=p1.trans (Ah l 2 _ p1.c);obtain⟨s3,e3,p3⟩:∃ s3,(if 0<andI uses 8 then(if(nx l 4 (nx l 2 (nx l 12 s).2).2).1=0 then 2 else(nx l 2 (nx l 12 s).2).1,(nx l 4 (nx l 2 (nx l 12 s).2).2).2) else nx l 2 (nx l 12 s).2).2=s3/\Post (1+1+1) (0+0+0) s s3:=by
  split
  ·exact⟨_,rfl,p2.trans (Ah l 4 _ p2.c)⟩
  ·exact⟨_,rfl,p2.up (by omega) (by omega)⟩
 rw[e3];have q:=hb s3 (hp.step p3 (by omega) (by omega));have r:=p3.trans q;split
 ·exact(r.trans (Dt l _ r.c)).up (by omega) (by omega)
 ·exact r.up (by omega) (by omega)
theorem N5 {s:MS} (hp:Pre (5+3*mA1 d) (3*mS1 d) s):Post (5+3*mA1 d) (3*mS1 d) s (capF l (treeF l uses d) s).2:=by
 have hA:=BD d;have hS:=BC d;have hc:=hp.c;unfold capF;simp only;obtain⟨b,s2,e2,p2,c2,hbb⟩:∃(b:Bool) (s2:MS),(if 4<s.caps+1 then(true,s) else if 0<s.caps then(decide ((nx l 9 s).1=0),(nx l 9 s).2) else(false,s))=(b,s2)/\Post 1 0 s s2/\s2.caps=s.caps/\(b=false->¬ 4<s.caps+1):=by
  have p0:Post 1 0 s s:=⟨by omega,by omega,hc⟩;split
  ·exact⟨_,_,rfl,p0,rfl,fun h=>by cases h⟩
  ·rename_i h4;split
   ·exact⟨_,_,rfl,Ah l 9 s hc,rfl,fun _=>h4⟩
   ·exact⟨_,_,rfl,p0,rfl,fun _=>h4⟩
 rw[e2];simp only;have hm1:0<max 1 s2.caps:=by omega
 have hv:=BM l hm1 s2;have p3:=p2.trans (Ah l (max 1 s2.caps) s2 p2.c);have c3:(nx l (max 1 s2.caps) s2).2.caps=s2.caps:=rfl;obtain⟨m,s4,e4,p4,c4,hm⟩:∃(m:Int) (s4:MS),(if b=true then(1+(nx l (max 1 s2.caps) s2).1,(nx l (max 1 s2.caps) s2).2) else(s.caps+1,s2))=(m,s4)/\Post (1+1) (0+0) s s4/\s4.caps=s.caps/\(0<=m/\m<=4):=by
  cases b with
  | true=>exact⟨_,_,if_pos rfl,p3,by rw[c3,c2],by omega⟩
  | false=>
    have:=hbb rfl;exact⟨_,_,if_neg Bool.false_ne_true,p2.up (by omega) (by omega),c2,by omega⟩
 rw[e4];simp only;have p5:Post 2 0 s ⟨s4.at_,s4.left,max s4.caps m⟩:=⟨by have:=p4.a;simp only;omega,by have:=p4.l;simp only;omega,by simp only;omega⟩;have q:=hb _ (hp.step p5 (by omega) (by omega));exact(p5.trans q).up (by omega) (by omega)
theorem M5 {s:MS} (k:Int) (hp:Pre (8+3*mA1 d) (3*mS1 d) s):Post (8+3*mA1 d) (3*mS1 d) s (treeStep l uses (treeF l uses d) k s).2:=by
 have hA:=BD d;have hS:=BC d;have hp5:Pre (5+3*mA1 d) (3*mS1 d) s:=⟨⟨hp.a.1,by have:=hp.a;omega⟩,hp.l,hp.c⟩;have hlf:Post 1 0 s (leafF l k s).2:=by
  unfold leafF;split
  ·exact⟨by simp only;omega,by simp only;omega,hp.c⟩
  ·exact Dt l s hp.c
 have n6:=Ah l 6 s hp.c;have n3:=Ah l 3 s hp.c;have n32:=n3.trans (Ah l 2 _ n3.c);have nc:=Ah l s.caps s hp.c;have hA2:Pre (mA1 d) (mS1 d) s:=hp.step (x:=0) (y:=0) ⟨by omega,by omega,hp.c⟩ (by omega) (by omega);unfold treeStep;split
 ·exact hlf.up (by omega) (by omega)
 split
 ·exact(G0 hb hp5).up (by omega) (by omega)
 split
 ·exact(G0 hb hp5).up (by omega) (by omega)
 split
 ·exact(NG hb hp5).up (by omega) (by omega)
 split
 ·exact(N5 hb hp5).up (by omega) (by omega)
 split
 ·exact n6.up (by omega) (by omega)
 split
 ·exact(n32.trans (hb _ (hp.step n32 (by omega) (by omega)))).up (by omega) (by omega)
 split
 ·exact(hb _ hA2).up (by omega) (by omega)
 split
 ·exact nc.up (by omega) (by omega)
 split
 ·have y:=nc.trans (hb _ (hp.step nc (by omega) (by omega)));exact(y.trans (hb _ (hp.step y (by omega) (by omega)))).up (by omega) (by omega)
 ·exact(Dt l s hp.c).up (by omega) (by omega)
theorem LP:TreeB l uses (d+1):=by
 intro s hp;have hA:=BD d;have hS:=BC d;simp only[mA1,mS1]at hp |-;have hc:=hp.c;have p0:Post 0 1 s ⟨s.at_,s.left-1,s.caps⟩:=⟨by simp only;omega,by simp only;omega,hc⟩;have p1:=p0.trans (Ah l 20 _ p0.c);exact(p1.trans (M5 hb _ (hp.step p1 (by omega) (by omega)))).up (by omega) (by omega)
end
theorem LO {l:List Int}{uses:Int}:TreeB l uses 0:=by
 intro s hp;have hc:=hp.c;have p0:Post 0 1 s ⟨s.at_,s.left-1,s.caps⟩:=⟨by simp only;omega,by simp only;omega,hc⟩;have p1:=p0.trans (Ah l 20 _ p0.c);simp only[treeF,mA1,mS1];unfold leafF;split
 ·exact p1.up (by omega) (by omega)
 ·exact(p1.trans (Dt l _ p1.c)).up (by omega) (by omega)
theorem SX {l:List Int} (hl:∀ x∈l,In64 x) {uses:Int} (s:MS) (b0:MB) (K:List MB) (hp:Pre (mA1 0) (mS1 0) s) (k:Int) (s1:MS) (hk:nx l 20 ⟨s.at_,s.left-1,s.caps⟩=(k,s1)) :
  call Pg pol1 22 [.rf 1 1 0 0,I ((0:Nat):Int)] (mH b0 l uses s K)=some (reAV (leafF l k s1).1,mH b0 l uses (leafF l k s1).2 K):=by
 simp only[mA1,mS1]at hp;have hq:=BM l (n:=20) (by omega) ⟨s.at_,s.left-1,s.caps⟩;have p1:=Ah l 20 ⟨s.at_,s.left-1,s.caps⟩ hp.c;obtain⟨pa,pl,pc⟩:=hp;have h97:=fun K=>f97 l hl uses 20 (by omega) ⟨s.at_,s.left-1,s.caps⟩ ⟨pa.1,by simp only;omega⟩ b0 K;rw[hk]at hq p1 h97;clear hk;simp only at hq p1 h97;obtain⟨qa,ql,qc⟩:=p1;simp only at qa ql;have hw:IntKind.i64.wrap (s.left-1)=s.left-1:=i64_in _ ⟨by omega,by omega⟩;have h98:=fun K=>f98 l hl uses s1 ⟨by omega,by omega⟩ b0 K;generalize hY:setM l s1=Y at *;have fr:frzArgs pol1 22 0 [.rf 1 1 0 0,I ((0:Nat):Int)] (mH b0 l uses s K)=some ([.rf 1 1 0 0,I ((0:Nat):Int)],mH b0 l uses s K):=AT _ _ _ rfl;by_cases hk0:k=0
 ·subst hk0;rw[show leafF l 0 s1=(.mk 0 [] [] 0 0 0 0 false,s1) from if_pos rfl];refine AX (pol:=pol1) Tryz.func22 rfl rfl rfl rfl fr ?_
  all_goals simp +contextual (disch:=omega) only[Tryz.f22,dd22,go_sem,simprocAttr,mu22,↓AE,↓AC,↓AB,↓AA,h97,hw,Aw,Ar,BW,BP,BU,BT,BE,BA,A7,A1,A6,A3,A4,A5,AK,AP,AJ,As,append_nil]
  all_goals repeat' (first|intro _|apply And.intro|(unfold dOk;kernel_rfl)|exact St.beq_refl _|exact AQ|(show altO _ _ _ _=true;kernel_rfl)|(show (_||_)=true;kernel_rfl)|(show (_&&_)=true;kernel_rfl))
  all_goals exact Bj (by rfl) (by rfl) s s1 (ex1 ..) true true 0 [] [] 0 0 0 0 false
 ·rw[show leafF l k s1=Y from(if_neg hk0).trans hY];obtain⟨Y1,Y2⟩:=Y;refine AX (pol:=pol1) Tryz.func22 rfl rfl rfl rfl fr ?_
  all_goals simp +contextual (disch:=omega) only[Tryz.f22,dd22,go_sem,simprocAttr,mu22,↓AE,↓AC,↓AB,↓AA,h97,hw,Aw,Ar,BW,BP,BU,BT,BE,BA,A7,A1,A6,A3,A4,A5,AK,AP,AJ,As,append_nil,h98]
  all_goals repeat' (first|intro _|apply And.intro|(unfold dOk;kernel_rfl)|exact St.beq_refl _|exact AQ|(show altO _ _ _ _=true;kernel_rfl)|(show (_||_)=true;kernel_rfl)|(show (_&&_)=true;kernel_rfl))
  all_goals exact DP rfl rfl s _ (ex1 ..) (fun H=>Ac H (BK _)) (BK _)
theorem SW {l:List Int} (hl:∀ x∈l,In64 x) {uses:Int}{d:Nat} (hd:d<=5) (s:MS) (b0:MB) (K:List MB) (hp:Pre (mA1 (d+1)) (mS1 (d+1)) s) (k:Int) (s1:MS) (hk:nx l 20 ⟨s.at_,s.left-1,s.caps⟩=(k,s1)) (hc:s1.left<3∨(l.length:Int)<s1.at_) :
  call Pg pol1 22 [.rf 1 1 0 0,I (((d+1):Nat):Int)] (mH b0 l uses s K)=some (reAV (leafF l k s1).1,mH b0 l uses (leafF l k s1).2 K):=by
 simp only[mA1,mS1]at hp;have hA:=BD d;have hS:=BC d;have hq:=BM l (n:=20) (by omega) ⟨s.at_,s.left-1,s.caps⟩;have p1:=Ah l 20 ⟨s.at_,s.left-1,s.caps⟩ hp.c;obtain⟨pa,pl,pc⟩:=hp;have h97:=fun K=>f97 l hl uses 20 (by omega) ⟨s.at_,s.left-1,s.caps⟩ ⟨pa.1,by simp only;omega⟩ b0 K;rw[hk]at hq p1 h97;clear hk;simp only at hq p1 h97;obtain⟨qa,ql,qc⟩:=p1;simp only at qa ql;have hw:IntKind.i64.wrap (s.left-1)=s.left-1:=i64_in _ ⟨by omega,by omega⟩;have hc':s1.left<3∨(¬ s1.left<3/\(l.length:Int)<s1.at_):=by omega
 have h98:=fun K=>f98 l hl uses s1 ⟨by omega,by omega⟩ b0 K;generalize hY:setM l s1=Y at *;have fr:frzArgs pol1 22 0 [.rf 1 1 0 0,I (((d+1):Nat):Int)] (mH b0 l uses s K)=some ([.rf 1 1 0 0,I (((d+1):Nat):Int)],mH b0 l uses s K):=AT _ _ _ rfl;by_cases hk0:k=0
 ·subst hk0;rw[show leafF l 0 s1=(.mk 0 [] [] 0 0 0 0 false,s1) from if_pos rfl];refine AX (pol:=pol1) Tryz.func22 rfl rfl rfl rfl fr ?_;rcases hc' with hc1|⟨hc1,hc2⟩
  all_goals simp +contextual (disch:=omega) only[Tryz.f22,dd22,go_sem,simprocAttr,mu22,↓AE,↓AC,↓AB,↓AA,h97,hw,Aw,Ar,BW,BP,BU,BT,BE,BA,A7,A1,A6,A3,A4,A5,AK,AP,AJ,As,append_nil]
  all_goals repeat' (first|intro _|apply And.intro|(unfold dOk;kernel_rfl)|exact St.beq_refl _|exact AQ|(show altO _ _ _ _=true;kernel_rfl)|(show (_||_)=true;kernel_rfl)|(show (_&&_)=true;kernel_rfl))
  all_goals exact Bj (by rfl) (by rfl) s s1 (ex1 ..) true true 0 [] [] 0 0 0 0 false
 ·rw[show leafF l k s1=Y from(if_neg hk0).trans hY];obtain⟨Y1,Y2⟩:=Y;refine AX (pol:=pol1) Tryz.func22 rfl rfl rfl rfl fr ?_;rcases hc' with hc1|⟨hc1,hc2⟩
  all_goals simp +contextual (disch:=omega) only[Tryz.f22,dd22,go_sem,simprocAttr,mu22,↓AE,↓AC,↓AB,↓AA,h97,hw,Aw,Ar,BW,BP,BU,BT,BE,BA,A7,A1,A6,A3,A4,A5,AK,AP,AJ,As,append_nil,h98]
  all_goals repeat' (first|intro _|apply And.intro|(unfold dOk;kernel_rfl)|exact St.beq_refl _|exact AQ|(show altO _ _ _ _=true;kernel_rfl)|(show (_||_)=true;kernel_rfl)|(show (_&&_)=true;kernel_rfl))
  all_goals exact DP rfl rfl s _ (ex1 ..) (fun H=>Ac H (BK _)) (BK _)
theorem Rg {l:List Int} (hl:∀ x∈l,In64 x) {uses:Int}{d:Nat} (hd:d<=5) (ht:TreeLaw l uses d) (hb:TreeB l uses d) (s:MS) (b0:MB) (K:List MB) (hp:Pre (mA1 (d+1)) (mS1 (d+1)) s) (k:Int) (s1:MS) (hk:nx l 20 ⟨s.at_,s.left-1,s.caps⟩=(k,s1)) (hn1:¬ s1.left<3) (hn2:¬ (l.length:Int)<s1.at_) (h:k<5) :
  call Pg pol1 22 [.rf 1 1 0 0,I ((d+1:Nat):Int)] (mH b0 l uses s K)=some (reAV ((.mk 2 [] (kidsF l (treeF l uses d) s1).1 0 0 0 0 false,(kidsF l (treeF l uses d) s1).2):Re×MS).1,mH b0 l uses ((.mk 2 [] (kidsF l (treeF l uses d) s1).1 0 0 0 0 false,(kidsF l (treeF l uses d) s1).2):Re×MS).2 K):=by
 simp only[mA1,mS1]at hp;have hA:=BD d;have hS:=BC d;have hq:=BM l (n:=20) (by omega) ⟨s.at_,s.left-1,s.caps⟩;have p1:=Ah l 20 ⟨s.at_,s.left-1,s.caps⟩ hp.c;obtain⟨pa,pl,pc⟩:=hp;have h97:=fun K=>f97 l hl uses 20 (by omega) ⟨s.at_,s.left-1,s.caps⟩ ⟨pa.1,by simp only;omega⟩ b0 K;rw[hk]at hq p1 h97;clear hk;simp only at hq p1 h97;obtain⟨qa,ql,qc⟩:=p1;simp only at qa ql;have hw:IntKind.i64.wrap (s.left-1)=s.left-1:=i64_in _ ⟨by omega,by omega⟩;have hp5:Pre (5+3*mA1 d) (3*mS1 d) s1:=⟨⟨by omega,by omega⟩,⟨by omega,by omega⟩,qc⟩;have h99:=fun K=>f99 hl hd ht hb s1 hp5 b0 K;generalize kidsF l (treeF l uses d) s1=Y at *;obtain⟨Y1,Y2⟩:=Y;simp only at h99 |-;have fr:frzArgs pol1 22 0 [.rf 1 1 0 0,I ((d+1:Nat):Int)] (mH b0 l uses s K)=some ([.rf 1 1 0 0,I ((d+1:Nat):Int)],mH b0 l uses s K):=AT _ _ _ rfl;refine AX (pol:=pol1) Tryz.func22 rfl rfl rfl rfl fr ?_;simp +contextual (disch:=omega) only[Tryz.f22,dd22,go_sem,simprocAttr,mu22,↓AE,↓AC,↓AB,↓AA,h97,hw,Aw,Ar,BW,BP,BU,BT,BE,BA,A7,A1,A6,A3,A4,A5,AK,AP,AJ,As,append_nil,h99];repeat' (first|intro _|apply And.intro|(unfold dOk;kernel_rfl)|exact St.beq_refl _|exact AQ|(show altO _ _ _ _=true;kernel_rfl)|(show (_||_)=true;kernel_rfl)|(show (_&&_)=true;kernel_rfl))
 exact Bj (by rfl) (by rfl) s _ (ex1 ..) true false 2 [] Y1 0 0 0 0 false
theorem Rh {l:List Int} (hl:∀ x∈l,In64 x) {uses:Int}{d:Nat} (hd:d<=5) (ht:TreeLaw l uses d) (hb:TreeB l uses d) (s:MS) (b0:MB) (K:List MB) (hp:Pre (mA1 (d+1)) (mS1 (d+1)) s) (k:Int) (s1:MS) (hk:nx l 20 ⟨s.at_,s.left-1,s.caps⟩=(k,s1)) (hn1:¬ s1.left<3) (hn2:¬ (l.length:Int)<s1.at_) (h:5<=k) (h2:k<8) :
  call Pg pol1 22 [.rf 1 1 0 0,I ((d+1:Nat):Int)] (mH b0 l uses s K)=some (reAV ((.mk 3 [] (kidsF l (treeF l uses d) s1).1 0 0 0 0 false,(kidsF l (treeF l uses d) s1).2):Re×MS).1,mH b0 l uses ((.mk 3 [] (kidsF l (treeF l uses d) s1).1 0 0 0 0 false,(kidsF l (treeF l uses d) s1).2):Re×MS).2 K):=by
 simp only[mA1,mS1]at hp;have hA:=BD d;have hS:=BC d;have hq:=BM l (n:=20) (by omega) ⟨s.at_,s.left-1,s.caps⟩;have p1:=Ah l 20 ⟨s.at_,s.left-1,s.caps⟩ hp.c;obtain⟨pa,pl,pc⟩:=hp;have h97:=fun K=>f97 l hl uses 20 (by omega) ⟨s.at_,s.left-1,s.caps⟩ ⟨pa.1,by simp only;omega⟩ b0 K;rw[hk]at hq p1 h97;clear hk;simp only at hq p1 h97;obtain⟨qa,ql,qc⟩:=p1;simp only at qa ql;have hw:IntKind.i64.wrap (s.left-1)=s.left-1:=i64_in _ ⟨by omega,by omega⟩;have hp5:Pre (5+3*mA1 d) (3*mS1 d) s1:=⟨⟨by omega,by omega⟩,⟨by omega,by omega⟩,qc⟩;have h99:=fun K=>f99 hl hd ht hb s1 hp5 b0 K;generalize kidsF l (treeF l uses d) s1=Y at *;obtain⟨Y1,Y2⟩:=Y;simp only at h99 |-;have fr:frzArgs pol1 22 0 [.rf 1 1 0 0,I ((d+1:Nat):Int)] (mH b0 l uses s K)=some ([.rf 1 1 0 0,I ((d+1:Nat):Int)],mH b0 l uses s K):=AT _ _ _ rfl;refine AX (pol:=pol1) Tryz.func22 rfl rfl rfl rfl fr ?_;simp +contextual (disch:=omega) only[Tryz.f22,dd22,go_sem,simprocAttr,mu22,↓AE,↓AC,↓AB,↓AA,h97,hw,Aw,Ar,BW,BP,BU,BT,BE,BA,A7,A1,A6,A3,A4,A5,AK,AP,AJ,As,append_nil,h99];repeat' (first|intro _|apply And.intro|(unfold dOk;kernel_rfl)|exact St.beq_refl _|exact AQ|(show altO _ _ _ _=true;kernel_rfl)|(show (_||_)=true;kernel_rfl)|(show (_&&_)=true;kernel_rfl))
 exact Bj (by rfl) (by rfl) s _ (ex1 ..) true false 3 [] Y1 0 0 0 0 false
theorem Rd {l:List Int} (hl:∀ x∈l,In64 x) {uses:Int}{d:Nat} (hd:d<=5) (ht:TreeLaw l uses d) (hb:TreeB l uses d) (s:MS) (b0:MB) (K:List MB) (hp:Pre (mA1 (d+1)) (mS1 (d+1)) s) (k:Int) (s1:MS) (hk:nx l 20 ⟨s.at_,s.left-1,s.caps⟩=(k,s1)) (hn1:¬ s1.left<3) (hn2:¬ (l.length:Int)<s1.at_) (h:8<=k) (h2:k<12) :
  call Pg pol1 22 [.rf 1 1 0 0,I ((d+1:Nat):Int)] (mH b0 l uses s K)=some (reAV (repF l uses (treeF l uses d) s1).1,mH b0 l uses (repF l uses (treeF l uses d) s1).2 K):=by
 simp only[mA1,mS1]at hp;have hA:=BD d;have hS:=BC d;have hq:=BM l (n:=20) (by omega) ⟨s.at_,s.left-1,s.caps⟩;have p1:=Ah l 20 ⟨s.at_,s.left-1,s.caps⟩ hp.c;obtain⟨pa,pl,pc⟩:=hp;have h97:=fun K=>f97 l hl uses 20 (by omega) ⟨s.at_,s.left-1,s.caps⟩ ⟨pa.1,by simp only;omega⟩ b0 K;rw[hk]at hq p1 h97;clear hk;simp only at hq p1 h97;obtain⟨qa,ql,qc⟩:=p1;simp only at qa ql;have hw:IntKind.i64.wrap (s.left-1)=s.left-1:=i64_in _ ⟨by omega,by omega⟩;have hp5:Pre (5+3*mA1 d) (3*mS1 d) s1:=⟨⟨by omega,by omega⟩,⟨by omega,by omega⟩,qc⟩;have h100:=fun K=>f100 hl hd ht hb s1 hp5 b0 K;generalize repF l uses (treeF l uses d) s1=Y at *;obtain⟨Y1,Y2⟩:=Y;simp only at h100 |-;have fr:frzArgs pol1 22 0 [.rf 1 1 0 0,I ((d+1:Nat):Int)] (mH b0 l uses s K)=some ([.rf 1 1 0 0,I ((d+1:Nat):Int)],mH b0 l uses s K):=AT _ _ _ rfl;refine AX (pol:=pol1) Tryz.func22 rfl rfl rfl rfl fr ?_;simp +contextual (disch:=omega) only[Tryz.f22,dd22,go_sem,simprocAttr,mu22,↓AE,↓AC,↓AB,↓AA,h97,hw,Aw,Ar,BW,BP,BU,BT,BE,BA,A7,A1,A6,A3,A4,A5,AK,AP,AJ,As,append_nil,h100];repeat' (first|intro _|apply And.intro|(unfold dOk;kernel_rfl)|exact St.beq_refl _|exact AQ|(show altO _ _ _ _=true;kernel_rfl)|(show (_||_)=true;kernel_rfl)|(show (_&&_)=true;kernel_rfl))
 exact DP rfl rfl s _ (ex1 ..) (fun H=>Ac H (BK _)) (BK _)
theorem OR {l:List Int} (hl:∀ x∈l,In64 x) {uses:Int}{d:Nat} (hd:d<=5) (ht:TreeLaw l uses d) (hb:TreeB l uses d) (s:MS) (b0:MB) (K:List MB) (hp:Pre (mA1 (d+1)) (mS1 (d+1)) s) (k:Int) (s1:MS) (hk:nx l 20 ⟨s.at_,s.left-1,s.caps⟩=(k,s1)) (hn1:¬ s1.left<3) (hn2:¬ (l.length:Int)<s1.at_) (h:k=12) (u:0<andI uses 64) :
  call Pg pol1 22 [.rf 1 1 0 0,I ((d+1:Nat):Int)] (mH b0 l uses s K)=some (reAV (capF l (treeF l uses d) s1).1,mH b0 l uses (capF l (treeF l uses d) s1).2 K):=by
 simp only[mA1,mS1]at hp;have hA:=BD d;have hS:=BC d;have hq:=BM l (n:=20) (by omega) ⟨s.at_,s.left-1,s.caps⟩;have p1:=Ah l 20 ⟨s.at_,s.left-1,s.caps⟩ hp.c;obtain⟨pa,pl,pc⟩:=hp;have h97:=fun K=>f97 l hl uses 20 (by omega) ⟨s.at_,s.left-1,s.caps⟩ ⟨pa.1,by simp only;omega⟩ b0 K;rw[hk]at hq p1 h97;clear hk;simp only at hq p1 h97;obtain⟨qa,ql,qc⟩:=p1;simp only at qa ql;have hw:IntKind.i64.wrap (s.left-1)=s.left-1:=i64_in _ ⟨by omega,by omega⟩;have hp5:Pre (5+3*mA1 d) (3*mS1 d) s1:=⟨⟨by omega,by omega⟩,⟨by omega,by omega⟩,qc⟩;subst h;have h101:=fun K=>f101 hl hd ht hb s1 hp5 b0 K;generalize capF l (treeF l uses d) s1=Y at *;obtain⟨Y1,Y2⟩:=Y;simp only at h101 |-;have fr:frzArgs pol1 22 0 [.rf 1 1 0 0,I ((d+1:Nat):Int)] (mH b0 l uses s K)=some ([.rf 1 1 0 0,I ((d+1:Nat):Int)],mH b0 l uses s K):=AT _ _ _ rfl;refine AX (pol:=pol1) Tryz.func22 rfl rfl rfl rfl fr ?_;simp +contextual (disch:=omega) only[Tryz.f22,dd22,go_sem,simprocAttr,mu22,↓AE,↓AC,↓AB,↓AA,h97,hw,Aw,Ar,BW,BP,BU,BT,BE,BA,A7,A1,A6,A3,A4,A5,AK,AP,AJ,As,append_nil,h101];repeat' (first|intro _|apply And.intro|(unfold dOk;kernel_rfl)|exact St.beq_refl _|exact AQ|(show altO _ _ _ _=true;kernel_rfl)|(show (_||_)=true;kernel_rfl)|(show (_&&_)=true;kernel_rfl))
 exact DP rfl rfl s _ (ex1 ..) (fun H=>Ac H (BK _)) (BK _)
theorem OQ {l:List Int} (hl:∀ x∈l,In64 x) {uses:Int}{d:Nat} (hd:d<=5) (ht:TreeLaw l uses d) (hb:TreeB l uses d) (s:MS) (b0:MB) (K:List MB) (hp:Pre (mA1 (d+1)) (mS1 (d+1)) s) (k:Int) (s1:MS) (hk:nx l 20 ⟨s.at_,s.left-1,s.caps⟩=(k,s1)) (hn1:¬ s1.left<3) (hn2:¬ (l.length:Int)<s1.at_) (h:k=13) (u:0<andI uses 64) :
  call Pg pol1 22 [.rf 1 1 0 0,I ((d+1:Nat):Int)] (mH b0 l uses s K)=some (reAV (capF l (treeF l uses d) s1).1,mH b0 l uses (capF l (treeF l uses d) s1).2 K):=by
 simp only[mA1,mS1]at hp;have hA:=BD d;have hS:=BC d;have hq:=BM l (n:=20) (by omega) ⟨s.at_,s.left-1,s.caps⟩;have p1:=Ah l 20 ⟨s.at_,s.left-1,s.caps⟩ hp.c;obtain⟨pa,pl,pc⟩:=hp;have h97:=fun K=>f97 l hl uses 20 (by omega) ⟨s.at_,s.left-1,s.caps⟩ ⟨pa.1,by simp only;omega⟩ b0 K;rw[hk]at hq p1 h97;clear hk;simp only at hq p1 h97;obtain⟨qa,ql,qc⟩:=p1;simp only at qa ql;have hw:IntKind.i64.wrap (s.left-1)=s.left-1:=i64_in _ ⟨by omega,by omega⟩;have hp5:Pre (5+3*mA1 d) (3*mS1 d) s1:=⟨⟨by omega,by omega⟩,⟨by omega,by omega⟩,qc⟩;subst h;have h101:=fun K=>f101 hl hd ht hb s1 hp5 b0 K;generalize capF l (treeF l uses d) s1=Y at *;obtain⟨Y1,Y2⟩:=Y;simp only at h101 |-;have fr:frzArgs pol1 22 0 [.rf 1 1 0 0,I ((d+1:Nat):Int)] (mH b0 l uses s K)=some ([.rf 1 1 0 0,I ((d+1:Nat):Int)],mH b0 l uses s K):=AT _ _ _ rfl;refine AX (pol:=pol1) Tryz.func22 rfl rfl rfl rfl fr ?_;simp +contextual (disch:=omega) only[Tryz.f22,dd22,go_sem,simprocAttr,mu22,↓AE,↓AC,↓AB,↓AA,h97,hw,Aw,Ar,BW,BP,BU,BT,BE,BA,A7,A1,A6,A3,A4,A5,AK,AP,AJ,As,append_nil,h101];repeat' (first|intro _|apply And.intro|(unfold dOk;kernel_rfl)|exact St.beq_refl _|exact AQ|(show altO _ _ _ _=true;kernel_rfl)|(show (_||_)=true;kernel_rfl)|(show (_&&_)=true;kernel_rfl))
 exact DP rfl rfl s _ (ex1 ..) (fun H=>Ac H (BK _)) (BK _)
theorem SI {l:List Int} (hl:∀ x∈l,In64 x) {uses:Int}{d:Nat} (hd:d<=5) (ht:TreeLaw l uses d) (hb:TreeB l uses d) (s:MS) (b0:MB) (K:List MB) (hp:Pre (mA1 (d+1)) (mS1 (d+1)) s) (k:Int) (s1:MS) (hk:nx l 20 ⟨s.at_,s.left-1,s.caps⟩=(k,s1)) (hn1:¬ s1.left<3) (hn2:¬ (l.length:Int)<s1.at_) (h:k=14) (u:0<andI uses 16) :
  call Pg pol1 22 [.rf 1 1 0 0,I ((d+1:Nat):Int)] (mH b0 l uses s K)=some (reAV ((.mk 11 [] [] 0 0 0 (nx l 6 s1).1 false,(nx l 6 s1).2):Re×MS).1,mH b0 l uses ((.mk 11 [] [] 0 0 0 (nx l 6 s1).1 false,(nx l 6 s1).2):Re×MS).2 K):=by
 simp only[mA1,mS1]at hp;have hA:=BD d;have hS:=BC d;have hq:=BM l (n:=20) (by omega) ⟨s.at_,s.left-1,s.caps⟩;have p1:=Ah l 20 ⟨s.at_,s.left-1,s.caps⟩ hp.c;obtain⟨pa,pl,pc⟩:=hp;have h97:=fun K=>f97 l hl uses 20 (by omega) ⟨s.at_,s.left-1,s.caps⟩ ⟨pa.1,by simp only;omega⟩ b0 K;rw[hk]at hq p1 h97;clear hk;simp only at hq p1 h97;obtain⟨qa,ql,qc⟩:=p1;simp only at qa ql;have hw:IntKind.i64.wrap (s.left-1)=s.left-1:=i64_in _ ⟨by omega,by omega⟩;have hp5:Pre (5+3*mA1 d) (3*mS1 d) s1:=⟨⟨by omega,by omega⟩,⟨by omega,by omega⟩,qc⟩;subst h;have h97b:=fun K=>f97 l hl uses 6 (by omega) s1 ⟨by omega,by omega⟩ b0 K;generalize nx l 6 s1=Y at *;obtain⟨Y1,Y2⟩:=Y;simp only at h97b |-;have fr:frzArgs pol1 22 0 [.rf 1 1 0 0,I ((d+1:Nat):Int)] (mH b0 l uses s K)=some ([.rf 1 1 0 0,I ((d+1:Nat):Int)],mH b0 l uses s K):=AT _ _ _ rfl;refine AX (pol:=pol1) Tryz.func22 rfl rfl rfl rfl fr ?_;simp +contextual (disch:=omega) only[Tryz.f22,dd22,go_sem,simprocAttr,mu22,↓AE,↓AC,↓AB,↓AA,h97,hw,Aw,Ar,BW,BP,BU,BT,BE,BA,A7,A1,A6,A3,A4,A5,AK,AP,AJ,As,append_nil,h97b];repeat' (first|intro _|apply And.intro|(unfold dOk;kernel_rfl)|exact St.beq_refl _|exact AQ|(show altO _ _ _ _=true;kernel_rfl)|(show (_||_)=true;kernel_rfl)|(show (_&&_)=true;kernel_rfl))
 exact Bj (by rfl) (by rfl) s _ (ex1 ..) true true 11 [] [] 0 0 0 Y1 false
theorem Pq {l:List Int} (hl:∀ x∈l,In64 x) {uses:Int}{d:Nat} (hd:d<=5) (ht:TreeLaw l uses d) (hb:TreeB l uses d) (s:MS) (b0:MB) (K:List MB) (hp:Pre (mA1 (d+1)) (mS1 (d+1)) s) (k:Int) (s1:MS) (hk:nx l 20 ⟨s.at_,s.left-1,s.caps⟩=(k,s1)) (hn1:¬ s1.left<3) (hn2:¬ (l.length:Int)<s1.at_) (h:k=15) (u:0<andI uses 4) :
  call Pg pol1 22 [.rf 1 1 0 0,I ((d+1:Nat):Int)] (mH b0 l uses s K)=some (reAV ((.mk (7+(nx l 2 (nx l 3 s1).2).1) [] [(treeF l uses d (nx l 2 (nx l 3 s1).2).2).1] 0 0 0 0 ((nx l 3 s1).1==0),(treeF l uses d (nx l 2 (nx l 3 s1).2).2).2):Re×MS).1,mH b0 l uses ((.mk (7+(nx l 2 (nx l 3 s1).2).1) [] [(treeF l uses d (nx l 2 (nx l 3 s1).2).2).1] 0 0 0 0 ((nx l 3 s1).1==0),(treeF l uses d (nx l 2 (nx l 3 s1).2).2).2):Re×MS).2 K):=by
 simp only[mA1,mS1]at hp;have hA:=BD d;have hS:=BC d;have hq:=BM l (n:=20) (by omega) ⟨s.at_,s.left-1,s.caps⟩;have p1:=Ah l 20 ⟨s.at_,s.left-1,s.caps⟩ hp.c;obtain⟨pa,pl,pc⟩:=hp;have h97:=fun K=>f97 l hl uses 20 (by omega) ⟨s.at_,s.left-1,s.caps⟩ ⟨pa.1,by simp only;omega⟩ b0 K;rw[hk]at hq p1 h97;clear hk;simp only at hq p1 h97;obtain⟨qa,ql,qc⟩:=p1;simp only at qa ql;have hw:IntKind.i64.wrap (s.left-1)=s.left-1:=i64_in _ ⟨by omega,by omega⟩;have hp5:Pre (5+3*mA1 d) (3*mS1 d) s1:=⟨⟨by omega,by omega⟩,⟨by omega,by omega⟩,qc⟩;subst h;have h97b:=fun K=>f97 l hl uses 3 (by omega) s1 ⟨by omega,by omega⟩ b0 K;have r1:=Ah l 3 s1 qc;generalize nx l 3 s1=Y at *;obtain⟨x,s2⟩:=Y;simp only at h97b r1 |-;have h97c:=fun K=>f97 l hl uses 2 (by omega) s2 ⟨by have:=r1.a;omega,by have:=r1.a;omega⟩ b0 K;have hv:=BM l (n:=2) (by omega) s2;have r2:=r1.trans (Ah l 2 s2 r1.c);generalize nx l 2 s2=Y at *;obtain⟨y,s3⟩:=Y;simp only at h97c hv r2 |-;have h44:=fun K=>ht s3 b0 K (hp5.step r2 (by omega) (by omega));generalize treeF l uses d s3=Y at *;obtain⟨Y1,Y2⟩:=Y;simp only at h44 |-;have fr:frzArgs pol1 22 0 [.rf 1 1 0 0,I ((d+1:Nat):Int)] (mH b0 l uses s K)=some ([.rf 1 1 0 0,I ((d+1:Nat):Int)],mH b0 l uses s K):=AT _ _ _ rfl;refine AX (pol:=pol1) Tryz.func22 rfl rfl rfl rfl fr ?_;simp +contextual (disch:=omega) only[Tryz.f22,dd22,go_sem,simprocAttr,mu22,↓AE,↓AC,↓AB,↓AA,h97,hw,Aw,Ar,BW,BP,BU,BT,BE,BA,A7,A1,A6,A3,A4,A5,AK,AP,AJ,As,append_nil,h97b,h97c,h44];repeat' (first|intro _|apply And.intro|(unfold dOk;kernel_rfl)|exact St.beq_refl _|exact AQ|(show altO _ _ _ _=true;kernel_rfl)|(show (_||_)=true;kernel_rfl)|(show (_&&_)=true;kernel_rfl))
 exact Bj (by rfl) (by rfl) s _ (ex1 ..) true true (7+y) [] [Y1] 0 0 0 0 (x==0)
theorem Pt {l:List Int} (hl:∀ x∈l,In64 x) {uses:Int}{d:Nat} (hd:d<=5) (ht:TreeLaw l uses d) (hb:TreeB l uses d) (s:MS) (b0:MB) (K:List MB) (hp:Pre (mA1 (d+1)) (mS1 (d+1)) s) (k:Int) (s1:MS) (hk:nx l 20 ⟨s.at_,s.left-1,s.caps⟩=(k,s1)) (hn1:¬ s1.left<3) (hn2:¬ (l.length:Int)<s1.at_) (h:k=16) (u:0<andI uses 8) :
  call Pg pol1 22 [.rf 1 1 0 0,I ((d+1:Nat):Int)] (mH b0 l uses s K)=some (reAV ((.mk 9 [] [(treeF l uses d s1).1] 0 0 0 0 false,(treeF l uses d s1).2):Re×MS).1,mH b0 l uses ((.mk 9 [] [(treeF l uses d s1).1] 0 0 0 0 false,(treeF l uses d s1).2):Re×MS).2 K):=by
 simp only[mA1,mS1]at hp;have hA:=BD d;have hS:=BC d;have hq:=BM l (n:=20) (by omega) ⟨s.at_,s.left-1,s.caps⟩;have p1:=Ah l 20 ⟨s.at_,s.left-1,s.caps⟩ hp.c;obtain⟨pa,pl,pc⟩:=hp;have h97:=fun K=>f97 l hl uses 20 (by omega) ⟨s.at_,s.left-1,s.caps⟩ ⟨pa.1,by simp only;omega⟩ b0 K;rw[hk]at hq p1 h97;clear hk;simp only at hq p1 h97;obtain⟨qa,ql,qc⟩:=p1;simp only at qa ql;have hw:IntKind.i64.wrap (s.left-1)=s.left-1:=i64_in _ ⟨by omega,by omega⟩;have hp5:Pre (5+3*mA1 d) (3*mS1 d) s1:=⟨⟨by omega,by omega⟩,⟨by omega,by omega⟩,qc⟩;subst h;have h44:=fun K=>ht s1 b0 K ⟨⟨by omega,by omega⟩,⟨by omega,by omega⟩,qc⟩;generalize treeF l uses d s1=Y at *;obtain⟨Y1,Y2⟩:=Y;simp only at h44 |-;have fr:frzArgs pol1 22 0 [.rf 1 1 0 0,I ((d+1:Nat):Int)] (mH b0 l uses s K)=some ([.rf 1 1 0 0,I ((d+1:Nat):Int)],mH b0 l uses s K):=AT _ _ _ rfl;refine AX (pol:=pol1) Tryz.func22 rfl rfl rfl rfl fr ?_;simp +contextual (disch:=omega) only[Tryz.f22,dd22,go_sem,simprocAttr,mu22,↓AE,↓AC,↓AB,↓AA,h97,hw,Aw,Ar,BW,BP,BU,BT,BE,BA,A7,A1,A6,A3,A4,A5,AK,AP,AJ,As,append_nil,h44];repeat' (first|intro _|apply And.intro|(unfold dOk;kernel_rfl)|exact St.beq_refl _|exact AQ|(show altO _ _ _ _=true;kernel_rfl)|(show (_||_)=true;kernel_rfl)|(show (_&&_)=true;kernel_rfl))
 exact Bj (by rfl) (by rfl) s _ (ex1 ..) true true 9 [] [Y1] 0 0 0 0 false
theorem Rf {l:List Int} (hl:∀ x∈l,In64 x) {uses:Int}{d:Nat} (hd:d<=5) (ht:TreeLaw l uses d) (hb:TreeB l uses d) (s:MS) (b0:MB) (K:List MB) (hp:Pre (mA1 (d+1)) (mS1 (d+1)) s) (k:Int) (s1:MS) (hk:nx l 20 ⟨s.at_,s.left-1,s.caps⟩=(k,s1)) (hn1:¬ s1.left<3) (hn2:¬ (l.length:Int)<s1.at_) (h:k=17) (u:0<andI uses 1) (c:0<s1.caps) :
  call Pg pol1 22 [.rf 1 1 0 0,I ((d+1:Nat):Int)] (mH b0 l uses s K)=some (reAV ((.mk 6 [] [] 0 0 0 (1+(nx l s1.caps s1).1) false,(nx l s1.caps s1).2):Re×MS).1,mH b0 l uses ((.mk 6 [] [] 0 0 0 (1+(nx l s1.caps s1).1) false,(nx l s1.caps s1).2):Re×MS).2 K):=by
 simp only[mA1,mS1]at hp;have hA:=BD d;have hS:=BC d;have hq:=BM l (n:=20) (by omega) ⟨s.at_,s.left-1,s.caps⟩;have p1:=Ah l 20 ⟨s.at_,s.left-1,s.caps⟩ hp.c;obtain⟨pa,pl,pc⟩:=hp;have h97:=fun K=>f97 l hl uses 20 (by omega) ⟨s.at_,s.left-1,s.caps⟩ ⟨pa.1,by simp only;omega⟩ b0 K;rw[hk]at hq p1 h97;clear hk;simp only at hq p1 h97;obtain⟨qa,ql,qc⟩:=p1;simp only at qa ql;have hw:IntKind.i64.wrap (s.left-1)=s.left-1:=i64_in _ ⟨by omega,by omega⟩;have hp5:Pre (5+3*mA1 d) (3*mS1 d) s1:=⟨⟨by omega,by omega⟩,⟨by omega,by omega⟩,qc⟩;subst h;have h97b:=fun K=>f97 l hl uses s1.caps (by omega) s1 ⟨by omega,by omega⟩ b0 K;have hv:=BM l c s1;generalize nx l s1.caps s1=Y at *;obtain⟨Y1,Y2⟩:=Y;simp only at h97b hv |-;have fr:frzArgs pol1 22 0 [.rf 1 1 0 0,I ((d+1:Nat):Int)] (mH b0 l uses s K)=some ([.rf 1 1 0 0,I ((d+1:Nat):Int)],mH b0 l uses s K):=AT _ _ _ rfl;refine AX (pol:=pol1) Tryz.func22 rfl rfl rfl rfl fr ?_;simp +contextual (disch:=omega) only[Tryz.f22,dd22,go_sem,simprocAttr,mu22,↓AE,↓AC,↓AB,↓AA,h97,hw,Aw,Ar,BW,BP,BU,BT,BE,BA,A7,A1,A6,A3,A4,A5,AK,AP,AJ,As,append_nil,h97b];repeat' (first|intro _|apply And.intro|(unfold dOk;kernel_rfl)|exact St.beq_refl _|exact AQ|(show altO _ _ _ _=true;kernel_rfl)|(show (_||_)=true;kernel_rfl)|(show (_&&_)=true;kernel_rfl))
 exact Bj (by rfl) (by rfl) s _ (ex1 ..) true true 6 [] [] 0 0 0 (1+Y1) false
theorem Ps {l:List Int} (hl:∀ x∈l,In64 x) {uses:Int}{d:Nat} (hd:d<=5) (ht:TreeLaw l uses d) (hb:TreeB l uses d) (s:MS) (b0:MB) (K:List MB) (hp:Pre (mA1 (d+1)) (mS1 (d+1)) s) (k:Int) (s1:MS) (hk:nx l 20 ⟨s.at_,s.left-1,s.caps⟩=(k,s1)) (hn1:¬ s1.left<3) (hn2:¬ (l.length:Int)<s1.at_) (h:k=18) (u:0<andI uses 2) (c:0<s1.caps) :
  call Pg pol1 22 [.rf 1 1 0 0,I ((d+1:Nat):Int)] (mH b0 l uses s K)=some (reAV ((.mk 10 [] [(treeF l uses d (nx l s1.caps s1).2).1,(treeF l uses d (treeF l uses d (nx l s1.caps s1).2).2).1] 0 0 0 (1+(nx l s1.caps s1).1) false,(treeF l uses d (treeF l uses d (nx l s1.caps s1).2).2).2):Re×MS).1,mH b0 l uses ((.mk 10 [] [(treeF l uses d (nx l s1.caps s1).2).1,(treeF l uses d (treeF l uses d (nx l s1.caps s1).2).2).1] 0 0 0 (1+(nx l s1.caps s1).1) false,(treeF l uses d (treeF l uses d (nx l s1.caps s1).2).2).2):Re×MS).2 K):=by
 simp only[mA1,mS1]at hp;have hA:=BD d;have hS:=BC d;have hq:=BM l (n:=20) (by omega) ⟨s.at_,s.left-1,s.caps⟩;have p1:=Ah l 20 ⟨s.at_,s.left-1,s.caps⟩ hp.c;obtain⟨pa,pl,pc⟩:=hp;have h97:=fun K=>f97 l hl uses 20 (by omega) ⟨s.at_,s.left-1,s.caps⟩ ⟨pa.1,by simp only;omega⟩ b0 K;rw[hk]at hq p1 h97;clear hk;simp only at hq p1 h97;obtain⟨qa,ql,qc⟩:=p1;simp only at qa ql;have hw:IntKind.i64.wrap (s.left-1)=s.left-1:=i64_in _ ⟨by omega,by omega⟩;have hp5:Pre (5+3*mA1 d) (3*mS1 d) s1:=⟨⟨by omega,by omega⟩,⟨by omega,by omega⟩,qc⟩;subst h;have h97b:=fun K=>f97 l hl uses s1.caps (by omega) s1 ⟨by omega,by omega⟩ b0 K;have hv:=BM l c s1;have r1:=Ah l s1.caps s1 qc;generalize nx l s1.caps s1=Y at *;obtain⟨x,s2⟩:=Y;simp only at h97b hv r1 |-;have pr1:Pre (mA1 d) (mS1 d) s2:=hp5.step r1 (by omega) (by omega);have h44a:=fun K=>ht s2 b0 K pr1;have r2:=r1.trans (hb s2 pr1);generalize treeF l uses d s2=Y at *;obtain⟨y,s3⟩:=Y;simp only at h44a r2 |-;have h44b:=fun K=>ht s3 b0 K (hp5.step r2 (by omega) (by omega));generalize treeF l uses d s3=Y at *;obtain⟨Y1,Y2⟩:=Y;simp only at h44b |-;have fr:frzArgs pol1 22 0 [.rf 1 1 0 0,I ((d+1:Nat):Int)] (mH b0 l uses s K)=some ([.rf 1 1 0 0,I ((d+1:Nat):Int)],mH b0 l uses s K):=AT _ _ _ rfl;refine AX (pol:=pol1) Tryz.func22 rfl rfl rfl rfl fr ?_;simp +contextual (disch:=omega) only[Tryz.f22,dd22,go_sem,simprocAttr,mu22,↓AE,↓AC,↓AB,↓AA,h97,hw,Aw,Ar,BW,BP,BU,BT,BE,BA,A7,A1,A6,A3,A4,A5,AK,AP,AJ,As,append_nil,h97b,h44a,h44b];repeat' (first|intro _|apply And.intro|(unfold dOk;kernel_rfl)|exact St.beq_refl _|exact AQ|(show altO _ _ _ _=true;kernel_rfl)|(show (_||_)=true;kernel_rfl)|(show (_&&_)=true;kernel_rfl))
 exact Bj (by rfl) (by rfl) s _ (ex2 ..) true true 10 [] [y,Y1] 0 0 0 (1+x) false
theorem Pr {l:List Int} (hl:∀ x∈l,In64 x) {uses:Int}{d:Nat} (hd:d<=5) (ht:TreeLaw l uses d) (hb:TreeB l uses d) (s:MS) (b0:MB) (K:List MB) (hp:Pre (mA1 (d+1)) (mS1 (d+1)) s) (k:Int) (s1:MS) (hk:nx l 20 ⟨s.at_,s.left-1,s.caps⟩=(k,s1)) (hn1:¬ s1.left<3) (hn2:¬ (l.length:Int)<s1.at_) (h:12<=k) (n12:¬ (k=12/\0<andI uses 64)) (n13:¬ (k=13/\0<andI uses 64)) (n14:¬ (k=14/\0<andI uses 16)) (n15:¬ (k=15/\0<andI uses 4)) (n16:¬ (k=16/\0<andI uses 8)) (n17:¬ (k=17/\0<andI uses 1/\0<s1.caps)) (n18:¬ (k=18/\0<andI uses 2/\0<s1.caps)) :
  call Pg pol1 22 [.rf 1 1 0 0,I ((d+1:Nat):Int)] (mH b0 l uses s K)=some (reAV (setM l s1).1,mH b0 l uses (setM l s1).2 K):=by
 simp only[mA1,mS1]at hp;have hA:=BD d;have hS:=BC d;have hq:=BM l (n:=20) (by omega) ⟨s.at_,s.left-1,s.caps⟩;have p1:=Ah l 20 ⟨s.at_,s.left-1,s.caps⟩ hp.c;obtain⟨pa,pl,pc⟩:=hp;have h97:=fun K=>f97 l hl uses 20 (by omega) ⟨s.at_,s.left-1,s.caps⟩ ⟨pa.1,by simp only;omega⟩ b0 K;rw[hk]at hq p1 h97;clear hk;simp only at hq p1 h97;obtain⟨qa,ql,qc⟩:=p1;simp only at qa ql;have hw:IntKind.i64.wrap (s.left-1)=s.left-1:=i64_in _ ⟨by omega,by omega⟩;have hp5:Pre (5+3*mA1 d) (3*mS1 d) s1:=⟨⟨by omega,by omega⟩,⟨by omega,by omega⟩,qc⟩;have h98:=fun K=>f98 l hl uses s1 ⟨by omega,by omega⟩ b0 K;generalize setM l s1=Y at *;obtain⟨Y1,Y2⟩:=Y;simp only at h98 |-;have fr:frzArgs pol1 22 0 [.rf 1 1 0 0,I ((d+1:Nat):Int)] (mH b0 l uses s K)=some ([.rf 1 1 0 0,I ((d+1:Nat):Int)],mH b0 l uses s K):=AT _ _ _ rfl;refine AX (pol:=pol1) Tryz.func22 rfl rfl rfl rfl fr ?_;simp +contextual (disch:=omega) only[Tryz.f22,dd22,go_sem,simprocAttr,mu22,↓AE,↓AC,↓AB,↓AA,h97,hw,Aw,Ar,BW,BP,BU,BT,BE,BA,A7,A1,A6,A3,A4,A5,AK,AP,AJ,As,append_nil,h98];repeat' (first|intro _|apply And.intro|(unfold dOk;kernel_rfl)|exact St.beq_refl _|exact AQ|(show altO _ _ _ _=true;kernel_rfl)|(show (_||_)=true;kernel_rfl)|(show (_&&_)=true;kernel_rfl))
 all_goals exact DP rfl rfl s _ (ex1 ..) (fun H=>Ac H (BK _)) (BK _)
theorem PM {l:List Int} (hl:∀ x∈l,In64 x) {uses:Int}{d:Nat} (hd:d<=5) (ht:TreeLaw l uses d) (hb:TreeB l uses d):TreeLaw l uses (d+1):=by
 intro s b0 K hp;simp only[treeF];generalize hk:nx l 20 ⟨s.at_,s.left-1,s.caps⟩=Y;obtain⟨k,s1⟩:=Y;simp only;have hq:=BM l (n:=20) (by omega) ⟨s.at_,s.left-1,s.caps⟩;rw[hk]at hq;simp only at hq;unfold treeStep;by_cases hc:s1.left<3∨(l.length:Int)<s1.at_
 ·rw[if_pos hc];exact SW hl hd s b0 K hp k s1 hk hc
 rw[if_neg hc];have hn1:¬ s1.left<3:=fun h=>hc (.inl h);have hn2:¬ (l.length:Int)<s1.at_:=fun h=>hc (.inr h);by_cases h5:k<5
 ·rw[if_pos h5];exact Rg hl hd ht hb s b0 K hp k s1 hk hn1 hn2 h5
 rw[if_neg h5];by_cases h8:k<8
 ·rw[if_pos h8];exact Rh hl hd ht hb s b0 K hp k s1 hk hn1 hn2 (by omega) h8
 rw[if_neg h8];by_cases h12:k<12
 ·rw[if_pos h12];exact Rd hl hd ht hb s b0 K hp k s1 hk hn1 hn2 (by omega) h12
 rw[if_neg h12];by_cases c1:(k=12∨k=13)/\0<andI uses 64
 ·rw[if_pos c1];rcases c1.1 with e|e
  ·exact OR hl hd ht hb s b0 K hp k s1 hk hn1 hn2 e c1.2
  ·exact OQ hl hd ht hb s b0 K hp k s1 hk hn1 hn2 e c1.2
 rw[if_neg c1];by_cases c2:k=14/\0<andI uses 16
 ·rw[if_pos c2];exact SI hl hd ht hb s b0 K hp k s1 hk hn1 hn2 c2.1 c2.2
 rw[if_neg c2];by_cases c3:k=15/\0<andI uses 4
 ·rw[if_pos c3];exact Pq hl hd ht hb s b0 K hp k s1 hk hn1 hn2 c3.1 c3.2
 rw[if_neg c3];by_cases c4:k=16/\0<andI uses 8
 ·rw[if_pos c4];exact Pt hl hd ht hb s b0 K hp k s1 hk hn1 hn2 c4.1 c4.2
 rw[if_neg c4];by_cases c5:k=17/\0<andI uses 1/\0<s1.caps
 ·rw[if_pos c5];exact Rf hl hd ht hb s b0 K hp k s1 hk hn1 hn2 c5.1 c5.2.1 c5.2.2
 rw[if_neg c5];by_cases c6:k=18/\0<andI uses 2/\0<s1.caps
 ·rw[if_pos c6];exact Ps hl hd ht hb s b0 K hp k s1 hk hn1 hn2 c6.1 c6.2.1 c6.2.2
 rw[if_neg c6];exact Pr hl hd ht hb s b0 K hp k s1 hk hn1 hn2 (by omega) (fun h=>c1 ⟨.inl h.1,h.2⟩) (fun h=>c1 ⟨.inr h.1,h.2⟩) c2 c3 c4 c5 c6
theorem KC {l:List Int} (hl:∀ x∈l,In64 x) (uses:Int):∀ d,d<=6->TreeLaw l uses d/\TreeB l uses d
 | 0,_=>⟨fun s b0 K hp=>by
    simp only[treeF];generalize hk:nx l 20 ⟨s.at_,s.left-1,s.caps⟩=Y;obtain⟨k,s1⟩:=Y;exact SX hl s b0 K hp k s1 hk,LO⟩
 | d+1,h=>by
   obtain⟨h1,h2⟩:=KC hl uses d (by omega);exact⟨PM hl (by omega) h1 h2,LP h2⟩
theorem f11m (l:List Int) (hl:∀ x∈l,In64 x) (uses most:Int) (hmo:0<=most/\most<=1000) (H:List MB) :
  call Pg pol1 7 [.sl false (l.map I),I uses,I most] H=some (patAV ⟨(treeF l uses 5 ⟨0,most,0⟩).1,(treeF l uses 5 ⟨0,most,0⟩).2.caps,false⟩,H):=by
 refine AR Tryz.func7 rfl rfl rfl rfl rfl rfl (fun _=>rfl) (by simp[AV.plain,AV.plainL,AG]) (show AV.plain (patAV _)=true from Av _) ?_ H;have hpre:Pre (mA1 5) (mS1 5) ⟨0,most,0⟩:=by
  have h1:mS1 5=364:=rfl;have h2:mA1 5=1818:=rfl;exact⟨by simp only[h2];omega,by simp only[h1];omega,by simp only[];omega⟩
 have h44:∀ b0,call Pg pol1 22 [.rf 1 1 0 0,I 5] [b0,.row 5 [.agg [.sl false (l.map I),I 0,I uses,I most,I 0]] 0]=some (reAV (treeF l uses 5 ⟨0,most,0⟩).1,mH b0 l uses (treeF l uses 5 ⟨0,most,0⟩).2 []):=fun b0=>(KC hl uses 5 (by omega)).1 ⟨0,most,0⟩ b0 [] hpre;generalize treeF l uses 5 ⟨0,most,0⟩=Y at *;obtain⟨r,s⟩:=Y;simp only at h44 |-;have htk8:∀ r l,List.take 8 (reC r++l)=reC r:=fun r l=>by
  have:=AK r;rw[List.take_append_of_le_length (by omega)];exact take_of_length_le (by omega)
 have hdr9:∀ r (a b:AV),List.drop 9 (reC r++[a,b])=[b]:=fun r a b=>by
  have:=AK r;rw[show (9:Nat)=8+1 from rfl,<- List.drop_drop,List.drop_append_of_le_length (by omega),As];rfl
 have ht10:∀ a b:AV,List.take 10 (reC r++[a,b])=reC r++[a,b]:=fun a b=>take_of_length_le (by simp[AK]);simp +contextual (disch:=omega) only[Tryz.f7,dd7,go_sem,simprocAttr,evBin,mu7,↓AE,↓AC,↓AB,↓AA,h44,htk8,hdr9,ht10,AK,AP,AJ,As,List.all_append];repeat' (first|intro _|apply And.intro|(unfold dOk;kernel_rfl)|exact St.beq_refl _|exact AQ|(show altO _ _ _ _=true;kernel_rfl)|(show (_||_)=true;kernel_rfl)|(show (_&&_)=true;kernel_rfl))
 exact⟨_,Ac _ (Av ⟨r,s.caps,false⟩)⟩
end
section
attribute [local go_sem] evBin map_append
def treeI (l:List Int) (most:Int):Re:=(treeF l 96 5 ⟨0,most,0⟩).1
theorem OP (l:List Int) (most:Int):(treeI l most).wt<=2000:=Nat.le_trans (Ef l 96 5 _) (by decide)
def pattI (l:List Int) (uses most:Int):Pat:=⟨(treeF l uses 5 ⟨0,most,0⟩).1,(treeF l uses 5 ⟨0,most,0⟩).2.caps,false⟩
theorem Oh (l:List Int) (uses most:Int):(pattI l uses most).re.wt<=2000:=Nat.le_trans (Ef l uses 5 _) (by decide)
theorem f7 (l:List Int) (hl:∀ x∈l,In64 x) (uses most:Int) (hmo:0<=most/\most<=1000) (H:List MB) :
 call Pg pol1 7 [.sl false (l.map I),I uses,I most] H=some (patAV (pattI l uses most),H):=f11m l hl uses most hmo H
theorem f6 (l:List Int) (hl:∀ x∈l,In64 x) (most:Int) (hmo:0<=most/\most<=1000) (H:List MB) :
  call Pg pol1 6 [.sl false (l.map I),I most] H=some (reAV (treeI l most),H):=by
 have h7:=f7 l hl 96 most hmo;refine AR Tryz.func6 rfl rfl rfl rfl rfl rfl (fun _=>rfl) (by simp[AV.plain,AV.plainL,AG]) (AU _) ?_ H;obtain⟨p,hp⟩:∃ p,pattI l 96 most=p:=⟨_,rfl⟩;have e:treeI l most=p.re:=by rw[<- hp];rfl
 rw[hp]at h7;rw[e];clear e hp;obtain⟨re,caps,runes⟩:=p;have hl8:=AK re;have htk8:∀ l,List.take 8 (reC re++l)=reC re:=fun l=>by
  rw[List.take_append_of_le_length (by omega)];exact take_of_length_le (by omega)
 simp +contextual (disch:=omega) only[Tryz.f6,dd6,go_sem,simprocAttr,evAppend,mu6,↓AE,↓AC,↓AB,↓AA,h7,hl8,htk8,AK,AJ,AP];exact fzEq (AU _) rfl
theorem d12 (a b:List (Int×Int)) (hl:a.length<=1000000000) (hb:b.length<=1000000000) (H:List MB):call Pg pol1 12 [.sl false (a.map spanAV),.sl false (b.map spanAV)] H=some (.bool (decide (a=b)),H):=by
 refine AR Tryz.func12 rfl rfl rfl rfl rfl rfl (fun _=>rfl) (by simp[AV.plain,AV.plainL,AF]) rfl ?_ H;by_cases hn:a.length=b.length
 ·have hn':((a.length:Int)=(b.length:Int))=True:=eq_true (by omega);simp +contextual (disch:=omega) only[Tryz.f12,dd12,go_sem,simprocAttr,evAppend,mu12,↓AE,↓AC,↓AB,↓AA,hn'];refine AY (M:=(mskOf (pol1.mask 12) (pol1.gc 12) (pol1.acts 12) 0 4)) (by rfl) a.length (fun i=>(⟨26,[(14,I i),(13,I a.length),(12,.sl false (a.map spanAV)),(1,.sl false (b.map spanAV))],[]⟩:St)) (fun i=>a.take i=b.take i) ?_ ?_ rfl _ (by first|rfl|(refine AN rfl (by rfl) (by rfl) (by rfl) ?_ ?_<;>simp[AV.underL,AV.under,MB.under,AD,AI,AG,AF,AL,AM,-map_take,AF]))
  ·intro i hi hinv;obtain⟨p,hp⟩:∃ p,a[i]?=some p:=⟨_,getElem?_eq_getElem hi⟩;obtain⟨q,hq⟩:∃ p,b[i]?=some p:=⟨_,getElem?_eq_getElem (by omega)⟩;have hp':(a.map spanAV)[i]?=some (spanAV p):=by simp[hp]
   have hq':(b.map spanAV)[i]?=some (spanAV q):=by simp[hq]
   have hlt:(i:Int)<(a.length:Int):=by omega
   have hltb:(i:Int)<(b.length:Int):=by omega
   by_cases he:p=q
   ·subst he;have h1:a.take (i+1)=b.take (i+1):=by rw[AZ hp,AZ hq,hinv]
    simp +contextual (disch:=omega) only[Tryz.f12,dd12,go_sem,simprocAttr,evAppend,mu12,↓AE,↓AC,↓AB,↓AA,hp',hq',hlt,hltb];repeat' (first|intro _|apply And.intro|(unfold dOk;kernel_rfl)|exact St.beq_refl _|exact AQ|(show altO _ _ _ _=true;kernel_rfl)|(show (_||_)=true;kernel_rfl)|(show (_&&_)=true;kernel_rfl))
    ·exact h1
    ·exact AN (n:=0) rfl rfl (by rfl) (by rfl) (by simp[AV.underL,AV.under,AD _ _ (AF a),AD _ _ (AF b)]) rfl
   ·have hne:a≠b:=fun e=>he (by rw[e,hq]at hp;exact(Option.some.inj hp).symm);rw[decide_eq_false hne];by_cases e1:p.1=q.1
    ·have e2:p.2≠q.2:=fun e2=>he (Prod.ext e1 e2);simp +contextual (disch:=omega) only[Tryz.f12,dd12,go_sem,simprocAttr,evAppend,mu12,↓AE,↓AC,↓AB,↓AA,hp',hq',hlt,hltb,e1,e2];repeat' (first|intro _|apply And.intro|(unfold dOk;kernel_rfl)|exact St.beq_refl _|exact AQ|(show altO _ _ _ _=true;kernel_rfl)|(show (_||_)=true;kernel_rfl)|(show (_&&_)=true;kernel_rfl))
     exact fzEq rfl rfl
    ·simp +contextual (disch:=omega) only[Tryz.f12,dd12,go_sem,simprocAttr,evAppend,mu12,↓AE,↓AC,↓AB,↓AA,hp',hq',hlt,hltb,e1,Bool.false_and];repeat' (first|intro _|apply And.intro|(unfold dOk;kernel_rfl)|exact St.beq_refl _|exact AQ|(show altO _ _ _ _=true;kernel_rfl)|(show (_||_)=true;kernel_rfl)|(show (_&&_)=true;kernel_rfl))
     exact fzEq rfl rfl
  ·intro hinv;have:a=b:=by
    rw[take_length,hn,take_length]at hinv;exact hinv
   rw[decide_eq_true this];simp +contextual (disch:=omega) only[Tryz.f12,dd12,go_sem,simprocAttr,evAppend,mu12,↓AE,↓AC,↓AB,↓AA];exact fzEq rfl rfl
 ·have hn':((a.length:Int)=(b.length:Int))=False:=eq_false (by omega);have hne:a≠b:=fun e=>hn (by rw[e]);rw[decide_eq_false hne];simp +contextual (disch:=omega) only[Tryz.f12,dd12,go_sem,simprocAttr,evAppend,mu12,↓AE,↓AC,↓AB,↓AA,hn'];exact fzEq rfl rfl
theorem d13 (a b:List Int) (hl:a.length<=1000000000) (hb:b.length<=1000000000) (H:List MB):call Pg pol1 13 [.sl false (a.map I),.sl false (b.map I)] H=some (.bool (decide (a=b)),H):=by
 refine AR Tryz.func13 rfl rfl rfl rfl rfl rfl (fun _=>rfl) (by simp[AV.plain,AV.plainL,AG]) rfl ?_ H;by_cases hn:a.length=b.length
 ·have hn':((a.length:Int)=(b.length:Int))=True:=eq_true (by omega);simp +contextual (disch:=omega) only[Tryz.f13,dd13,go_sem,simprocAttr,evAppend,mu13,↓AE,↓AC,↓AB,↓AA,hn'];refine AY (M:=(mskOf (pol1.mask 13) (pol1.gc 13) (pol1.acts 13) 0 4)) (by rfl) a.length (fun i=>(⟨26,[(5,I i),(1,.sl false (b.map I)),(0,.sl false (a.map I))],[]⟩:St)) (fun i=>a.take i=b.take i) ?_ ?_ rfl _ (by first|rfl|(refine AN rfl (by rfl) (by rfl) (by rfl) ?_ ?_<;>simp[AV.underL,AV.under,MB.under,AD,AI,AG,AF,AL,AM,-map_take,AG]))
  ·intro i hi hinv;obtain⟨p,hp⟩:∃ p,a[i]?=some p:=⟨_,getElem?_eq_getElem hi⟩;obtain⟨q,hq⟩:∃ p,b[i]?=some p:=⟨_,getElem?_eq_getElem (by omega)⟩;have hp':(a.map I)[i]?=some (I p):=by simp[hp]
   have hq':(b.map I)[i]?=some (I q):=by simp[hq]
   have hlt:(i:Int)<(a.length:Int):=by omega
   have hltb:(i:Int)<(b.length:Int):=by omega
   by_cases he:p=q
   ·subst he;have h1:a.take (i+1)=b.take (i+1):=by rw[AZ hp,AZ hq,hinv]
    simp +contextual (disch:=omega) only[Tryz.f13,dd13,go_sem,simprocAttr,evAppend,mu13,↓AE,↓AC,↓AB,↓AA,hp',hq',hlt,hltb,h1];repeat' (first|intro _|apply And.intro|(unfold dOk;kernel_rfl)|exact St.beq_refl _|exact AQ|(show altO _ _ _ _=true;kernel_rfl)|(show (_||_)=true;kernel_rfl)|(show (_&&_)=true;kernel_rfl))
    exact(by first|rfl|(refine AN rfl (by rfl) (by rfl) (by rfl) ?_ ?_<;>simp[AV.underL,AV.under,MB.under,AD,AI,AG,AF,AL,AM,-map_take,AG]))
   ·have hne:a≠b:=fun e=>he (by rw[e,hq]at hp;exact(Option.some.inj hp).symm);rw[decide_eq_false hne];simp +contextual (disch:=omega) only[Tryz.f13,dd13,go_sem,simprocAttr,evAppend,mu13,↓AE,↓AC,↓AB,↓AA,hp',hq',hlt,hltb,he];repeat' (first|intro _|apply And.intro|(unfold dOk;kernel_rfl)|exact St.beq_refl _|exact AQ|(show altO _ _ _ _=true;kernel_rfl)|(show (_||_)=true;kernel_rfl)|(show (_&&_)=true;kernel_rfl))
    exact fzEq rfl rfl
  ·intro hinv;have:a=b:=by
    rw[take_length,hn,take_length]at hinv;exact hinv
   rw[decide_eq_true this];simp +contextual (disch:=omega) only[Tryz.f13,dd13,go_sem,simprocAttr,evAppend,mu13,↓AE,↓AC,↓AB,↓AA,hn'];exact fzEq rfl rfl
 ·have hn':((a.length:Int)=(b.length:Int))=False:=eq_false (by omega);have hne:a≠b:=fun e=>hn (by rw[e]);rw[decide_eq_false hne];simp +contextual (disch:=omega) only[Tryz.f13,dd13,go_sem,simprocAttr,evAppend,mu13,↓AE,↓AC,↓AB,↓AA,hn'];exact fzEq rfl rfl
theorem d38 (x:Int) (H:List MB):call Pg pol1 38 [I x] H=some (reAV (setR [(x,x)]),H):=by
 refine AR Tryz.func38 rfl rfl rfl rfl rfl rfl (fun _=>rfl) rfl (AU _) ?_ H;simp +contextual (disch:=omega) only[Tryz.f38,dd38,go_sem,simprocAttr,evAppend,mu38,↓AE,↓AC,↓AB,↓AA];have hz:=Jn true true 1 [(x,x)] [] 0 0 0 0 false;exact⟨_,hz _⟩
theorem t8R (r:Re) (l:List AV):List.take 8 (reC r++l)=reC r:=by
 rw[List.take_append_of_le_length (by rw[AK];exact Nat.le_refl _)];exact take_of_length_le (by rw[AK];exact Nat.le_refl _)
theorem d9R (r:Re) (a b:AV):List.drop 9 (reC r++[a,b])=[b]:=by
 rw[List.drop_append,AK,List.drop_of_length_le (by rw[AK];omega)];rfl
theorem t9R (r:Re) (a:AV) (l:List AV):List.take 9 (reC r++a::l)=reC r++[a]:=by
 rw[List.take_append,AK,take_of_length_le (by rw[AK];omega)];rfl
theorem d10R (r:Re) (a b:AV):List.drop 10 (reC r++[a,b])=[]:=List.drop_of_length_le (by simp[AK])
theorem fzZe (n:Int) {K:List MB}:∃ H',fz (.tup [zeR,I n]) K=some (.tup [reAV emptyR,I n],H'):=⟨K,rfl⟩
theorem d20 (r:Re) (x:Int) (hw:r.wt<=1000000) (H:List MB) :
  call Pg pol1 20 [reAV r,I x] H=some (if chkP ⟨r,9,true⟩≠0 then .tup [reAV emptyR,I (chkP ⟨r,9,true⟩)] else if x<0∨1114111<x then .tup [reAV emptyR,I 5] else resA (stepR x r),H):=by
 have h23:=d23 ⟨r,9,true⟩ hw;have hck:=J3 (p:=⟨r,9,true⟩);have hpl:AV.plain (if chkP ⟨r,9,true⟩≠0 then .tup [reAV emptyR,I (chkP ⟨r,9,true⟩)] else if x<0∨1114111<x then .tup [reAV emptyR,I 5] else resA (stepR x r))=true:=by
  split
  ·rfl
  ·split
   ·rfl
   ·exact EP _
 refine AR Tryz.func20 rfl rfl rfl rfl rfl rfl (fun _=>rfl) (by simp[AV.plain,AV.plainL,AO]) hpl ?_ H;clear hpl;by_cases hc:chkP ⟨r,9,true⟩=0
 ·rw[if_neg (by simpa using hc)];obtain⟨hok,hsz,hwh⟩:=hck hc;have h29:=d29 hsz hok 9 1114111 hwh x;rw[hc]at h23;by_cases x0:x<0
  ·rw[if_pos (.inl x0)];simp +contextual (disch:=omega) only[Tryz.f20,dd20,go_sem,simprocAttr,evAppend,mu20,↓AE,↓AC,↓AB,↓AA,h23,x0,AK,AJ,AP,t8R,d9R,t9R,d10R,length_append,append_assoc,cons_append,nil_append]
   first|exact fzEq (by simp[AV.plain,AV.plainL,AO]) rfl|exact fzZe _
  ·by_cases x1:1114111<x
   ·rw[if_pos (.inr x1)];simp +contextual (disch:=omega) only[Tryz.f20,dd20,go_sem,simprocAttr,evAppend,mu20,↓AE,↓AC,↓AB,↓AA,h23,x0,x1,AK,AJ,AP,t8R,d9R,t9R,d10R,length_append,append_assoc,cons_append,nil_append]
    first|exact fzEq (by simp[AV.plain,AV.plainL,AO]) rfl|exact fzZe _
   ·rw[if_neg (by omega)];cases hst:stepR x r with
    | none=>
      rw[hst]at h29;unfold resA at h29 |-;simp +contextual (disch:=omega) only[Tryz.f20,dd20,go_sem,simprocAttr,evAppend,mu20,↓AE,↓AC,↓AB,↓AA,h23,x0,x1,h29,AK,AJ,AP,t8R,d9R,t9R,d10R,length_append,append_assoc,cons_append,nil_append]
      first|exact fzEq (by simp[AV.plain,AV.plainL,AO]) rfl|exact fzZe _
    | some q=>
      rw[hst]at h29;unfold resA at h29 |-;simp +contextual (disch:=omega) only[Tryz.f20,dd20,go_sem,simprocAttr,evAppend,mu20,↓AE,↓AC,↓AB,↓AA,h23,x0,x1,h29,AK,AJ,AP,t8R,d9R,t9R,d10R,length_append,append_assoc,cons_append,nil_append]
      first|exact fzEq (by simp[AV.plain,AV.plainL,AO]) rfl|exact fzZe _
 ·rw[if_pos hc];simp +contextual (disch:=omega) only[Tryz.f20,dd20,go_sem,simprocAttr,evAppend,mu20,↓AE,↓AC,↓AB,↓AA,h23,hc,AK,AJ,AP,t8R,d9R,t9R,d10R,length_append,append_assoc,cons_append,nil_append]
  first|exact fzEq (by simp[AV.plain,AV.plainL,AO]) rfl|exact fzZe _
end
end Go.Ev
namespace Go.Ev
abbrev lvA:Re:=setR [(97,97)]
abbrev lvB:Re:=setR [(98,98)]
abbrev lvR:Re:=.mk 2 [] [.mk 4 [] [lvA] 0 (-1) 0 0 false,lvB] 0 0 0 0 false
theorem QO:chkP ⟨lvR,9,true⟩=0:=by decide
theorem QP:chkP ⟨lvR,0,false⟩=0:=by decide
theorem QM:setsR lvR=[[(97,97)],[(98,98)]]:=by simp[setsR,setsL]
theorem QN:endsR [[(97,97)],[(98,98)]] 255=[0,97,98,99]:=by decide
theorem O5:splitA [[(97,97)],[(98,98)]] [0,97,98,99] 255=some [[(0,96),(99,255)],[(97,97)],[(98,98)]]:=by
 rw[FC]
 ·congr 1
 ·rintro(h|⟨c,hc,h⟩)
  ·revert h;decide
  ·revert h;revert c;decide
theorem Rl:badR lvR=false:=by decide
theorem SV:nf lvR=lvR:=by simp[nf,nfL,formN,catR,flatR,joinR,repR,Re.op,Re.sub,isNoth,Re.set]
theorem st_a:stepR 97 lvR=some lvR:=by
 simp[stepR,drv,drvL,catD,joinR,nullG,nullAll,nullAny,nullHd,hasSpan,badR,badRL,altBad,flatR,nf,nfL,formN,catR,altR,altL,othersOf,spansOf,putAll,putR,repR,Re.op,Re.sub,isNoth,Re.set,Re.size,Re.sizeL,Re.depth,Re.depthL,CG,show max (-1:Int) 0=0 from rfl]
theorem st_b:stepR 98 lvR=some emptyR:=by
 simp[stepR,drv,drvL,catD,joinR,nullG,nullAll,nullAny,nullHd,hasSpan,badR,badRL,altBad,flatR,nf,nfL,formN,catR,altR,altL,othersOf,spansOf,putAll,putR,repR,Re.op,Re.sub,isNoth,Re.set,Re.size,Re.sizeL,Re.depth,Re.depthL,CG,show max (-1:Int) 0=0 from rfl]
theorem st_c:stepR 99 lvR=some nothR:=by
 simp[stepR,drv,drvL,catD,joinR,nullG,nullAll,nullAny,nullHd,hasSpan,badR,badRL,altBad,flatR,nf,nfL,formN,catR,altR,altL,othersOf,spansOf,putAll,putR,repR,Re.op,Re.sub,isNoth,Re.set,Re.size,Re.sizeL,Re.depth,Re.depthL,CG,show max (-1:Int) 0=0 from rfl]
theorem st_0:stepR 0 lvR=some nothR:=by
 simp[stepR,drv,drvL,catD,joinR,nullG,nullAll,nullAny,nullHd,hasSpan,badR,badRL,altBad,flatR,nf,nfL,formN,catR,altR,altL,othersOf,spansOf,putAll,putR,repR,Re.op,Re.sub,isNoth,Re.set,Re.size,Re.sizeL,Re.depth,Re.depthL,CG,show max (-1:Int) 0=0 from rfl]
theorem st_n (x:Int):stepR x nothR=some nothR:=by
 simp[stepR,drv,drvL,catD,joinR,nullG,nullAll,nullAny,nullHd,hasSpan,badR,badRL,altBad,flatR,nf,nfL,formN,catR,altR,altL,othersOf,spansOf,putAll,putR,repR,Re.op,Re.sub,isNoth,Re.set,Re.size,Re.sizeL,Re.depth,Re.depthL,CG,show max (-1:Int) 0=0 from rfl]
theorem st_e (x:Int):stepR x emptyR=some nothR:=by
 simp[stepR,drv,drvL,catD,joinR,nullG,nullAll,nullAny,nullHd,hasSpan,badR,badRL,altBad,flatR,nf,nfL,formN,catR,altR,altL,othersOf,spansOf,putAll,putR,repR,Re.op,Re.sub,isNoth,Re.set,Re.size,Re.sizeL,Re.depth,Re.depthL,CG,show max (-1:Int) 0=0 from rfl]
theorem EY {lim most f:Nat}{xs:List Int}{ts ts':List Re}{rows:List (List Nat)}{row:List Nat}{accs:List Bool}{r:Re} (h1:ts[rows.length]?=some r) (h2:rowD lim r xs ts=some (ts',row)) (h3:¬ most<ts'.length) :
  autoF lim most xs (f+1) ts rows accs=autoF lim most xs f ts' (rows++[row]) (accs++[nullG r]):=by
 simp only[autoF,h1,h2,if_neg h3]
theorem OB {lim most f:Nat}{xs:List Int}{ts:List Re}{rows:List (List Nat)}{accs:List Bool} (h1:ts[rows.length]?=none):autoF lim most xs (f+1) ts rows accs=.ok rows accs:=by
 simp only[autoF,h1]
theorem QQ:autoF 1024 1024 [0,97,98] 2000 [lvR] [] []=.ok [[1,0,2],[1,1,1],[1,1,1]] [false,false,true]:=by
 have hne1:lvR≠nothR:=by simp
 have hne2:lvR≠emptyR:=by simp
 have hne3:nothR≠emptyR:=by simp
 have a1:addT [lvR] nothR=[lvR,nothR]:=Cp (by simp);have a2:addT [lvR,nothR] lvR=[lvR,nothR]:=DI (by simp);have a3:addT [lvR,nothR] emptyR=[lvR,nothR,emptyR]:=Cp (by simp);have a4:addT [lvR,nothR,emptyR] nothR=[lvR,nothR,emptyR]:=DI (by simp);have i1:ixT nothR [lvR,nothR]=1:=by simp[ixT]
 have i2:ixT lvR [lvR,nothR]=0:=by simp[ixT]
 have i3:ixT emptyR [lvR,nothR,emptyR]=2:=by simp[ixT]
 have i4:ixT nothR [lvR,nothR,emptyR]=1:=by simp[ixT]
 have r1:rowD 1024 lvR [0,97,98] [lvR]=some ([lvR,nothR,emptyR],[1,0,2]):=by
  simp[rowD,stepD,st_0,st_a,st_b,a1,a2,a3,i1,i2,i3]
 have r2:rowD 1024 nothR [0,97,98] [lvR,nothR,emptyR]=some ([lvR,nothR,emptyR],[1,1,1]):=by
  simp[rowD,stepD,st_n,a4,i4]
 have r3:rowD 1024 emptyR [0,97,98] [lvR,nothR,emptyR]=some ([lvR,nothR,emptyR],[1,1,1]):=by
  simp[rowD,stepD,st_e,a4,i4]
 rw[show (2000:Nat)=1999+1 from rfl,EY rfl r1 (by simp),show (1999:Nat)=1998+1 from rfl,EY rfl r2 (by simp),show (1998:Nat)=1997+1 from rfl,EY rfl r3 (by simp),show (1997:Nat)=1996+1 from rfl,OB rfl];simp[nullG,nullAll,nullAny,nullHd]
end Go.Ev
namespace Go.Ev
attribute [local go_sem] AV.cells Ax A8 bndO bnd evEq eqCells not_false_eq_true not_true_eq_false toList_some Array.size_empty length_append tySzE List.head?_drop Nat.mul_one Aj Aq Ag Ak Al Ae
section
attribute [local go_sem] evAppend evBin map_append
theorem O6:autoA ⟨lvR,0,false⟩=.tup [autD [[(0,96),(99,255)],[(97,97)],[(98,98)]] [[1,0,2],[1,1,1],[1,1,1]] [false,false,true],I 0]:=by
 unfold autoA;rw[if_neg (by rw[QP];simp)];simp only[QM,show topI false=255 from rfl,QN,O5];rw[if_neg (by rw[Rl];simp),SV];show outD _ (autoF 1024 1024 [0,97,98] 2000 [lvR] [] [])=_;rw[QQ];rfl
abbrev z14:List AV:=[I 2,.sl true [],.sl true [.agg [I 4,.sl true [],.sl true [reAV (setR [(97,97)])],I 0,I (-1),I 0,I 0,.bool false],reAV (setR [(98,98)])],I 0,I 0,I 0,I 0,.bool false]
theorem fz14 (H:List MB):fz (.agg z14) H=some (reAV lvR,H):=rfl
theorem SY (H:List MB):fz (.agg (z14++[I 0,.bool false])) H=some (patAV ⟨lvR,0,false⟩,H):=rfl
theorem c14a {f:Nat}{x v:AV} (hp:pol1.pure f=true) (hx:AV.plain x=true) (hb:pol1.byref f 0=false) (hb1:pol1.byref f 1=false) (h:∀ H,call Pg pol1 f [reAV lvR,x] H=some (v,H)) (H:List MB):call Pg pol1 f [.agg z14,x] H=some (v,H):=by
 rw[CM (l:=[reAV lvR,x]) (H1:=H) hp ?_ (by simp[AV.plainL,AV.plain,AO,hx])]
 ·exact h H
 ·have h2:pol1.byref f (0+1)=false:=hb1;simp only[frzArgs,hb,h2,Bool.false_eq_true,if_false,fz14,Ac _ hx]
theorem c14b {f:Nat}{x v:AV} (hp:pol1.pure f=true) (hx:AV.plain x=true) (hb:pol1.byref f 0=false) (hb1:pol1.byref f 1=false) (h:∀ H,call Pg pol1 f [x,reAV lvR] H=some (v,H)) (H:List MB):call Pg pol1 f [x,.agg z14] H=some (v,H):=by
 rw[CM (l:=[x,reAV lvR]) (H1:=H) hp ?_ (by simp[AV.plainL,AV.plain,AO,hx])]
 ·exact h H
 ·have h2:pol1.byref f (0+1)=false:=hb1;simp only[frzArgs,hb,h2,Bool.false_eq_true,if_false,fz14,Ac _ hx]
theorem c14p {v:AV} (h:∀ H,call Pg pol1 9 [patAV ⟨lvR,0,false⟩] H=some (v,H)) (H:List MB):call Pg pol1 9 [.agg (z14++[I 0,.bool false])] H=some (v,H):=by
 rw[CM (l:=[patAV ⟨lvR,0,false⟩]) (H1:=H) rfl ?_ (by simp only[AV.plainL,Bool.and_true];exact Av _)]
 ·exact h H
 ·have hb:pol1.byref 9 0=false:=rfl;simp only[frzArgs,hb,Bool.false_eq_true,if_false,SY]
theorem d14 (H:List MB):call Pg pol1 14 [] H=some (.bool true,H):=by
 have h38a:=d38 97;have h38b:=d38 98;have h20a:=d20 lvR 97 (by decide);have h20b:=d20 lvR 98 (by decide);have h20c:=d20 lvR 99 (by decide);simp only[QO,ne_eq,not_true_eq_false,if_false,st_a,st_b,st_c,resA]at h20a h20b h20c;rw[if_neg (by decide)]at h20a h20b h20c;have h9:=d9 ⟨lvR,0,false⟩ (by decide);rw[O6]at h9;have h36:=d36 _ lvR lvR (Nat.le_refl _) (by decide) (by decide);have h13:=d13 [1,0,2] [1,0,2] (by decide) (by decide);have k1:=c14a rfl rfl rfl rfl h20a;have k2:=c14a rfl rfl rfl rfl h20b;have k3:=c14a rfl rfl rfl rfl h20c;have k4:=c14p h9;have k5:=c14b rfl (AU lvR) rfl rfl h36;simp only[z14,cons_append,nil_append]at k1 k2 k3 k4 k5;simp only[autD,List.map_cons,List.map_nil]at k4;rw[Cg]at k5;have e0:(reC emptyR).head?=some (I 0):=rfl;have n0:(reC nothR).head?=some (I 1):=rfl;have n1:(reC nothR)[1]?=some (.sl false []):=rfl;have k6:∀ H,call Pg pol1 13 [nsAV [1,0,2],.sl true [I 1,I 0,I 2]] H=some (.bool true,H):=fun H=>by
  rw[CM (l:=[.sl false [I 1,I 0,I 2],.sl false [I 1,I 0,I 2]]) (H1:=H) rfl ?_ rfl]
  ·exact(h13 H).trans (by simp)
  ·rfl
 refine AR Tryz.func14 rfl rfl rfl rfl rfl rfl (fun _=>rfl) rfl rfl ?_ H;simp +contextual -implicitDefEqProofs (disch:=omega) only[Tryz.f14,dd14,go_sem,simprocAttr,mu14,↓AE,↓AC,↓AB,↓AA,h38a,h38b,k1,k2,k3,k4,k5,k6,e0,n0,n1,AK,AJ,AP,t8R,d9R,t9R,d10R,length_append,append_assoc,cons_append,nil_append];exact⟨_,rfl⟩
end
section
attribute [local go_sem] evBin
theorem Pd {H:List MB}{i n z:Nat}{rs xs:List Spans}{t:Bool} (hi:getRow H i=some (1,rs.map setAV,z)) (hz:z<=n) (hn:rs.length=n) (hr:n+xs.length<=4000000000) :
  evAppend Pg H 33 33 (.ms i 1 n 0 n) (.sl t (xs.map setAV))=some (.ms i 1 (n+xs.length) 0 (n+xs.length),H.set i (.row 1 ((rs++xs).map setAV) z)):=by
 have hs:srcElems Pg H 23 (.sl t (xs.map setAV))=some (xs.map setAV):=rfl;have ha:((xs.map setAV).all fun y=>decide (y.cells.length=1)&&y.cells.all AV.ok)=true:=by
  rw[List.all_eq_true];intro y hy;obtain⟨i,_,rfl⟩:=mem_map.1 hy;rfl
 rw[Ai (e:=23) (by kernel_rfl) (by kernel_rfl) (k:=1) (by kernel_rfl) (by_:=24) (by kernel_rfl) (ze:=.sl true []) (by kernel_rfl) rfl (by omega) hs ha hi (by rw[List.length_map];exact hn) hz (Ae (by simp;omega) (by omega))];rw[map_append,List.length_map]
theorem d34:∀(n:Nat) (t:Re),t.wt<=n->n<=1000000->∀ H,call Pg pol1 34 [reAV t] H=some (.sl false ((setsR t).map setAV),H)
 | 0,t,h,_=>by have:=t.wt_pos;omega
 | n+1,t,hw,hn=>fun H=>by
   obtain⟨op,set,kids,mn,mx,md,nn,neg⟩:=t;refine AR Tryz.func34 rfl rfl rfl rfl rfl rfl (fun _=>rfl) (by simp[AV.plain,AV.plainL,AO]) (by simp[AV.plain,AS]) ?_ H;have hpr:=AO (.mk op set kids mn mx md nn neg);obtain⟨B,hB⟩:∃ B,reC (.mk op set kids mn mx md nn neg)=B:=⟨_,rfl⟩;have hB8:B.length=8:=by rw[<- hB];exact AK _
   have hBt:B.take 8=B:=take_of_length_le (by omega);have hBo:B.all AV.ok=true:=by rw[<- hB];exact AP _
   have hB0:B[0]?=some (I op):=by rw[<- hB,Ab];rfl
   have hB1:B[1]?=some (.sl false (set.map spanAV)):=by rw[<- hB,Ab];rfl
   have hB2:B[2]?=some (.sl false (kids.map reAV)):=by rw[<- hB,Ab];rfl
   have hB0':B.head?=some (I op):=by rw[<- hB,Ab];rfl
   have hRB:reAV (.mk op set kids mn mx md nn neg)=.agg B:=by rw[<- hB]
   rw[hRB];rw[hB]at hpr;by_cases h1:op=1
   ·subst h1;simp only[setsR,if_true];simp +contextual -implicitDefEqProofs (disch:=omega) only[Tryz.f34,dd34,go_sem,simprocAttr,evAppend,map_append,mu34,↓AE,↓AC,↓AB,↓AA,hB8,hBt,hBo,hB0,hB0',hB1,hB2];exact⟨_,C1 (l:=[setAV set]) (by simp[AV.plainL,AV.plain,AF]) _⟩
   ·have hset:setsR (.mk op set kids mn mx md nn neg)=setsL kids:=by simp[setsR,h1]
    rw[hset];simp +contextual -implicitDefEqProofs (disch:=omega) only[Tryz.f34,dd34,go_sem,simprocAttr,evAppend,map_append,mu34,↓AE,↓AC,↓AB,↓AA,hB8,hBt,hBo,hB0,hB0',hB1,hB2,h1];refine AY (M:=(mskOf (pol1.mask 34) (pol1.gc 34) (pol1.acts 34) 0 5)) (by rfl) kids.length (fun i=>(⟨27,[(4,I i),(3,.ms 1 1 (setsL (kids.take i)).length 0 (setsL (kids.take i)).length),(1,.rf 0 1 0 0)],[.row 8 [.agg B] 0,.row 1 ((setsL (kids.take i)).map setAV) 0]⟩:St)) (fun _=>True) ?_ ?_ trivial _ ?_
    ·intro i hi _;obtain⟨k,hk⟩:∃ k,kids[i]?=some k:=⟨_,getElem?_eq_getElem hi⟩;have hk':(kids.map reAV)[i]?=some (reAV k):=by simp[hk]
     have hkm:=List.mem_of_getElem? hk;have hwk:=Re.wtL_mem hkm;have hwl:=Re.wtL_len kids;simp only[Re.wt]at hw;have ih:=d34 n k (by omega) (by omega);have hst:=GY hk;have hlt:(i:Int)<(kids.length:Int):=by omega
     have hb:(setsL kids).length<=1000000:=by
      have h1:=EM kids;have h2:=Re.sizeL_wt kids;omega
     have hle:(setsL (kids.take (i+1))).length<=(setsL kids).length:=by
      conv=>rhs;rw[<- List.take_append_drop (i+1) kids,Ds,length_append]
      omega
     rw[hst]at hle |-;rw[length_append]at hle;generalize setsL (kids.take i)=S at *;have a1:=fun b0:MB=>Pd (H:=[b0,.row 1 (S.map setAV) 0]) (i:=1) (n:=S.length) (xs:=setsR k) (t:=false) (rs:=S) (z:=0) rfl (Nat.zero_le _) rfl (by omega);simp only[List.set_cons_succ,List.set_cons_zero]at a1;have hwi:IntKind.i64.wrap ((i:Int)+1)=((i+1:Nat):Int):=by rw[i64_in]<;>omega
     simp +contextual -implicitDefEqProofs (disch:=omega) only[Tryz.f34,dd34,go_sem,simprocAttr,mu34,↓AE,↓AC,↓AB,↓AA,hB8,hBt,hBo,hB0,hB0',hB1,hB2,hk',ih,hlt,a1,hwi,AK,AJ,AP];rw[<- length_append];generalize S++setsR k=S2;exact AN (n:=2) rfl rfl (by rfl) (by rfl) (by simp[AV.underL,AV.under]) (by simp[MB.under,AV.underL,AV.under,AD _ _ hpr,AD _ _ (AS S2)])
    ·intro _;have hlt:¬ (kids.length:Int)<(kids.length:Int):=by omega
     rw[take_length];simp +contextual -implicitDefEqProofs (disch:=omega) only[Tryz.f34,dd34,go_sem,simprocAttr,evAppend,map_append,mu34,↓AE,↓AC,↓AB,↓AA,hB8,hBt,hBo,hB0,hB0',hB1,hB2,hlt];exact⟨_,Az (z:=0) rfl (by simp) (AS _)⟩
    ·exact AN (n:=2) rfl rfl (by rfl) (by rfl) (by simp[AV.underL,AV.under,setsL]) (by simp[setsL,MB.under,AV.underL,AV.under,AD _ _ hpr])
end
section
attribute [local go_sem] evAppend evBin map_append
theorem Hn {lim most:Nat}{xs:List Int}:∀ {f:Nat}{ts:List Re}{rows rows':List (List Nat)}{accs accs':List Bool},autoF lim most xs f ts rows accs=.ok rows' accs'->(∀ row∈rows,row.length=xs.length)->accs.length=rows.length->(∀ row∈rows',row.length=xs.length)/\accs'.length=rows'.length/\rows'.length<=rows.length+f
 | 0,ts,rows,rows',accs,accs',h,_,_=>by cases h
 | f+1,ts,rows,rows',accs,accs',h,hr,ha=>by
   simp only[autoF]at h;split at h
   ·cases h;exact⟨hr,ha,by omega⟩
   ·split at h
    ·cases h
    ·rename_i ts' row hrow;split at h
     ·cases h
     ·have hq0:∀ q∈rows++[row],q.length=xs.length:=fun q hq=>by
       rcases List.mem_append.1 hq with hq|hq
       ·exact hr q hq
       ·rw[List.mem_singleton.1 hq];have:=(JZ hrow).2.1
        simpa using this
      have:=Hn h hq0 (by simp[ha]);refine⟨this.1,this.2.1,?_⟩;have:=this.2.2;simp only[length_append,List.length_singleton]at this;omega
theorem La {L:List Spans}{E:List Int}{top:Int}{cls:List Spans} (h:splitA L E top=some cls):∀ c∈cls,c.length<=64:=by
 unfold splitA at h;split at h
 ·cases h
 ·rename_i hb;cases h;intro c hc;obtain⟨d,hd,rfl⟩:=mem_map.1 hc;exact Nat.le_of_not_lt fun h=>hb (.inr ⟨d,hd,h⟩)
def outR (C:List Spans):AOut->AV
 | .ok rows accs=>.tup [autD C rows accs,I 0,.bool false]
 | .more=>.tup [noD,I 0,.bool true]
 | .err=>.tup [noD,I 4,.bool false]
noncomputable def refA (p:Pat):AV:=if badR p.re=true then .tup [noD,I 4,.bool false] else
 match splitA (setsR p.re) (endsR (setsR p.re) (topI p.runes)) (topI p.runes) with
 | none=>.tup [noD,I 4,.bool false]
 | some C=>outR C (autoF 2000 60 (headX C) 2000 [nf p.re] [] [])
theorem Lh (p:Pat):AV.plain (refA p)=true:=by
 unfold refA;split
 ·rfl
 ·split
  ·rfl
  ·unfold outR;split
   ·simp[autD,AV.plain,AV.plainL,AS,Au,Ad]
   ·rfl
   ·rfl
theorem Pb (p:Pat):∃(C:List Spans) (rows:List (List Nat)) (accs:List Bool) (e:Int),autoA p=.tup [autD C rows accs,I e]:=by
 unfold autoA;split
 ·exact⟨[],[],[],_,rfl⟩
 ·split
  ·exact⟨[],[],[],_,rfl⟩
  ·split
   ·exact⟨[],[],[],_,rfl⟩
   ·unfold outD;split
    ·exact⟨_,_,_,_,rfl⟩
    ·exact⟨[],[],[],_,rfl⟩
theorem N7 {p:Pat} (hc:chkP p=0):refA p=.tup [noD,I 0,.bool true] ∨
  ∃(C:List Spans) (rows:List (List Nat)) (accs:List Bool) (e:Int),autoA p=.tup [autD C rows accs,I e]/\refA p=.tup [autD C rows accs,I e,.bool false]/\accs.length=rows.length/\rows.length<=1000000/\C.length<=1024/\(∀ row∈rows,row.length<=1024)/\∀ c∈C,c.length<=64:=by
 have eA:autoA p=match splitA (setsR p.re) (endsR (setsR p.re) (topI p.runes)) (topI p.runes) with
  | none=>.tup [noD,I 4]
  | some C=>if badR p.re=true then .tup [noD,I 4] else outD C (autoF 1024 1024 (headX C) 2000 [nf p.re] [] []):=by
  unfold autoA;exact if_neg (by rw[hc];simp)
 rw[eA];unfold refA;cases hb:badR p.re with
 | true=>
   right;cases splitA (setsR p.re) (endsR (setsR p.re) (topI p.runes)) (topI p.runes)<;>exact⟨[],[],[],4,rfl,rfl,rfl,by simp,by simp,by simp,by simp⟩
 | false=>
   cases hs:splitA (setsR p.re) (endsR (setsR p.re) (topI p.runes)) (topI p.runes) with
   | none=>right;exact⟨[],[],[],4,rfl,rfl,rfl,by simp,by simp,by simp,by simp⟩
   | some C=>
     have hC:=EJ hs;have hC2:=La hs;have hsim:=JK (lim:=2000) (by omega) (xs:=headX C) (f:=2000) (ts:=[nf p.re]) (rows:=[]) (accs:=[]);simp only[Bool.false_eq_true,if_false];cases ho:autoF 2000 60 (headX C) 2000 [nf p.re] [] [] with
     | err=>
       rw[hsim (by rw[ho];exact AOut.noConfusion),ho];right;exact⟨[],[],[],4,rfl,rfl,rfl,by simp,by simp,by simp,by simp⟩
     | more=>left;rfl
     | ok rows accs=>
       rw[hsim (by rw[ho];exact AOut.noConfusion),ho];obtain⟨h1,h2,h3⟩:=Hn ho (by simp) rfl;right;refine⟨C,rows,accs,0,rfl,rfl,h2,by simp at h3;omega,hC.1,fun row hr=>?_,hC2⟩;rw[h1 row hr];simp[headX,hC.1]
end
end Go.Ev
