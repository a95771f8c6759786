/- Functions of the program, each with what it computes; no further conditions. -/
import Derived.Test.YtjgmfjneajcbmaaA06
import Derived.Test.YtjgmfjneajcbmaaA18
import Derived.Test.YtjgmfjneajcbmaaA17
import Derived.Test.YtjgmfjneajcbmaaA15
import Derived.Test.YtjgmfjneajcbmaaA11
import Derived.Test.YtjgmfjneajcbmaaA12
set_option linter.unusedVariables false
set_option linter.unusedSimpArgs false
namespace Go.Ev
attribute [local go_sem] evAppend AV.cells frzB List.length_append List.map_append tySzE List.head?_drop Nat.mul_one sameAt_zero sameAt_two sameAt_three sameAt_four sameAt_five room_ok
section
open Go.Proofs Go.RowKit Go.IntWalk
set_option maxRecDepth 100000
set_option maxHeartbeats 8000000
theorem sameAt_l2 (b0 x x' a a' b:MB) (K:List MB):sameAt (K.length+1+1+1) (b0::x::(K++[a]++[b])) (b0::x'::(K++[a']++[b]))=true:=by
 have h:∀ x a,(b0::x::(K++[a]++[b]))[K.length+1+1+1]?=some b:=fun x a=>by
  rw[List.getElem?_cons_succ,List.getElem?_cons_succ]
  exact get_l2b K a b
 unfold sameAt
 rw[h,h]
 exact MB.beq_refl b
section
variable {l:List Int} (hl:∀ x∈l,In64 x) {uses:Int} {d:Nat} (hd:d≤5) (ht:TreeLaw l uses d) (hb:TreeB l uses d)
include hb
theorem repF_post {s:MS} (hp:Pre (5+3 * mA1 d) (3 * mS1 d) s):Post (5+3 * mA1 d) (3 * mS1 d) s (repF l uses (treeF l uses d) s).2:=by
 have hA:=mA1_pos d
 have hS:=mS1_pos d
 unfold repF
 simp only
 have p1:=nx_post l 12 s hp.c
 have p2:=p1.trans (nx_post l 2 _ p1.c)
 obtain⟨s3,e3,p3⟩:∃ s3,(if 0 < andI uses 8 then(if(nx l 4 (nx l 2 (nx l 12 s).2).2).1=0 then 2 else(nx l 2 (nx l 12 s).2).1,(nx l 4 (nx l 2 (nx l 12 s).2).2).2) else nx l 2 (nx l 12 s).2).2=s3∧Post (1+1+1) (0+0+0) s s3:=by
  split
  ·exact⟨_,rfl,p2.trans (nx_post l 4 _ p2.c)⟩
  ·exact⟨_,rfl,p2.up (by omega) (by omega)⟩
 rw[e3]
 have q:=hb s3 (hp.step p3 (by omega) (by omega))
 have r:=p3.trans q
 split
 ·exact(r.trans (setM_post l _ r.c)).up (by omega) (by omega)
 ·exact r.up (by omega) (by omega)
theorem capF_post {s:MS} (hp:Pre (5+3 * mA1 d) (3 * mS1 d) s):Post (5+3 * mA1 d) (3 * mS1 d) s (capF l (treeF l uses d) s).2:=by
 have hA:=mA1_pos d
 have hS:=mS1_pos d
 have hc:=hp.c
 unfold capF
 simp only
 obtain⟨b,s2,e2,p2,c2,hbb⟩:∃(b:Bool) (s2:MS),(if 4 < s.caps+1 then(true,s) else if 0 < s.caps then(decide ((nx l 9 s).1=0),(nx l 9 s).2) else(false,s))=(b,s2)∧Post 1 0 s s2∧s2.caps=s.caps∧(b=false→¬ 4 < s.caps+1):=by
  have p0:Post 1 0 s s:=⟨by omega,by omega,hc⟩
  split
  ·exact⟨_,_,rfl,p0,rfl,fun h=>by cases h⟩
  ·rename_i h4
   split
   ·exact⟨_,_,rfl,nx_post l 9 s hc,rfl,fun _=>h4⟩
   ·exact⟨_,_,rfl,p0,rfl,fun _=>h4⟩
 rw[e2]
 simp only
 have hm1:0 < max 1 s2.caps:=by omega
 have hv:=nx_val l hm1 s2
 have p3:=p2.trans (nx_post l (max 1 s2.caps) s2 p2.c)
 have c3:(nx l (max 1 s2.caps) s2).2.caps=s2.caps:=rfl
 obtain⟨m,s4,e4,p4,c4,hm⟩:∃(m:Int) (s4:MS),(if b=true then(1+(nx l (max 1 s2.caps) s2).1,(nx l (max 1 s2.caps) s2).2) else(s.caps+1,s2))=(m,s4)∧Post (1+1) (0+0) s s4∧s4.caps=s.caps∧(0≤m∧m≤4):=by
  cases b with
  | true=>exact⟨_,_,if_pos rfl,p3,by rw[c3,c2],by omega⟩
  | false=>
    have:=hbb rfl
    exact⟨_,_,if_neg Bool.false_ne_true,p2.up (by omega) (by omega),c2,by omega⟩
 rw[e4]
 simp only
 have p5:Post 2 0 s ⟨s4.at_,s4.left,max s4.caps m⟩:=⟨by have:=p4.a;simp only;omega,by have:=p4.l;simp only;omega,by simp only;omega⟩
 have q:=hb _ (hp.step p5 (by omega) (by omega))
 exact(p5.trans q).up (by omega) (by omega)
theorem step_post {s:MS} (k:Int) (hp:Pre (8+3 * mA1 d) (3 * mS1 d) s):Post (8+3 * mA1 d) (3 * mS1 d) s (treeStep l uses (treeF l uses d) k s).2:=by
 have hA:=mA1_pos d
 have hS:=mS1_pos d
 have hp5:Pre (5+3 * mA1 d) (3 * mS1 d) s:=⟨⟨hp.a.1,by have:=hp.a;omega⟩,hp.l,hp.c⟩
 have hlf:Post 1 0 s (leafF l k s).2:=by
  unfold leafF
  split
  ·exact⟨by simp only;omega,by simp only;omega,hp.c⟩
  ·exact setM_post l s hp.c
 have n6:=nx_post l 6 s hp.c
 have n3:=nx_post l 3 s hp.c
 have n32:=n3.trans (nx_post l 2 _ n3.c)
 have nc:=nx_post l s.caps s hp.c
 have hA2:Pre (mA1 d) (mS1 d) s:=hp.step (x:=0) (y:=0) ⟨by omega,by omega,hp.c⟩ (by omega) (by omega)
 unfold treeStep
 split
 ·exact hlf.up (by omega) (by omega)
 split
 ·exact(kidsF_post hb hp5).up (by omega) (by omega)
 split
 ·exact(kidsF_post hb hp5).up (by omega) (by omega)
 split
 ·exact(repF_post hb hp5).up (by omega) (by omega)
 split
 ·exact(capF_post hb hp5).up (by omega) (by omega)
 split
 ·exact n6.up (by omega) (by omega)
 split
 ·exact(n32.trans (hb _ (hp.step n32 (by omega) (by omega)))).up (by omega) (by omega)
 split
 ·exact(hb _ hA2).up (by omega) (by omega)
 split
 ·exact nc.up (by omega) (by omega)
 split
 ·have y:=nc.trans (hb _ (hp.step nc (by omega) (by omega)))
  exact(y.trans (hb _ (hp.step y (by omega) (by omega)))).up (by omega) (by omega)
 ·exact(setM_post l s hp.c).up (by omega) (by omega)
theorem treeB_succ:TreeB l uses (d+1):=by
 intro s hp
 have hA:=mA1_pos d
 have hS:=mS1_pos d
 simp only[mA1,mS1]at hp ⊢
 have hc:=hp.c
 have p0:Post 0 1 s ⟨s.at_,s.left - 1,s.caps⟩:=⟨by simp only;omega,by simp only;omega,hc⟩
 have p1:=p0.trans (nx_post l 20 _ p0.c)
 exact(p1.trans (step_post hb _ (hp.step p1 (by omega) (by omega)))).up (by omega) (by omega)
end
theorem treeB_zero {l:List Int} {uses:Int}:TreeB l uses 0:=by
 intro s hp
 have hc:=hp.c
 have p0:Post 0 1 s ⟨s.at_,s.left - 1,s.caps⟩:=⟨by simp only;omega,by simp only;omega,hc⟩
 have p1:=p0.trans (nx_post l 20 _ p0.c)
 simp only[treeF,mA1,mS1]
 unfold leafF
 split
 ·exact p1.up (by omega) (by omega)
 ·exact(p1.trans (setM_post l _ p1.c)).up (by omega) (by omega)
theorem leaf0 {l:List Int} (hl:∀ x∈l,In64 x) {uses:Int} (s:MS) (b0:MB) (K:List MB) (hp:Pre (mA1 0) (mS1 0) s) (k:Int) (s1:MS) (hk:nx l 20 ⟨s.at_,s.left - 1,s.caps⟩=(k,s1)) :
  call Try.prog pol1 57 [.rf 1 1 0 0,I ((0:Nat):Int)] (mH b0 l uses s K)=some (reAV (leafF l k s1).1,mH b0 l uses (leafF l k s1).2 K):=by
 simp only[mA1,mS1]at hp
 have hq:=nx_val l (n:=20) (by omega) ⟨s.at_,s.left - 1,s.caps⟩
 have p1:=nx_post l 20 ⟨s.at_,s.left - 1,s.caps⟩ hp.c
 obtain⟨pa,pl,pc⟩:=hp
 have h97:=fun K=>f97 l hl uses 20 (by omega) ⟨s.at_,s.left - 1,s.caps⟩ ⟨pa.1,by simp only;omega⟩ b0 K
 rw[hk]at hq p1 h97
 clear hk
 simp only at hq p1 h97
 obtain⟨qa,ql,qc⟩:=p1
 simp only at qa ql
 have hw:IntKind.i64.wrap (s.left - 1)=s.left - 1:=i64_in _ ⟨by omega,by omega⟩
 have h98:=fun K=>f98 l hl uses s1 ⟨by omega,by omega⟩ b0 K
 generalize hY:setM l s1=Y at *
 have fr:frzArgs pol1 57 0 [.rf 1 1 0 0,I ((0:Nat):Int)] (mH b0 l uses s K)=some ([.rf 1 1 0 0,I ((0:Nat):Int)],mH b0 l uses s K):=frzArgs_mix _ _ _ rfl
 by_cases hk0:k=0
 ·subst hk0
  rw[show leafF l 0 s1=(.mk 0 [] [] 0 0 0 0 false,s1) from if_pos rfl]
  refine call_run2 (pol:=pol1) Try.func57 rfl rfl rfl rfl fr ?_
  all_goals simp +contextual (disch:=omega) only[Try.f57,dd57,go_sem,simprocAttr,mu57,↓wrap_up,↓wrap_down,↓wrap_pred,↓wrap_sub_nat,h97,hw,get_last,set_last,get_l2a,get_l2b,set_l2a,set_l2b,sameAt_l2,evBin_and,evBin_add',evBin_sub',evBin_eql',evBin_neq',evBin_lss',evBin_gtr',reC_len,reC_ok,reC_take,reC_drop,List.append_nil]
  all_goals repeat' (first|intro _|apply And.intro|(unfold dOk;kernel_rfl)|exact St.beq_refl _|(show altO _ _ _ _=true;kernel_rfl)|(show (_ || _)=true;kernel_rfl)|(show (_ && _)=true;kernel_rfl))
  all_goals exact ret_node (by rfl) (by rfl) s s1 (ex1 ..) true true 0 [] [] 0 0 0 0 false
 ·rw[show leafF l k s1=Y from(if_neg hk0).trans hY]
  obtain⟨Y1,Y2⟩:=Y
  refine call_run2 (pol:=pol1) Try.func57 rfl rfl rfl rfl fr ?_
  all_goals simp +contextual (disch:=omega) only[Try.f57,dd57,go_sem,simprocAttr,mu57,↓wrap_up,↓wrap_down,↓wrap_pred,↓wrap_sub_nat,h97,hw,get_last,set_last,get_l2a,get_l2b,set_l2a,set_l2b,sameAt_l2,evBin_and,evBin_add',evBin_sub',evBin_eql',evBin_neq',evBin_lss',evBin_gtr',reC_len,reC_ok,reC_take,reC_drop,List.append_nil,h98]
  all_goals repeat' (first|intro _|apply And.intro|(unfold dOk;kernel_rfl)|exact St.beq_refl _|(show altO _ _ _ _=true;kernel_rfl)|(show (_ || _)=true;kernel_rfl)|(show (_ && _)=true;kernel_rfl))
  all_goals exact ret_mkx rfl rfl s _ (ex1 ..) (fun H=>fz_plain H (plain_re _)) (plain_re _)
theorem leafS {l:List Int} (hl:∀ x∈l,In64 x) {uses:Int} {d:Nat} (hd:d≤5) (s:MS) (b0:MB) (K:List MB) (hp:Pre (mA1 (d+1)) (mS1 (d+1)) s) (k:Int) (s1:MS) (hk:nx l 20 ⟨s.at_,s.left - 1,s.caps⟩=(k,s1)) (hc:s1.left < 3∨(l.length:Int) < s1.at_) :
  call Try.prog pol1 57 [.rf 1 1 0 0,I (((d+1):Nat):Int)] (mH b0 l uses s K)=some (reAV (leafF l k s1).1,mH b0 l uses (leafF l k s1).2 K):=by
 simp only[mA1,mS1]at hp
 have hA:=mA1_pos d
 have hS:=mS1_pos d
 have hq:=nx_val l (n:=20) (by omega) ⟨s.at_,s.left - 1,s.caps⟩
 have p1:=nx_post l 20 ⟨s.at_,s.left - 1,s.caps⟩ hp.c
 obtain⟨pa,pl,pc⟩:=hp
 have h97:=fun K=>f97 l hl uses 20 (by omega) ⟨s.at_,s.left - 1,s.caps⟩ ⟨pa.1,by simp only;omega⟩ b0 K
 rw[hk]at hq p1 h97
 clear hk
 simp only at hq p1 h97
 obtain⟨qa,ql,qc⟩:=p1
 simp only at qa ql
 have hw:IntKind.i64.wrap (s.left - 1)=s.left - 1:=i64_in _ ⟨by omega,by omega⟩
 have hc':s1.left < 3∨(¬ s1.left < 3∧(l.length:Int) < s1.at_):=by omega
 have h98:=fun K=>f98 l hl uses s1 ⟨by omega,by omega⟩ b0 K
 generalize hY:setM l s1=Y at *
 have fr:frzArgs pol1 57 0 [.rf 1 1 0 0,I (((d+1):Nat):Int)] (mH b0 l uses s K)=some ([.rf 1 1 0 0,I (((d+1):Nat):Int)],mH b0 l uses s K):=frzArgs_mix _ _ _ rfl
 by_cases hk0:k=0
 ·subst hk0
  rw[show leafF l 0 s1=(.mk 0 [] [] 0 0 0 0 false,s1) from if_pos rfl]
  refine call_run2 (pol:=pol1) Try.func57 rfl rfl rfl rfl fr ?_
  rcases hc' with hc1|⟨hc1,hc2⟩
  all_goals simp +contextual (disch:=omega) only[Try.f57,dd57,go_sem,simprocAttr,mu57,↓wrap_up,↓wrap_down,↓wrap_pred,↓wrap_sub_nat,h97,hw,get_last,set_last,get_l2a,get_l2b,set_l2a,set_l2b,sameAt_l2,evBin_and,evBin_add',evBin_sub',evBin_eql',evBin_neq',evBin_lss',evBin_gtr',reC_len,reC_ok,reC_take,reC_drop,List.append_nil]
  all_goals repeat' (first|intro _|apply And.intro|(unfold dOk;kernel_rfl)|exact St.beq_refl _|(show altO _ _ _ _=true;kernel_rfl)|(show (_ || _)=true;kernel_rfl)|(show (_ && _)=true;kernel_rfl))
  all_goals exact ret_node (by rfl) (by rfl) s s1 (ex1 ..) true true 0 [] [] 0 0 0 0 false
 ·rw[show leafF l k s1=Y from(if_neg hk0).trans hY]
  obtain⟨Y1,Y2⟩:=Y
  refine call_run2 (pol:=pol1) Try.func57 rfl rfl rfl rfl fr ?_
  rcases hc' with hc1|⟨hc1,hc2⟩
  all_goals simp +contextual (disch:=omega) only[Try.f57,dd57,go_sem,simprocAttr,mu57,↓wrap_up,↓wrap_down,↓wrap_pred,↓wrap_sub_nat,h97,hw,get_last,set_last,get_l2a,get_l2b,set_l2a,set_l2b,sameAt_l2,evBin_and,evBin_add',evBin_sub',evBin_eql',evBin_neq',evBin_lss',evBin_gtr',reC_len,reC_ok,reC_take,reC_drop,List.append_nil,h98]
  all_goals repeat' (first|intro _|apply And.intro|(unfold dOk;kernel_rfl)|exact St.beq_refl _|(show altO _ _ _ _=true;kernel_rfl)|(show (_ || _)=true;kernel_rfl)|(show (_ && _)=true;kernel_rfl))
  all_goals exact ret_mkx rfl rfl s _ (ex1 ..) (fun H=>fz_plain H (plain_re _)) (plain_re _)
theorem t44cat {l:List Int} (hl:∀ x∈l,In64 x) {uses:Int} {d:Nat} (hd:d≤5) (ht:TreeLaw l uses d) (hb:TreeB l uses d) (s:MS) (b0:MB) (K:List MB) (hp:Pre (mA1 (d+1)) (mS1 (d+1)) s) (k:Int) (s1:MS) (hk:nx l 20 ⟨s.at_,s.left - 1,s.caps⟩=(k,s1)) (hn1:¬ s1.left < 3) (hn2:¬ (l.length:Int) < s1.at_) (h:k < 5) :
  call Try.prog pol1 57 [.rf 1 1 0 0,I ((d+1:Nat):Int)] (mH b0 l uses s K)=some (reAV ((.mk 2 [] (kidsF l (treeF l uses d) s1).1 0 0 0 0 false,(kidsF l (treeF l uses d) s1).2):Re×MS).1,mH b0 l uses ((.mk 2 [] (kidsF l (treeF l uses d) s1).1 0 0 0 0 false,(kidsF l (treeF l uses d) s1).2):Re×MS).2 K):=by
 simp only[mA1,mS1]at hp
 have hA:=mA1_pos d
 have hS:=mS1_pos d
 have hq:=nx_val l (n:=20) (by omega) ⟨s.at_,s.left - 1,s.caps⟩
 have p1:=nx_post l 20 ⟨s.at_,s.left - 1,s.caps⟩ hp.c
 obtain⟨pa,pl,pc⟩:=hp
 have h97:=fun K=>f97 l hl uses 20 (by omega) ⟨s.at_,s.left - 1,s.caps⟩ ⟨pa.1,by simp only;omega⟩ b0 K
 rw[hk]at hq p1 h97
 clear hk
 simp only at hq p1 h97
 obtain⟨qa,ql,qc⟩:=p1
 simp only at qa ql
 have hw:IntKind.i64.wrap (s.left - 1)=s.left - 1:=i64_in _ ⟨by omega,by omega⟩
 have hp5:Pre (5+3 * mA1 d) (3 * mS1 d) s1:=⟨⟨by omega,by omega⟩,⟨by omega,by omega⟩,qc⟩
 have h99:=fun K=>f99 hl hd ht hb s1 hp5 b0 K
 generalize kidsF l (treeF l uses d) s1=Y at *
 obtain⟨Y1,Y2⟩:=Y
 simp only at h99 ⊢
 have fr:frzArgs pol1 57 0 [.rf 1 1 0 0,I ((d+1:Nat):Int)] (mH b0 l uses s K)=some ([.rf 1 1 0 0,I ((d+1:Nat):Int)],mH b0 l uses s K):=frzArgs_mix _ _ _ rfl
 refine call_run2 (pol:=pol1) Try.func57 rfl rfl rfl rfl fr ?_
 simp +contextual (disch:=omega) only[Try.f57,dd57,go_sem,simprocAttr,mu57,↓wrap_up,↓wrap_down,↓wrap_pred,↓wrap_sub_nat,h97,hw,get_last,set_last,get_l2a,get_l2b,set_l2a,set_l2b,sameAt_l2,evBin_and,evBin_add',evBin_sub',evBin_eql',evBin_neq',evBin_lss',evBin_gtr',reC_len,reC_ok,reC_take,reC_drop,List.append_nil,h99]
 repeat' (first|intro _|apply And.intro|(unfold dOk;kernel_rfl)|exact St.beq_refl _|(show altO _ _ _ _=true;kernel_rfl)|(show (_ || _)=true;kernel_rfl)|(show (_ && _)=true;kernel_rfl))
 exact ret_node (by rfl) (by rfl) s _ (ex1 ..) true false 2 [] Y1 0 0 0 0 false
theorem t44alt {l:List Int} (hl:∀ x∈l,In64 x) {uses:Int} {d:Nat} (hd:d≤5) (ht:TreeLaw l uses d) (hb:TreeB l uses d) (s:MS) (b0:MB) (K:List MB) (hp:Pre (mA1 (d+1)) (mS1 (d+1)) s) (k:Int) (s1:MS) (hk:nx l 20 ⟨s.at_,s.left - 1,s.caps⟩=(k,s1)) (hn1:¬ s1.left < 3) (hn2:¬ (l.length:Int) < s1.at_) (h:5≤k) (h2:k < 8) :
  call Try.prog pol1 57 [.rf 1 1 0 0,I ((d+1:Nat):Int)] (mH b0 l uses s K)=some (reAV ((.mk 3 [] (kidsF l (treeF l uses d) s1).1 0 0 0 0 false,(kidsF l (treeF l uses d) s1).2):Re×MS).1,mH b0 l uses ((.mk 3 [] (kidsF l (treeF l uses d) s1).1 0 0 0 0 false,(kidsF l (treeF l uses d) s1).2):Re×MS).2 K):=by
 simp only[mA1,mS1]at hp
 have hA:=mA1_pos d
 have hS:=mS1_pos d
 have hq:=nx_val l (n:=20) (by omega) ⟨s.at_,s.left - 1,s.caps⟩
 have p1:=nx_post l 20 ⟨s.at_,s.left - 1,s.caps⟩ hp.c
 obtain⟨pa,pl,pc⟩:=hp
 have h97:=fun K=>f97 l hl uses 20 (by omega) ⟨s.at_,s.left - 1,s.caps⟩ ⟨pa.1,by simp only;omega⟩ b0 K
 rw[hk]at hq p1 h97
 clear hk
 simp only at hq p1 h97
 obtain⟨qa,ql,qc⟩:=p1
 simp only at qa ql
 have hw:IntKind.i64.wrap (s.left - 1)=s.left - 1:=i64_in _ ⟨by omega,by omega⟩
 have hp5:Pre (5+3 * mA1 d) (3 * mS1 d) s1:=⟨⟨by omega,by omega⟩,⟨by omega,by omega⟩,qc⟩
 have h99:=fun K=>f99 hl hd ht hb s1 hp5 b0 K
 generalize kidsF l (treeF l uses d) s1=Y at *
 obtain⟨Y1,Y2⟩:=Y
 simp only at h99 ⊢
 have fr:frzArgs pol1 57 0 [.rf 1 1 0 0,I ((d+1:Nat):Int)] (mH b0 l uses s K)=some ([.rf 1 1 0 0,I ((d+1:Nat):Int)],mH b0 l uses s K):=frzArgs_mix _ _ _ rfl
 refine call_run2 (pol:=pol1) Try.func57 rfl rfl rfl rfl fr ?_
 simp +contextual (disch:=omega) only[Try.f57,dd57,go_sem,simprocAttr,mu57,↓wrap_up,↓wrap_down,↓wrap_pred,↓wrap_sub_nat,h97,hw,get_last,set_last,get_l2a,get_l2b,set_l2a,set_l2b,sameAt_l2,evBin_and,evBin_add',evBin_sub',evBin_eql',evBin_neq',evBin_lss',evBin_gtr',reC_len,reC_ok,reC_take,reC_drop,List.append_nil,h99]
 repeat' (first|intro _|apply And.intro|(unfold dOk;kernel_rfl)|exact St.beq_refl _|(show altO _ _ _ _=true;kernel_rfl)|(show (_ || _)=true;kernel_rfl)|(show (_ && _)=true;kernel_rfl))
 exact ret_node (by rfl) (by rfl) s _ (ex1 ..) true false 3 [] Y1 0 0 0 0 false
theorem t44rep {l:List Int} (hl:∀ x∈l,In64 x) {uses:Int} {d:Nat} (hd:d≤5) (ht:TreeLaw l uses d) (hb:TreeB l uses d) (s:MS) (b0:MB) (K:List MB) (hp:Pre (mA1 (d+1)) (mS1 (d+1)) s) (k:Int) (s1:MS) (hk:nx l 20 ⟨s.at_,s.left - 1,s.caps⟩=(k,s1)) (hn1:¬ s1.left < 3) (hn2:¬ (l.length:Int) < s1.at_) (h:8≤k) (h2:k < 12) :
  call Try.prog pol1 57 [.rf 1 1 0 0,I ((d+1:Nat):Int)] (mH b0 l uses s K)=some (reAV (repF l uses (treeF l uses d) s1).1,mH b0 l uses (repF l uses (treeF l uses d) s1).2 K):=by
 simp only[mA1,mS1]at hp
 have hA:=mA1_pos d
 have hS:=mS1_pos d
 have hq:=nx_val l (n:=20) (by omega) ⟨s.at_,s.left - 1,s.caps⟩
 have p1:=nx_post l 20 ⟨s.at_,s.left - 1,s.caps⟩ hp.c
 obtain⟨pa,pl,pc⟩:=hp
 have h97:=fun K=>f97 l hl uses 20 (by omega) ⟨s.at_,s.left - 1,s.caps⟩ ⟨pa.1,by simp only;omega⟩ b0 K
 rw[hk]at hq p1 h97
 clear hk
 simp only at hq p1 h97
 obtain⟨qa,ql,qc⟩:=p1
 simp only at qa ql
 have hw:IntKind.i64.wrap (s.left - 1)=s.left - 1:=i64_in _ ⟨by omega,by omega⟩
 have hp5:Pre (5+3 * mA1 d) (3 * mS1 d) s1:=⟨⟨by omega,by omega⟩,⟨by omega,by omega⟩,qc⟩
 have h100:=fun K=>f100 hl hd ht hb s1 hp5 b0 K
 generalize repF l uses (treeF l uses d) s1=Y at *
 obtain⟨Y1,Y2⟩:=Y
 simp only at h100 ⊢
 have fr:frzArgs pol1 57 0 [.rf 1 1 0 0,I ((d+1:Nat):Int)] (mH b0 l uses s K)=some ([.rf 1 1 0 0,I ((d+1:Nat):Int)],mH b0 l uses s K):=frzArgs_mix _ _ _ rfl
 refine call_run2 (pol:=pol1) Try.func57 rfl rfl rfl rfl fr ?_
 simp +contextual (disch:=omega) only[Try.f57,dd57,go_sem,simprocAttr,mu57,↓wrap_up,↓wrap_down,↓wrap_pred,↓wrap_sub_nat,h97,hw,get_last,set_last,get_l2a,get_l2b,set_l2a,set_l2b,sameAt_l2,evBin_and,evBin_add',evBin_sub',evBin_eql',evBin_neq',evBin_lss',evBin_gtr',reC_len,reC_ok,reC_take,reC_drop,List.append_nil,h100]
 repeat' (first|intro _|apply And.intro|(unfold dOk;kernel_rfl)|exact St.beq_refl _|(show altO _ _ _ _=true;kernel_rfl)|(show (_ || _)=true;kernel_rfl)|(show (_ && _)=true;kernel_rfl))
 exact ret_mkx rfl rfl s _ (ex1 ..) (fun H=>fz_plain H (plain_re _)) (plain_re _)
theorem t44cap12 {l:List Int} (hl:∀ x∈l,In64 x) {uses:Int} {d:Nat} (hd:d≤5) (ht:TreeLaw l uses d) (hb:TreeB l uses d) (s:MS) (b0:MB) (K:List MB) (hp:Pre (mA1 (d+1)) (mS1 (d+1)) s) (k:Int) (s1:MS) (hk:nx l 20 ⟨s.at_,s.left - 1,s.caps⟩=(k,s1)) (hn1:¬ s1.left < 3) (hn2:¬ (l.length:Int) < s1.at_) (h:k=12) (u:0 < andI uses 64) :
  call Try.prog pol1 57 [.rf 1 1 0 0,I ((d+1:Nat):Int)] (mH b0 l uses s K)=some (reAV (capF l (treeF l uses d) s1).1,mH b0 l uses (capF l (treeF l uses d) s1).2 K):=by
 simp only[mA1,mS1]at hp
 have hA:=mA1_pos d
 have hS:=mS1_pos d
 have hq:=nx_val l (n:=20) (by omega) ⟨s.at_,s.left - 1,s.caps⟩
 have p1:=nx_post l 20 ⟨s.at_,s.left - 1,s.caps⟩ hp.c
 obtain⟨pa,pl,pc⟩:=hp
 have h97:=fun K=>f97 l hl uses 20 (by omega) ⟨s.at_,s.left - 1,s.caps⟩ ⟨pa.1,by simp only;omega⟩ b0 K
 rw[hk]at hq p1 h97
 clear hk
 simp only at hq p1 h97
 obtain⟨qa,ql,qc⟩:=p1
 simp only at qa ql
 have hw:IntKind.i64.wrap (s.left - 1)=s.left - 1:=i64_in _ ⟨by omega,by omega⟩
 have hp5:Pre (5+3 * mA1 d) (3 * mS1 d) s1:=⟨⟨by omega,by omega⟩,⟨by omega,by omega⟩,qc⟩
 subst h
 have h101:=fun K=>f101 hl hd ht hb s1 hp5 b0 K
 generalize capF l (treeF l uses d) s1=Y at *
 obtain⟨Y1,Y2⟩:=Y
 simp only at h101 ⊢
 have fr:frzArgs pol1 57 0 [.rf 1 1 0 0,I ((d+1:Nat):Int)] (mH b0 l uses s K)=some ([.rf 1 1 0 0,I ((d+1:Nat):Int)],mH b0 l uses s K):=frzArgs_mix _ _ _ rfl
 refine call_run2 (pol:=pol1) Try.func57 rfl rfl rfl rfl fr ?_
 simp +contextual (disch:=omega) only[Try.f57,dd57,go_sem,simprocAttr,mu57,↓wrap_up,↓wrap_down,↓wrap_pred,↓wrap_sub_nat,h97,hw,get_last,set_last,get_l2a,get_l2b,set_l2a,set_l2b,sameAt_l2,evBin_and,evBin_add',evBin_sub',evBin_eql',evBin_neq',evBin_lss',evBin_gtr',reC_len,reC_ok,reC_take,reC_drop,List.append_nil,h101]
 repeat' (first|intro _|apply And.intro|(unfold dOk;kernel_rfl)|exact St.beq_refl _|(show altO _ _ _ _=true;kernel_rfl)|(show (_ || _)=true;kernel_rfl)|(show (_ && _)=true;kernel_rfl))
 exact ret_mkx rfl rfl s _ (ex1 ..) (fun H=>fz_plain H (plain_re _)) (plain_re _)
theorem t44cap13 {l:List Int} (hl:∀ x∈l,In64 x) {uses:Int} {d:Nat} (hd:d≤5) (ht:TreeLaw l uses d) (hb:TreeB l uses d) (s:MS) (b0:MB) (K:List MB) (hp:Pre (mA1 (d+1)) (mS1 (d+1)) s) (k:Int) (s1:MS) (hk:nx l 20 ⟨s.at_,s.left - 1,s.caps⟩=(k,s1)) (hn1:¬ s1.left < 3) (hn2:¬ (l.length:Int) < s1.at_) (h:k=13) (u:0 < andI uses 64) :
  call Try.prog pol1 57 [.rf 1 1 0 0,I ((d+1:Nat):Int)] (mH b0 l uses s K)=some (reAV (capF l (treeF l uses d) s1).1,mH b0 l uses (capF l (treeF l uses d) s1).2 K):=by
 simp only[mA1,mS1]at hp
 have hA:=mA1_pos d
 have hS:=mS1_pos d
 have hq:=nx_val l (n:=20) (by omega) ⟨s.at_,s.left - 1,s.caps⟩
 have p1:=nx_post l 20 ⟨s.at_,s.left - 1,s.caps⟩ hp.c
 obtain⟨pa,pl,pc⟩:=hp
 have h97:=fun K=>f97 l hl uses 20 (by omega) ⟨s.at_,s.left - 1,s.caps⟩ ⟨pa.1,by simp only;omega⟩ b0 K
 rw[hk]at hq p1 h97
 clear hk
 simp only at hq p1 h97
 obtain⟨qa,ql,qc⟩:=p1
 simp only at qa ql
 have hw:IntKind.i64.wrap (s.left - 1)=s.left - 1:=i64_in _ ⟨by omega,by omega⟩
 have hp5:Pre (5+3 * mA1 d) (3 * mS1 d) s1:=⟨⟨by omega,by omega⟩,⟨by omega,by omega⟩,qc⟩
 subst h
 have h101:=fun K=>f101 hl hd ht hb s1 hp5 b0 K
 generalize capF l (treeF l uses d) s1=Y at *
 obtain⟨Y1,Y2⟩:=Y
 simp only at h101 ⊢
 have fr:frzArgs pol1 57 0 [.rf 1 1 0 0,I ((d+1:Nat):Int)] (mH b0 l uses s K)=some ([.rf 1 1 0 0,I ((d+1:Nat):Int)],mH b0 l uses s K):=frzArgs_mix _ _ _ rfl
 refine call_run2 (pol:=pol1) Try.func57 rfl rfl rfl rfl fr ?_
 simp +contextual (disch:=omega) only[Try.f57,dd57,go_sem,simprocAttr,mu57,↓wrap_up,↓wrap_down,↓wrap_pred,↓wrap_sub_nat,h97,hw,get_last,set_last,get_l2a,get_l2b,set_l2a,set_l2b,sameAt_l2,evBin_and,evBin_add',evBin_sub',evBin_eql',evBin_neq',evBin_lss',evBin_gtr',reC_len,reC_ok,reC_take,reC_drop,List.append_nil,h101]
 repeat' (first|intro _|apply And.intro|(unfold dOk;kernel_rfl)|exact St.beq_refl _|(show altO _ _ _ _=true;kernel_rfl)|(show (_ || _)=true;kernel_rfl)|(show (_ && _)=true;kernel_rfl))
 exact ret_mkx rfl rfl s _ (ex1 ..) (fun H=>fz_plain H (plain_re _)) (plain_re _)
theorem t44as {l:List Int} (hl:∀ x∈l,In64 x) {uses:Int} {d:Nat} (hd:d≤5) (ht:TreeLaw l uses d) (hb:TreeB l uses d) (s:MS) (b0:MB) (K:List MB) (hp:Pre (mA1 (d+1)) (mS1 (d+1)) s) (k:Int) (s1:MS) (hk:nx l 20 ⟨s.at_,s.left - 1,s.caps⟩=(k,s1)) (hn1:¬ s1.left < 3) (hn2:¬ (l.length:Int) < s1.at_) (h:k=14) (u:0 < andI uses 16) :
  call Try.prog pol1 57 [.rf 1 1 0 0,I ((d+1:Nat):Int)] (mH b0 l uses s K)=some (reAV ((.mk 11 [] [] 0 0 0 (nx l 6 s1).1 false,(nx l 6 s1).2):Re×MS).1,mH b0 l uses ((.mk 11 [] [] 0 0 0 (nx l 6 s1).1 false,(nx l 6 s1).2):Re×MS).2 K):=by
 simp only[mA1,mS1]at hp
 have hA:=mA1_pos d
 have hS:=mS1_pos d
 have hq:=nx_val l (n:=20) (by omega) ⟨s.at_,s.left - 1,s.caps⟩
 have p1:=nx_post l 20 ⟨s.at_,s.left - 1,s.caps⟩ hp.c
 obtain⟨pa,pl,pc⟩:=hp
 have h97:=fun K=>f97 l hl uses 20 (by omega) ⟨s.at_,s.left - 1,s.caps⟩ ⟨pa.1,by simp only;omega⟩ b0 K
 rw[hk]at hq p1 h97
 clear hk
 simp only at hq p1 h97
 obtain⟨qa,ql,qc⟩:=p1
 simp only at qa ql
 have hw:IntKind.i64.wrap (s.left - 1)=s.left - 1:=i64_in _ ⟨by omega,by omega⟩
 have hp5:Pre (5+3 * mA1 d) (3 * mS1 d) s1:=⟨⟨by omega,by omega⟩,⟨by omega,by omega⟩,qc⟩
 subst h
 have h97b:=fun K=>f97 l hl uses 6 (by omega) s1 ⟨by omega,by omega⟩ b0 K
 generalize nx l 6 s1=Y at *
 obtain⟨Y1,Y2⟩:=Y
 simp only at h97b ⊢
 have fr:frzArgs pol1 57 0 [.rf 1 1 0 0,I ((d+1:Nat):Int)] (mH b0 l uses s K)=some ([.rf 1 1 0 0,I ((d+1:Nat):Int)],mH b0 l uses s K):=frzArgs_mix _ _ _ rfl
 refine call_run2 (pol:=pol1) Try.func57 rfl rfl rfl rfl fr ?_
 simp +contextual (disch:=omega) only[Try.f57,dd57,go_sem,simprocAttr,mu57,↓wrap_up,↓wrap_down,↓wrap_pred,↓wrap_sub_nat,h97,hw,get_last,set_last,get_l2a,get_l2b,set_l2a,set_l2b,sameAt_l2,evBin_and,evBin_add',evBin_sub',evBin_eql',evBin_neq',evBin_lss',evBin_gtr',reC_len,reC_ok,reC_take,reC_drop,List.append_nil,h97b]
 repeat' (first|intro _|apply And.intro|(unfold dOk;kernel_rfl)|exact St.beq_refl _|(show altO _ _ _ _=true;kernel_rfl)|(show (_ || _)=true;kernel_rfl)|(show (_ && _)=true;kernel_rfl))
 exact ret_node (by rfl) (by rfl) s _ (ex1 ..) true true 11 [] [] 0 0 0 Y1 false
theorem t44look {l:List Int} (hl:∀ x∈l,In64 x) {uses:Int} {d:Nat} (hd:d≤5) (ht:TreeLaw l uses d) (hb:TreeB l uses d) (s:MS) (b0:MB) (K:List MB) (hp:Pre (mA1 (d+1)) (mS1 (d+1)) s) (k:Int) (s1:MS) (hk:nx l 20 ⟨s.at_,s.left - 1,s.caps⟩=(k,s1)) (hn1:¬ s1.left < 3) (hn2:¬ (l.length:Int) < s1.at_) (h:k=15) (u:0 < andI uses 4) :
  call Try.prog pol1 57 [.rf 1 1 0 0,I ((d+1:Nat):Int)] (mH b0 l uses s K)=some (reAV ((.mk (7+(nx l 2 (nx l 3 s1).2).1) [] [(treeF l uses d (nx l 2 (nx l 3 s1).2).2).1] 0 0 0 0 ((nx l 3 s1).1 == 0),(treeF l uses d (nx l 2 (nx l 3 s1).2).2).2):Re×MS).1,mH b0 l uses ((.mk (7+(nx l 2 (nx l 3 s1).2).1) [] [(treeF l uses d (nx l 2 (nx l 3 s1).2).2).1] 0 0 0 0 ((nx l 3 s1).1 == 0),(treeF l uses d (nx l 2 (nx l 3 s1).2).2).2):Re×MS).2 K):=by
 simp only[mA1,mS1]at hp
 have hA:=mA1_pos d
 have hS:=mS1_pos d
 have hq:=nx_val l (n:=20) (by omega) ⟨s.at_,s.left - 1,s.caps⟩
 have p1:=nx_post l 20 ⟨s.at_,s.left - 1,s.caps⟩ hp.c
 obtain⟨pa,pl,pc⟩:=hp
 have h97:=fun K=>f97 l hl uses 20 (by omega) ⟨s.at_,s.left - 1,s.caps⟩ ⟨pa.1,by simp only;omega⟩ b0 K
 rw[hk]at hq p1 h97
 clear hk
 simp only at hq p1 h97
 obtain⟨qa,ql,qc⟩:=p1
 simp only at qa ql
 have hw:IntKind.i64.wrap (s.left - 1)=s.left - 1:=i64_in _ ⟨by omega,by omega⟩
 have hp5:Pre (5+3 * mA1 d) (3 * mS1 d) s1:=⟨⟨by omega,by omega⟩,⟨by omega,by omega⟩,qc⟩
 subst h
 have h97b:=fun K=>f97 l hl uses 3 (by omega) s1 ⟨by omega,by omega⟩ b0 K
 have r1:=nx_post l 3 s1 qc
 generalize nx l 3 s1=Y at *
 obtain⟨x,s2⟩:=Y
 simp only at h97b r1 ⊢
 have h97c:=fun K=>f97 l hl uses 2 (by omega) s2 ⟨by have:=r1.a;omega,by have:=r1.a;omega⟩ b0 K
 have hv:=nx_val l (n:=2) (by omega) s2
 have r2:=r1.trans (nx_post l 2 s2 r1.c)
 generalize nx l 2 s2=Y at *
 obtain⟨y,s3⟩:=Y
 simp only at h97c hv r2 ⊢
 have h44:=fun K=>ht s3 b0 K (hp5.step r2 (by omega) (by omega))
 generalize treeF l uses d s3=Y at *
 obtain⟨Y1,Y2⟩:=Y
 simp only at h44 ⊢
 have fr:frzArgs pol1 57 0 [.rf 1 1 0 0,I ((d+1:Nat):Int)] (mH b0 l uses s K)=some ([.rf 1 1 0 0,I ((d+1:Nat):Int)],mH b0 l uses s K):=frzArgs_mix _ _ _ rfl
 refine call_run2 (pol:=pol1) Try.func57 rfl rfl rfl rfl fr ?_
 simp +contextual (disch:=omega) only[Try.f57,dd57,go_sem,simprocAttr,mu57,↓wrap_up,↓wrap_down,↓wrap_pred,↓wrap_sub_nat,h97,hw,get_last,set_last,get_l2a,get_l2b,set_l2a,set_l2b,sameAt_l2,evBin_and,evBin_add',evBin_sub',evBin_eql',evBin_neq',evBin_lss',evBin_gtr',reC_len,reC_ok,reC_take,reC_drop,List.append_nil,h97b,h97c,h44]
 repeat' (first|intro _|apply And.intro|(unfold dOk;kernel_rfl)|exact St.beq_refl _|(show altO _ _ _ _=true;kernel_rfl)|(show (_ || _)=true;kernel_rfl)|(show (_ && _)=true;kernel_rfl))
 exact ret_node (by rfl) (by rfl) s _ (ex1 ..) true true (7+y) [] [Y1] 0 0 0 0 (x == 0)
theorem t44atom {l:List Int} (hl:∀ x∈l,In64 x) {uses:Int} {d:Nat} (hd:d≤5) (ht:TreeLaw l uses d) (hb:TreeB l uses d) (s:MS) (b0:MB) (K:List MB) (hp:Pre (mA1 (d+1)) (mS1 (d+1)) s) (k:Int) (s1:MS) (hk:nx l 20 ⟨s.at_,s.left - 1,s.caps⟩=(k,s1)) (hn1:¬ s1.left < 3) (hn2:¬ (l.length:Int) < s1.at_) (h:k=16) (u:0 < andI uses 8) :
  call Try.prog pol1 57 [.rf 1 1 0 0,I ((d+1:Nat):Int)] (mH b0 l uses s K)=some (reAV ((.mk 9 [] [(treeF l uses d s1).1] 0 0 0 0 false,(treeF l uses d s1).2):Re×MS).1,mH b0 l uses ((.mk 9 [] [(treeF l uses d s1).1] 0 0 0 0 false,(treeF l uses d s1).2):Re×MS).2 K):=by
 simp only[mA1,mS1]at hp
 have hA:=mA1_pos d
 have hS:=mS1_pos d
 have hq:=nx_val l (n:=20) (by omega) ⟨s.at_,s.left - 1,s.caps⟩
 have p1:=nx_post l 20 ⟨s.at_,s.left - 1,s.caps⟩ hp.c
 obtain⟨pa,pl,pc⟩:=hp
 have h97:=fun K=>f97 l hl uses 20 (by omega) ⟨s.at_,s.left - 1,s.caps⟩ ⟨pa.1,by simp only;omega⟩ b0 K
 rw[hk]at hq p1 h97
 clear hk
 simp only at hq p1 h97
 obtain⟨qa,ql,qc⟩:=p1
 simp only at qa ql
 have hw:IntKind.i64.wrap (s.left - 1)=s.left - 1:=i64_in _ ⟨by omega,by omega⟩
 have hp5:Pre (5+3 * mA1 d) (3 * mS1 d) s1:=⟨⟨by omega,by omega⟩,⟨by omega,by omega⟩,qc⟩
 subst h
 have h44:=fun K=>ht s1 b0 K ⟨⟨by omega,by omega⟩,⟨by omega,by omega⟩,qc⟩
 generalize treeF l uses d s1=Y at *
 obtain⟨Y1,Y2⟩:=Y
 simp only at h44 ⊢
 have fr:frzArgs pol1 57 0 [.rf 1 1 0 0,I ((d+1:Nat):Int)] (mH b0 l uses s K)=some ([.rf 1 1 0 0,I ((d+1:Nat):Int)],mH b0 l uses s K):=frzArgs_mix _ _ _ rfl
 refine call_run2 (pol:=pol1) Try.func57 rfl rfl rfl rfl fr ?_
 simp +contextual (disch:=omega) only[Try.f57,dd57,go_sem,simprocAttr,mu57,↓wrap_up,↓wrap_down,↓wrap_pred,↓wrap_sub_nat,h97,hw,get_last,set_last,get_l2a,get_l2b,set_l2a,set_l2b,sameAt_l2,evBin_and,evBin_add',evBin_sub',evBin_eql',evBin_neq',evBin_lss',evBin_gtr',reC_len,reC_ok,reC_take,reC_drop,List.append_nil,h44]
 repeat' (first|intro _|apply And.intro|(unfold dOk;kernel_rfl)|exact St.beq_refl _|(show altO _ _ _ _=true;kernel_rfl)|(show (_ || _)=true;kernel_rfl)|(show (_ && _)=true;kernel_rfl))
 exact ret_node (by rfl) (by rfl) s _ (ex1 ..) true true 9 [] [Y1] 0 0 0 0 false
theorem t44ref {l:List Int} (hl:∀ x∈l,In64 x) {uses:Int} {d:Nat} (hd:d≤5) (ht:TreeLaw l uses d) (hb:TreeB l uses d) (s:MS) (b0:MB) (K:List MB) (hp:Pre (mA1 (d+1)) (mS1 (d+1)) s) (k:Int) (s1:MS) (hk:nx l 20 ⟨s.at_,s.left - 1,s.caps⟩=(k,s1)) (hn1:¬ s1.left < 3) (hn2:¬ (l.length:Int) < s1.at_) (h:k=17) (u:0 < andI uses 1) (c:0 < s1.caps) :
  call Try.prog pol1 57 [.rf 1 1 0 0,I ((d+1:Nat):Int)] (mH b0 l uses s K)=some (reAV ((.mk 6 [] [] 0 0 0 (1+(nx l s1.caps s1).1) false,(nx l s1.caps s1).2):Re×MS).1,mH b0 l uses ((.mk 6 [] [] 0 0 0 (1+(nx l s1.caps s1).1) false,(nx l s1.caps s1).2):Re×MS).2 K):=by
 simp only[mA1,mS1]at hp
 have hA:=mA1_pos d
 have hS:=mS1_pos d
 have hq:=nx_val l (n:=20) (by omega) ⟨s.at_,s.left - 1,s.caps⟩
 have p1:=nx_post l 20 ⟨s.at_,s.left - 1,s.caps⟩ hp.c
 obtain⟨pa,pl,pc⟩:=hp
 have h97:=fun K=>f97 l hl uses 20 (by omega) ⟨s.at_,s.left - 1,s.caps⟩ ⟨pa.1,by simp only;omega⟩ b0 K
 rw[hk]at hq p1 h97
 clear hk
 simp only at hq p1 h97
 obtain⟨qa,ql,qc⟩:=p1
 simp only at qa ql
 have hw:IntKind.i64.wrap (s.left - 1)=s.left - 1:=i64_in _ ⟨by omega,by omega⟩
 have hp5:Pre (5+3 * mA1 d) (3 * mS1 d) s1:=⟨⟨by omega,by omega⟩,⟨by omega,by omega⟩,qc⟩
 subst h
 have h97b:=fun K=>f97 l hl uses s1.caps (by omega) s1 ⟨by omega,by omega⟩ b0 K
 have hv:=nx_val l c s1
 generalize nx l s1.caps s1=Y at *
 obtain⟨Y1,Y2⟩:=Y
 simp only at h97b hv ⊢
 have fr:frzArgs pol1 57 0 [.rf 1 1 0 0,I ((d+1:Nat):Int)] (mH b0 l uses s K)=some ([.rf 1 1 0 0,I ((d+1:Nat):Int)],mH b0 l uses s K):=frzArgs_mix _ _ _ rfl
 refine call_run2 (pol:=pol1) Try.func57 rfl rfl rfl rfl fr ?_
 simp +contextual (disch:=omega) only[Try.f57,dd57,go_sem,simprocAttr,mu57,↓wrap_up,↓wrap_down,↓wrap_pred,↓wrap_sub_nat,h97,hw,get_last,set_last,get_l2a,get_l2b,set_l2a,set_l2b,sameAt_l2,evBin_and,evBin_add',evBin_sub',evBin_eql',evBin_neq',evBin_lss',evBin_gtr',reC_len,reC_ok,reC_take,reC_drop,List.append_nil,h97b]
 repeat' (first|intro _|apply And.intro|(unfold dOk;kernel_rfl)|exact St.beq_refl _|(show altO _ _ _ _=true;kernel_rfl)|(show (_ || _)=true;kernel_rfl)|(show (_ && _)=true;kernel_rfl))
 exact ret_node (by rfl) (by rfl) s _ (ex1 ..) true true 6 [] [] 0 0 0 (1+Y1) false
theorem t44cond {l:List Int} (hl:∀ x∈l,In64 x) {uses:Int} {d:Nat} (hd:d≤5) (ht:TreeLaw l uses d) (hb:TreeB l uses d) (s:MS) (b0:MB) (K:List MB) (hp:Pre (mA1 (d+1)) (mS1 (d+1)) s) (k:Int) (s1:MS) (hk:nx l 20 ⟨s.at_,s.left - 1,s.caps⟩=(k,s1)) (hn1:¬ s1.left < 3) (hn2:¬ (l.length:Int) < s1.at_) (h:k=18) (u:0 < andI uses 2) (c:0 < s1.caps) :
  call Try.prog pol1 57 [.rf 1 1 0 0,I ((d+1:Nat):Int)] (mH b0 l uses s K)=some (reAV ((.mk 10 [] [(treeF l uses d (nx l s1.caps s1).2).1,(treeF l uses d (treeF l uses d (nx l s1.caps s1).2).2).1] 0 0 0 (1+(nx l s1.caps s1).1) false,(treeF l uses d (treeF l uses d (nx l s1.caps s1).2).2).2):Re×MS).1,mH b0 l uses ((.mk 10 [] [(treeF l uses d (nx l s1.caps s1).2).1,(treeF l uses d (treeF l uses d (nx l s1.caps s1).2).2).1] 0 0 0 (1+(nx l s1.caps s1).1) false,(treeF l uses d (treeF l uses d (nx l s1.caps s1).2).2).2):Re×MS).2 K):=by
 simp only[mA1,mS1]at hp
 have hA:=mA1_pos d
 have hS:=mS1_pos d
 have hq:=nx_val l (n:=20) (by omega) ⟨s.at_,s.left - 1,s.caps⟩
 have p1:=nx_post l 20 ⟨s.at_,s.left - 1,s.caps⟩ hp.c
 obtain⟨pa,pl,pc⟩:=hp
 have h97:=fun K=>f97 l hl uses 20 (by omega) ⟨s.at_,s.left - 1,s.caps⟩ ⟨pa.1,by simp only;omega⟩ b0 K
 rw[hk]at hq p1 h97
 clear hk
 simp only at hq p1 h97
 obtain⟨qa,ql,qc⟩:=p1
 simp only at qa ql
 have hw:IntKind.i64.wrap (s.left - 1)=s.left - 1:=i64_in _ ⟨by omega,by omega⟩
 have hp5:Pre (5+3 * mA1 d) (3 * mS1 d) s1:=⟨⟨by omega,by omega⟩,⟨by omega,by omega⟩,qc⟩
 subst h
 have h97b:=fun K=>f97 l hl uses s1.caps (by omega) s1 ⟨by omega,by omega⟩ b0 K
 have hv:=nx_val l c s1
 have r1:=nx_post l s1.caps s1 qc
 generalize nx l s1.caps s1=Y at *
 obtain⟨x,s2⟩:=Y
 simp only at h97b hv r1 ⊢
 have pr1:Pre (mA1 d) (mS1 d) s2:=hp5.step r1 (by omega) (by omega)
 have h44a:=fun K=>ht s2 b0 K pr1
 have r2:=r1.trans (hb s2 pr1)
 generalize treeF l uses d s2=Y at *
 obtain⟨y,s3⟩:=Y
 simp only at h44a r2 ⊢
 have h44b:=fun K=>ht s3 b0 K (hp5.step r2 (by omega) (by omega))
 generalize treeF l uses d s3=Y at *
 obtain⟨Y1,Y2⟩:=Y
 simp only at h44b ⊢
 have fr:frzArgs pol1 57 0 [.rf 1 1 0 0,I ((d+1:Nat):Int)] (mH b0 l uses s K)=some ([.rf 1 1 0 0,I ((d+1:Nat):Int)],mH b0 l uses s K):=frzArgs_mix _ _ _ rfl
 refine call_run2 (pol:=pol1) Try.func57 rfl rfl rfl rfl fr ?_
 simp +contextual (disch:=omega) only[Try.f57,dd57,go_sem,simprocAttr,mu57,↓wrap_up,↓wrap_down,↓wrap_pred,↓wrap_sub_nat,h97,hw,get_last,set_last,get_l2a,get_l2b,set_l2a,set_l2b,sameAt_l2,evBin_and,evBin_add',evBin_sub',evBin_eql',evBin_neq',evBin_lss',evBin_gtr',reC_len,reC_ok,reC_take,reC_drop,List.append_nil,h97b,h44a,h44b]
 repeat' (first|intro _|apply And.intro|(unfold dOk;kernel_rfl)|exact St.beq_refl _|(show altO _ _ _ _=true;kernel_rfl)|(show (_ || _)=true;kernel_rfl)|(show (_ && _)=true;kernel_rfl))
 exact ret_node (by rfl) (by rfl) s _ (ex2 ..) true true 10 [] [y,Y1] 0 0 0 (1+x) false
theorem t44else {l:List Int} (hl:∀ x∈l,In64 x) {uses:Int} {d:Nat} (hd:d≤5) (ht:TreeLaw l uses d) (hb:TreeB l uses d) (s:MS) (b0:MB) (K:List MB) (hp:Pre (mA1 (d+1)) (mS1 (d+1)) s) (k:Int) (s1:MS) (hk:nx l 20 ⟨s.at_,s.left - 1,s.caps⟩=(k,s1)) (hn1:¬ s1.left < 3) (hn2:¬ (l.length:Int) < s1.at_) (h:12≤k) (n12:¬ (k=12∧0 < andI uses 64)) (n13:¬ (k=13∧0 < andI uses 64)) (n14:¬ (k=14∧0 < andI uses 16)) (n15:¬ (k=15∧0 < andI uses 4)) (n16:¬ (k=16∧0 < andI uses 8)) (n17:¬ (k=17∧0 < andI uses 1∧0 < s1.caps)) (n18:¬ (k=18∧0 < andI uses 2∧0 < s1.caps)) :
  call Try.prog pol1 57 [.rf 1 1 0 0,I ((d+1:Nat):Int)] (mH b0 l uses s K)=some (reAV (setM l s1).1,mH b0 l uses (setM l s1).2 K):=by
 simp only[mA1,mS1]at hp
 have hA:=mA1_pos d
 have hS:=mS1_pos d
 have hq:=nx_val l (n:=20) (by omega) ⟨s.at_,s.left - 1,s.caps⟩
 have p1:=nx_post l 20 ⟨s.at_,s.left - 1,s.caps⟩ hp.c
 obtain⟨pa,pl,pc⟩:=hp
 have h97:=fun K=>f97 l hl uses 20 (by omega) ⟨s.at_,s.left - 1,s.caps⟩ ⟨pa.1,by simp only;omega⟩ b0 K
 rw[hk]at hq p1 h97
 clear hk
 simp only at hq p1 h97
 obtain⟨qa,ql,qc⟩:=p1
 simp only at qa ql
 have hw:IntKind.i64.wrap (s.left - 1)=s.left - 1:=i64_in _ ⟨by omega,by omega⟩
 have hp5:Pre (5+3 * mA1 d) (3 * mS1 d) s1:=⟨⟨by omega,by omega⟩,⟨by omega,by omega⟩,qc⟩
 have h98:=fun K=>f98 l hl uses s1 ⟨by omega,by omega⟩ b0 K
 generalize setM l s1=Y at *
 obtain⟨Y1,Y2⟩:=Y
 simp only at h98 ⊢
 have fr:frzArgs pol1 57 0 [.rf 1 1 0 0,I ((d+1:Nat):Int)] (mH b0 l uses s K)=some ([.rf 1 1 0 0,I ((d+1:Nat):Int)],mH b0 l uses s K):=frzArgs_mix _ _ _ rfl
 refine call_run2 (pol:=pol1) Try.func57 rfl rfl rfl rfl fr ?_
 simp +contextual (disch:=omega) only[Try.f57,dd57,go_sem,simprocAttr,mu57,↓wrap_up,↓wrap_down,↓wrap_pred,↓wrap_sub_nat,h97,hw,get_last,set_last,get_l2a,get_l2b,set_l2a,set_l2b,sameAt_l2,evBin_and,evBin_add',evBin_sub',evBin_eql',evBin_neq',evBin_lss',evBin_gtr',reC_len,reC_ok,reC_take,reC_drop,List.append_nil,h98]
 repeat' (first|intro _|apply And.intro|(unfold dOk;kernel_rfl)|exact St.beq_refl _|(show altO _ _ _ _=true;kernel_rfl)|(show (_ || _)=true;kernel_rfl)|(show (_ && _)=true;kernel_rfl))
 all_goals exact ret_mkx rfl rfl s _ (ex1 ..) (fun H=>fz_plain H (plain_re _)) (plain_re _)
theorem f44_succ {l:List Int} (hl:∀ x∈l,In64 x) {uses:Int} {d:Nat} (hd:d≤5) (ht:TreeLaw l uses d) (hb:TreeB l uses d):TreeLaw l uses (d+1):=by
 intro s b0 K hp
 simp only[treeF]
 generalize hk:nx l 20 ⟨s.at_,s.left - 1,s.caps⟩=Y
 obtain⟨k,s1⟩:=Y
 simp only
 have hq:=nx_val l (n:=20) (by omega) ⟨s.at_,s.left - 1,s.caps⟩
 rw[hk]at hq
 simp only at hq
 unfold treeStep
 by_cases hc:s1.left < 3∨(l.length:Int) < s1.at_
 ·rw[if_pos hc];exact leafS hl hd s b0 K hp k s1 hk hc
 rw[if_neg hc]
 have hn1:¬ s1.left < 3:=fun h=>hc (.inl h)
 have hn2:¬ (l.length:Int) < s1.at_:=fun h=>hc (.inr h)
 by_cases h5:k < 5
 ·rw[if_pos h5];exact t44cat hl hd ht hb s b0 K hp k s1 hk hn1 hn2 h5
 rw[if_neg h5]
 by_cases h8:k < 8
 ·rw[if_pos h8];exact t44alt hl hd ht hb s b0 K hp k s1 hk hn1 hn2 (by omega) h8
 rw[if_neg h8]
 by_cases h12:k < 12
 ·rw[if_pos h12];exact t44rep hl hd ht hb s b0 K hp k s1 hk hn1 hn2 (by omega) h12
 rw[if_neg h12]
 by_cases c1:(k=12∨k=13)∧0 < andI uses 64
 ·rw[if_pos c1]
  rcases c1.1 with e|e
  ·exact t44cap12 hl hd ht hb s b0 K hp k s1 hk hn1 hn2 e c1.2
  ·exact t44cap13 hl hd ht hb s b0 K hp k s1 hk hn1 hn2 e c1.2
 rw[if_neg c1]
 by_cases c2:k=14∧0 < andI uses 16
 ·rw[if_pos c2];exact t44as hl hd ht hb s b0 K hp k s1 hk hn1 hn2 c2.1 c2.2
 rw[if_neg c2]
 by_cases c3:k=15∧0 < andI uses 4
 ·rw[if_pos c3];exact t44look hl hd ht hb s b0 K hp k s1 hk hn1 hn2 c3.1 c3.2
 rw[if_neg c3]
 by_cases c4:k=16∧0 < andI uses 8
 ·rw[if_pos c4];exact t44atom hl hd ht hb s b0 K hp k s1 hk hn1 hn2 c4.1 c4.2
 rw[if_neg c4]
 by_cases c5:k=17∧0 < andI uses 1∧0 < s1.caps
 ·rw[if_pos c5];exact t44ref hl hd ht hb s b0 K hp k s1 hk hn1 hn2 c5.1 c5.2.1 c5.2.2
 rw[if_neg c5]
 by_cases c6:k=18∧0 < andI uses 2∧0 < s1.caps
 ·rw[if_pos c6];exact t44cond hl hd ht hb s b0 K hp k s1 hk hn1 hn2 c6.1 c6.2.1 c6.2.2
 rw[if_neg c6]
 exact t44else hl hd ht hb s b0 K hp k s1 hk hn1 hn2 (by omega) (fun h=>c1 ⟨.inl h.1,h.2⟩) (fun h=>c1 ⟨.inr h.1,h.2⟩) c2 c3 c4 c5 c6
theorem tree_all {l:List Int} (hl:∀ x∈l,In64 x) (uses:Int):∀ d,d≤6→TreeLaw l uses d∧TreeB l uses d
 | 0,_=>⟨fun s b0 K hp=>by
    simp only[treeF]
    generalize hk:nx l 20 ⟨s.at_,s.left - 1,s.caps⟩=Y
    obtain⟨k,s1⟩:=Y
    exact leaf0 hl s b0 K hp k s1 hk,treeB_zero⟩
 | d+1,h=>by
   obtain⟨h1,h2⟩:=tree_all hl uses d (by omega)
   exact⟨f44_succ hl (by omega) h1 h2,treeB_succ h2⟩
theorem f11m (l:List Int) (hl:∀ x∈l,In64 x) (uses most:Int) (hmo:0≤most∧most≤1000) (H:List MB) :
  call Try.prog pol1 37 [.sl false (l.map I),I uses,I most] H=some (patAV ⟨(treeF l uses 5 ⟨0,most,0⟩).1,(treeF l uses 5 ⟨0,most,0⟩).2.caps,false⟩,H):=by
 refine call_run Try.func37 rfl rfl rfl rfl rfl rfl (fun _=>rfl) (by simp[AV.plain,AV.plainL,plain_ints]) (show AV.plain (patAV _)=true from plain_patC _) ?_ H
 have hpre:Pre (mA1 5) (mS1 5) ⟨0,most,0⟩:=by
  have h1:mS1 5=364:=rfl
  have h2:mA1 5=1818:=rfl
  exact⟨by simp only[h2];omega,by simp only[h1];omega,by simp only[];omega⟩
 have h44:∀ b0,call Try.prog pol1 57 [.rf 1 1 0 0,I 5] [b0,.row 5 [.agg [.sl false (l.map I),I 0,I uses,I most,I 0]] 0]=some (reAV (treeF l uses 5 ⟨0,most,0⟩).1,mH b0 l uses (treeF l uses 5 ⟨0,most,0⟩).2 []):=fun b0=>(tree_all hl uses 5 (by omega)).1 ⟨0,most,0⟩ b0 [] hpre
 generalize treeF l uses 5 ⟨0,most,0⟩=Y at *
 obtain⟨r,s⟩:=Y
 simp only at h44 ⊢
 have htk8:∀ r l,List.take 8 (reC r++l)=reC r:=fun r l=>by
  have:=reC_len r
  rw[List.take_append_of_le_length (by omega)];exact List.take_of_length_le (by omega)
 have hdr9:∀ r (a b:AV),List.drop 9 (reC r++[a,b])=[b]:=fun r a b=>by
  have:=reC_len r
  rw[show (9:Nat)=8+1 from rfl,← List.drop_drop,List.drop_append_of_le_length (by omega),reC_drop];rfl
 have ht10:∀ a b:AV,List.take 10 (reC r++[a,b])=reC r++[a,b]:=fun a b=>List.take_of_length_le (by simp[reC_len])
 simp +contextual (disch:=omega) only[Try.f37,dd37,go_sem,simprocAttr,evBin,mu37,↓wrap_up,↓wrap_down,↓wrap_pred,↓wrap_sub_nat,h44,htk8,hdr9,ht10,reC_len,reC_ok,reC_take,reC_drop,List.all_append]
 repeat' (first|intro _|apply And.intro|(unfold dOk;kernel_rfl)|exact St.beq_refl _|(show altO _ _ _ _=true;kernel_rfl)|(show (_ || _)=true;kernel_rfl)|(show (_ && _)=true;kernel_rfl))
 exact⟨_,fz_plain _ (plain_patC ⟨r,s.caps,false⟩)⟩
end
section
open Go.Proofs Go.RowKit Go.IntWalk
set_option maxRecDepth 100000
set_option maxHeartbeats 8000000
structure FitsOk (cap:Bool) (re:Re) (caps:Int) (t:List Int):Prop where
 val:validP ⟨re,caps,false⟩=0
 gen:genG cap re=true
 len:lenG re≤727
 wt2:re.wt≤850
 tl:t.length≤12
 txt:∀ x∈t,0≤x∧x≤255
 cost:∀ i,i≤t.length→costR t re i≤3000
theorem FitsOk.wt {cap:Bool} {re:Re} {caps:Int} {t:List Int} (h:FitsOk cap re caps t):re.wt≤1000000:=Nat.le_trans h.wt2 (by decide)
theorem fits_empty (cap:Bool) {caps:Int} (hc:0≤caps∧caps≤4):FitsOk cap (.mk 0 [] [] 0 0 0 0 false) caps []:=by
 refine⟨?_,by simp[genG,genL],by simp[lenG,lenL],by simp[Re.wt,Re.wtL],by simp,by simp,fun i _=>by simp[costR]⟩
 simp[validP,Re.size,Re.sizeL,Re.depth,Re.depthL,wholeG,wholeL,formedG,kidsG,spansG,topI]
 omega
theorem one123 (cap:Bool) (re:Re) (n:Nat) (t:List Int) (at_:Nat) (hw:re.wt≤1000000) (hn:n≤4) (hl:t.length≤12) (ht:∀ x∈t,0≤x∧x≤255) (hg:genG cap re=true) (ha:at_≤t.length) :
  ∃(out:AV) (k e:Int),AV.plain out=true∧(e=0→validP ⟨re,n,false⟩=0∧costR t re at_≤3000)∧∀ H,call Try.prog pol1 38 [patAV ⟨re,n,false⟩,.sl false (t.map I),I at_,I (-1),I 3000] H=some (.tup [out,I k,I e],H):=by
 by_cases hv:validP ⟨re,n,false⟩=0
 ·obtain⟨hsz,hdp,hc0,hc9,hwg⟩:=valid_facts hv
  obtain⟨g1,g2,g3⟩:=gen_facts cap re hg
  obtain⟨out,k,e,h1,h2,h3,h4⟩:=f123 re n t at_ 3000 hw hv (by omega) (by omega) ht (by omega) ⟨⟨hwg,g1⟩,g2,hsz⟩ g3 ha
  exact⟨out,k,e,h1,fun he=>⟨hv,by have:=h3 he;omega⟩,h4⟩
 ·exact⟨_,_,_,rfl,fun he=>absurd he hv,f123e re n t at_ 3000 hw hv⟩
abbrev patZ:AV:=.agg [I 0,.sl true [],.sl true [],I 0,I 0,I 0,I 0,.bool false,I 0,.bool false]
theorem f70 (l m:List Int) (hl:∀ x∈l,In64 x) (hm:∀ x∈m,In64 x) (uses:Int) (hu:Uses uses) :
  ∃ r,(∃ re caps t,(FitsOk (decide (0 < andI uses 64)) re caps t∧(¬ 0 < andI uses 16→noAs re=true))∧r=.tup [patAV ⟨re,caps,false⟩,.sl false (t.map I)])∧∀ H,call Try.prog pol1 21 [.sl false (l.map I),.sl false (m.map I),I uses,I 24,I 3000] H=some (r,H):=by
 have hpre:Pre (mA1 5) (mS1 5) ⟨0,24,0⟩:=by
  have h1:mS1 5=364:=rfl
  have h2:mA1 5=1818:=rfl
  exact⟨by simp only[h2];omega,by simp only[h1];omega,by simp only[];omega⟩
 have h11:=f11m l hl uses 24 (by omega)
 have hcap:=((tree_all hl uses 5 (by omega)).2 ⟨0,24,0⟩ hpre).c
 have hwt:=treeF_wt l uses 5 ⟨0,24,0⟩
 have hgen:=tree_gen hu l 5 ⟨0,24,0⟩
 have hlen:=tree_len hu l 5 ⟨0,24,0⟩
 have hnoas:=fun ha=>tree_noas hu ha l 5 ⟨0,24,0⟩
 generalize treeF l uses 5 ⟨0,24,0⟩=Y at *
 obtain⟨re,s⟩:=Y
 simp only at h11 hcap hwt hgen hlen hnoas
 obtain⟨n,hn⟩:∃ n:Nat,s.caps=n:=⟨s.caps.toNat,by omega⟩
 rw[hn]at h11 hcap
 have h122:=f122 m hm
 have hT:=textT_in m (min m.length 12)
 have hTl:=textT_len m (min m.length 12)
 generalize textT m (min m.length 12)=T at *
 have hTl12:T.length≤12:=by omega
 have h123:=fun(k i:Nat) (hk:i≤(T.take k).length)=>one123 (decide (0 < andI uses 64)) re n (T.take k) i (Nat.le_trans hwt (by decide)) (by omega) (by simp;omega) (fun x hx=>hT x (List.mem_of_mem_take hx)) hgen hk
 have hpl:=plain_patC ⟨re,n,false⟩
 have hl8:=reC_len re
 have hget8:(reC re++[I n,.bool false])[8]?=some (I n):=by rw[List.getElem?_append_right (by omega),hl8];rfl
 have htk:List.take 10 (reC re++[I n,.bool false])=reC re++[I n,.bool false]:=List.take_of_length_le (by simp[reC_len])
 have hall:=reC_ok re
 refine call_runA Try.func21 rfl rfl rfl rfl rfl rfl (fun _=>rfl) (by simp[AV.plain,AV.plainL,plain_ints,plain_span,plain_ins,plain_prg]) ?_ ?_
 ·rintro _ ⟨re,caps,t,_,rfl⟩
  have h:=plain_patC ⟨re,caps,false⟩
  simp only[AV.plain,AV.plainL,plain_ints,h]
  rfl
 simp +contextual (disch:=omega) only[Try.f21,dd21,go_sem,simprocAttr,evBin,mu21,↓wrap_up,↓wrap_down,↓wrap_pred,↓wrap_sub_nat,h11,h122,hl8,hget8,htk,hall,List.all_append]
 repeat' (first|intro _|apply And.intro|(unfold dOk;kernel_rfl)|exact St.beq_refl _|(show altO _ _ _ _=true;kernel_rfl)|(show (_ || _)=true;kernel_rfl)|(show (_ && _)=true;kernel_rfl))
 refine W_for (M:=(mskOf (pol1.mask 21) (pol1.gc 21) (pol1.acts 21) 0 4)) rfl (fun k:Nat=>(⟨61,[(14,I ((k:Int) - 1)),(13,.sl false (T.map I)),(12,.rf 1 1 0 0),(10,.rf 0 1 0 0),(4,I 3000)],[.row 10 [patZ] 0,.row 10 [patAV ⟨re,n,false⟩] 0]⟩:St)) (fun k=>k≤T.length+1) (fun k=>k) (T.length+1) ?_ (Nat.le_refl _) _ ?_
 ·intro k hk
  cases k with
  | zero=>
    have hget8':(patC ⟨re,n,false⟩)[8]?=some (I n):=hget8
    simp +contextual (disch:=omega) only[Try.f21,dd21,go_sem,simprocAttr,evBin,mu21,↓wrap_up,↓wrap_down,↓wrap_pred,↓wrap_sub_nat,hget8']
    exact⟨_,⟨.mk 0 [] [] 0 0 0 0 false,n,[],⟨fits_empty _ (by omega),fun _=>rfl⟩,rfl⟩,_,rfl⟩
  | succ k=>
    have e1:((k+1:Nat):Int) - 1=(k:Int):=by omega
    rw[e1]
    have hTk:(T.take k).length=k:=by simp;omega
    simp +contextual (disch:=omega) only[Try.f21,dd21,go_sem,simprocAttr,evBin,mu21,↓wrap_up,↓wrap_down,↓wrap_pred,↓wrap_sub_nat]
    refine W_for (M:=(mskOf (pol1.mask 21) (pol1.gc 21) (pol1.acts 21) 0 8)) rfl (fun g:Nat×Bool=>(⟨61,[(16,I g.1),(15,.bool g.2),(14,I k),(13,.sl false (T.map I)),(12,.rf 1 1 0 0),(10,.rf 0 1 0 0),(4,I 3000)],[.row 10 [patZ] 0,.row 10 [patAV ⟨re,n,false⟩] 0]⟩:St))
     (fun g=>g.1≤k+1∧(g.2=true→∀ j,j < g.1→validP ⟨re,n,false⟩=0∧costR (T.take k) re j≤3000)) (fun g=>k+1 - g.1) (0,true) ?_ ⟨by simp,fun _ j hj=>absurd hj (Nat.not_lt_zero j)⟩ _ ?_
    ·rintro⟨i,good⟩ ⟨hi,hg⟩
     simp only at hi hg ⊢
     cases good with
     | false=>
       simp +contextual (disch:=omega) only[Try.f21,dd21,go_sem,simprocAttr,evBin,mu21,↓wrap_up,↓wrap_down,↓wrap_pred,↓wrap_sub_nat]
       exact⟨fun _=>⟨k,by omega,by omega,rfl⟩,fun _=>⟨k,by omega,by omega,rfl⟩⟩
     | true=>
       by_cases hik:i≤k
       ·obtain⟨out,q,e,h1,h2,h3⟩:=h123 k i (by omega)
        rw[List.map_take]at h3
        simp +contextual (disch:=omega) only[Try.f21,dd21,go_sem,simprocAttr,evBin,mu21,↓wrap_up,↓wrap_down,↓wrap_pred,↓wrap_sub_nat,h3,htk,hall,List.all_append,hl8,Bool.false_and]
        repeat' (first|intro _|apply And.intro|(unfold dOk;kernel_rfl)|exact St.beq_refl _|(show altO _ _ _ _=true;kernel_rfl)|(show (_ || _)=true;kernel_rfl)|(show (_ && _)=true;kernel_rfl))
        ·simp
        refine⟨(i+1,e == 0),⟨by simp only[];omega,fun he j hj=>?_⟩,by simp only[];omega,rfl⟩
        simp only at he hj
        rcases Nat.lt_or_ge j i with hji|hji
        ·exact hg rfl j hji
        ·obtain rfl:j=i:=by omega
         exact h2 (by simpa using he)
       ·simp +contextual (disch:=omega) only[Try.f21,dd21,go_sem,simprocAttr,evBin,mu21,↓wrap_up,↓wrap_down,↓wrap_pred,↓wrap_sub_nat,htk,hall,List.all_append,hl8,Bool.false_and]
        repeat' (first|intro _|apply And.intro|(unfold dOk;kernel_rfl)|exact St.beq_refl _|(show altO _ _ _ _=true;kernel_rfl)|(show (_ || _)=true;kernel_rfl)|(show (_ && _)=true;kernel_rfl))
        ·simp
        have hik1:i=k+1:=by omega
        refine⟨_,⟨re,n,T.take k,⟨⟨(hg rfl 0 (by omega)).1,hgen,Nat.le_trans hlen (by decide),Nat.le_trans hwt (by decide),by omega,fun x hx=>hT x (List.mem_of_mem_take hx),fun j hj=>(hg rfl j (by omega)).2⟩,hnoas⟩,rfl⟩,?_⟩
        rw[← List.map_take]
        exact⟨_,fz_plain _ (by
         have h:=plain_patC ⟨re,n,false⟩
         simp only[AV.plain,AV.plainL,plain_ints,h]
         rfl)⟩
    ·rfl
 ·have e2:((T.length+1:Nat):Int) - 1=(T.length:Int):=by omega
  rw[e2]
  rfl
theorem uses64:Uses 64:=⟨by decide,by decide,by decide,by decide,by decide⟩
theorem uses0:Uses 0:=⟨by decide,by decide,by decide,by decide,by decide⟩
theorem f31n (l m:List Int) (hl:∀ x∈l,In64 x) (hm:∀ x∈m,In64 x) (asserts:Bool) :
  ∃ r,(∃ cap re caps t,FitsOk cap re caps t∧compG [] re=true∧(asserts=false→noAs re=true)∧r=.tup [patAV ⟨re,caps,false⟩,.sl false (t.map I)])∧∀ H,call Try.prog pol1 5 [.sl false (l.map I),.sl false (m.map I),.bool asserts] H=some (r,H):=by
 have key:∀(uses:Int) (hu:Uses uses),∃(cap:Bool) (re:Re) (caps:Int) (t:List Int),cap=decide (0 < andI uses 64)∧(FitsOk cap re caps t∧(¬ 0 < andI uses 16→noAs re=true))∧∀ H,call Try.prog pol1 21 [.sl false (l.map I),.sl false (m.map I),I uses,I 24,I 3000] H=some (.tup [patAV ⟨re,caps,false⟩,.sl false (t.map I)],H):=by
  intro uses hu
  obtain⟨_,⟨re,caps,t,h1,rfl⟩,h2⟩:=f70 l m hl hm uses hu
  exact⟨_,re,caps,t,rfl,h1,h2⟩
 refine call_runA Try.func5 rfl rfl rfl rfl rfl rfl (fun _=>rfl) (by simp[AV.plain,AV.plainL,plain_ints,plain_span,plain_ins,plain_prg]) ?_ ?_
 ·rintro _ ⟨cap,re,caps,t,_,_,_,rfl⟩
  have h:=plain_patC ⟨re,caps,false⟩
  simp only[AV.plain,AV.plainL,plain_ints,h]
  rfl
 have pl:∀(re:Re) (caps:Int) (t:List Int),AV.plain (.tup [.agg (reC re++[I caps,.bool false]),.sl false (t.map I)])=true:=fun re caps t=>by
  have h:=plain_patC ⟨re,caps,false⟩
  simp only[AV.plain,AV.plainL,plain_ints,h]
  rfl
 have hor:evBin .or .i64 64 16=some (I 80):=rfl
 have h16:evBin .sub .i64 80 64=some (I 16):=rfl
 have h00:evBin .sub .i64 64 64=some (I 0):=rfl
 cases asserts with
 | true=>
   obtain⟨cap,re,caps,t,hc,⟨hf,hna⟩,h70⟩:=key 80 uses80
   obtain⟨cap2,re2,caps2,t2,hc2,⟨hf2,hna2⟩,h70b⟩:=key 16 uses16
   have hwg:=(valid_facts hf.val).2.2.2.2
   have h53:=f53n _ _ re hf.wt hwg
   have hl8:=reC_len re
   have htk:List.take 10 (reC re++[I caps,.bool false])=reC re++[I caps,.bool false]:=List.take_of_length_le (by simp[reC_len])
   have hall:=reC_ok re
   have hl8b:=reC_len re2
   have htkb:List.take 10 (reC re2++[I caps2,.bool false])=reC re2++[I caps2,.bool false]:=List.take_of_length_le (by simp[reC_len])
   have hallb:=reC_ok re2
   have htk8:∀ l,List.take 8 (reC re++l)=reC re:=fun l=>by
    rw[List.take_append_of_le_length (by omega)];exact List.take_of_length_le (by omega)
   cases hcp:compG [] re with
   | true=>
     rw[hcp]at h53
     simp +contextual (disch:=omega) only[Try.f5,dd5,go_sem,simprocAttr,mu5,↓wrap_up,↓wrap_down,↓wrap_pred,↓wrap_sub_nat,hor,h70,h53,hl8,htk,hall,htk8,List.all_append]
     exact⟨_,⟨cap,re,caps,t,hf,hcp,(fun h=>by cases h),rfl⟩,_,fz_plain _ (pl re caps t)⟩
   | false=>
     rw[hcp]at h53
     simp +contextual (disch:=omega) only[Try.f5,dd5,go_sem,simprocAttr,mu5,↓wrap_up,↓wrap_down,↓wrap_pred,↓wrap_sub_nat,hor,h16,h70,h70b,h53,hl8,htk,hall,htk8,hl8b,htkb,hallb,List.all_append]
     exact⟨_,⟨cap2,re2,caps2,t2,hf2,gen_comp re2 [] (by rw[← hc2.trans (by decide:decide (0 < andI 16 64)=false)];exact hf2.gen),(fun h=>by cases h),rfl⟩,_,fz_plain _ (pl re2 caps2 t2)⟩
 | false=>
   obtain⟨cap,re,caps,t,hc,⟨hf,hna⟩,h70⟩:=key 64 uses64
   obtain⟨cap2,re2,caps2,t2,hc2,⟨hf2,hna2⟩,h70b⟩:=key 0 uses0
   have hwg:=(valid_facts hf.val).2.2.2.2
   have h53:=f53n _ _ re hf.wt hwg
   have hl8:=reC_len re
   have htk:List.take 10 (reC re++[I caps,.bool false])=reC re++[I caps,.bool false]:=List.take_of_length_le (by simp[reC_len])
   have hall:=reC_ok re
   have hl8b:=reC_len re2
   have htkb:List.take 10 (reC re2++[I caps2,.bool false])=reC re2++[I caps2,.bool false]:=List.take_of_length_le (by simp[reC_len])
   have hallb:=reC_ok re2
   have htk8:∀ l,List.take 8 (reC re++l)=reC re:=fun l=>by
    rw[List.take_append_of_le_length (by omega)];exact List.take_of_length_le (by omega)
   cases hcp:compG [] re with
   | true=>
     rw[hcp]at h53
     simp +contextual (disch:=omega) only[Try.f5,dd5,go_sem,simprocAttr,mu5,↓wrap_up,↓wrap_down,↓wrap_pred,↓wrap_sub_nat,h70,h53,hl8,htk,hall,htk8,List.all_append]
     exact⟨_,⟨cap,re,caps,t,hf,hcp,(fun _=>hna (by decide)),rfl⟩,_,fz_plain _ (pl re caps t)⟩
   | false=>
     rw[hcp]at h53
     simp +contextual (disch:=omega) only[Try.f5,dd5,go_sem,simprocAttr,mu5,↓wrap_up,↓wrap_down,↓wrap_pred,↓wrap_sub_nat,h00,h70,h70b,h53,hl8,htk,hall,htk8,hl8b,htkb,hallb,List.all_append]
     exact⟨_,⟨cap2,re2,caps2,t2,hf2,gen_comp re2 [] (by rw[← hc2.trans (by decide:decide (0 < andI 0 64)=false)];exact hf2.gen),(fun _=>hna2 (by decide)),rfl⟩,_,fz_plain _ (pl re2 caps2 t2)⟩
end
theorem spans_ok {l:List (Int×Int)} {runes:Bool} (h:spansG l (topI runes)=true):refSpans l=0∧lastOk l (if runes then 1114111 else 255)=true:=by
 simp only[spansG,Bool.and_eq_true,decide_eq_true_eq,Bool.not_eq_true']at h
 have ht:=topI_le runes
 have hg:∀ k,k < l.length→badS l (topI runes) k=false:=fun k hk=>by
  have:=List.any_eq_false.1 h.2 k (List.mem_range.2 hk)
  simpa using this
 refine⟨?_,?_⟩
 ·rw[refSpans_good,if_neg (by omega)]
  intro k hk
  have hb:=hg k hk
  obtain⟨p,hp⟩:∃ p,l[k]?=some p:=⟨_,List.getElem?_eq_getElem hk⟩
  simp only[badS,hp,Bool.or_eq_false_iff,decide_eq_false_iff_not]at hb
  simp only[badAt,hp]
  have hd:decide (0≤p.1∧p.1≤p.2∧p.2≤1114111)=true:=by rw[decide_eq_true_eq];omega
  rw[hd]
  cases k with
  | zero=>rfl
  | succ k=>
    obtain⟨q,hq⟩:∃ q,l[k]?=some q:=⟨_,List.getElem?_eq_getElem (by omega)⟩
    have:=hb.2
    simp only[hq,decide_eq_false_iff_not]at this ⊢
    have hd2:decide (p.1 - q.2 < 2)=false:=by rw[decide_eq_false_iff_not];omega
    rw[hd2];rfl
 ·unfold lastOk
  split
  ·rename_i p hp
   have hk:=(List.getElem?_eq_some_iff.1 hp).1
   have hb:=hg _ hk
   simp only[badS,hp,Bool.or_eq_false_iff,decide_eq_false_iff_not]at hb
   have:=hb.1.2
   rw[decide_eq_true_eq]
   unfold topI at this
   omega
  ·rfl
def OkL (N:Nat) (caps:Int) (runes:Bool) (l:List Ins):Prop:=∀ i∈l,okIns N caps runes i=true
theorem OkL.app {N:Nat} {caps:Int} {runes:Bool} {a b:List Ins} (ha:OkL N caps runes a) (hb:OkL N caps runes b):OkL N caps runes (a++b):=fun i hi=>by
 rcases List.mem_append.1 hi with h|h
 ·exact ha i h
 ·exact hb i h
theorem OkL.cons {N:Nat} {caps:Int} {runes:Bool} {x:Ins} {b:List Ins} (ha:okIns N caps runes x=true) (hb:OkL N caps runes b):OkL N caps runes (x::b):=fun i hi=>by
 rcases List.mem_cons.1 hi with rfl|h
 ·exact ha
 ·exact hb i h
theorem OkL.nil {N:Nat} {caps:Int} {runes:Bool}:OkL N caps runes []:=fun i hi=>by simp at hi
theorem OkL.flat {α:Type} {N:Nat} {caps:Int} {runes:Bool} {l:List α} {g:α→List Ins} (h:∀ x∈l,OkL N caps runes (g x)):OkL N caps runes (l.flatMap g):=fun i hi=>by
 obtain⟨x,hx,hi⟩:=List.mem_flatMap.1 hi
 exact h x hx i hi
theorem ok_split {N:Nat} {caps:Int} {runes:Bool} {md:Int} {a b:Nat} (ha:a < N) (hb:b < N):okIns N caps runes (insSplit md (a:Int) (b:Int))=true:=by
 unfold insSplit
 split<;>simp[okIns,ha,hb]
theorem ok_jump {N:Nat} {caps:Int} {runes:Bool} {a:Nat} (ha:a < N):okIns N caps runes ⟨3,(a:Int),0,0,[]⟩=true:=by simp[okIns,ha]
mutual
theorem code_ok {caps:Int} {runes:Bool} {N:Nat}:∀ r:Re,GoodC caps (topI runes) r→∀ f,f+lenG r < N→OkL N caps runes (codeG r f)
 | .mk op set kids mn mx md n neg,h,f,hN=>by
   have hC:=codeCat_ok (N:=N) kids h.kids
   have hA:=codeAlt_ok (N:=N) kids h.kids
   have hH:=codeHd_ok (N:=N) kids h.kids
   obtain⟨hk,hkd,hrp,hcp,_⟩:=whole_facts h.whole
   have hform:formedG caps (topI runes) (.mk op set kids mn mx md n neg)=true:=by
    have:=h.whole
    rw[wholeG,Bool.and_eq_true]at this
    exact this.1
   rw[codeG]
   rw[lenG]at hN
   rcases h.op with rfl|rfl|rfl|rfl|rfl|rfl|rfl
   ·simp;exact OkL.nil
   ·simp only[if_true]
    have hs:spansG set (topI runes)=true:=by
     simp only[formedG,Bool.and_eq_true]at hform
     simpa using hform.1.1.1.2
    obtain⟨s1,s2⟩:=spans_ok hs
    refine OkL.cons ?_ OkL.nil
    simp[okIns,s1,s2]
   ·simp only[show ¬(2:Int)=1 by decide,show ¬(2:Int)=11 by decide,if_false,if_true]
    exact hC f (by simpa using hN)
   ·simp only[show ¬(3:Int)=1 by decide,show ¬(3:Int)=11 by decide,show ¬(3:Int)=2 by decide,if_false,if_true]
    have h2:2≤kids.length:=by simpa [kidsG] using hkd
    exact hA f (by omega) (by simpa using hN)
   ·obtain⟨k,rfl⟩:∃ k,kids=[k]:=List.length_eq_one_iff.1 (by simpa [kidsG] using hkd)
    have hr:=hrp rfl
    simp only[repG,Bool.and_eq_true,Bool.or_eq_true,decide_eq_true_eq,beq_iff_eq]at hr
    simp only[show ¬(4:Int)=1 by decide,show ¬(4:Int)=11 by decide,show ¬(4:Int)=2 by decide,show ¬(4:Int)=3 by decide,show ¬(4:Int)=5 by decide,if_false,if_true,or_self,lenL,codeHd,Nat.add_zero]at hN ⊢
    simp only[codeHd]at hH
    generalize hL:lenG k=L at *
    by_cases hm:mx = -1
    ·simp only[if_pos hm]at hN ⊢
     rw[Nat.succ_mul]at hN
     refine OkL.app (OkL.flat fun i hi=>hH _ ?_) (OkL.cons (ok_split (by omega) (by omega)) (OkL.app (hH _ (by rw[lenL,lenL,hL];omega)) (OkL.cons (ok_jump (by omega)) OkL.nil)))
     have:=Nat.mul_le_mul_right L (show i+1≤mn.toNat by have:=List.mem_range.1 hi;omega)
     rw[Nat.succ_mul]at this
     rw[lenL,lenL,hL];omega
    ·simp only[if_neg hm]at hN ⊢
     obtain⟨e,he⟩:∃ e,mx.toNat=mn.toNat+e:=⟨mx.toNat - mn.toNat,by omega⟩
     rw[he,Nat.add_sub_cancel_left,Nat.add_mul]at hN ⊢
     refine OkL.app (OkL.flat fun i hi=>hH _ ?_) (OkL.flat fun j hj=>?_)
     ·have:=Nat.mul_le_mul_right L (show i+1≤mn.toNat by have:=List.mem_range.1 hi;omega)
      rw[Nat.succ_mul]at this
      rw[lenL,lenL,hL];omega
     ·have h1:=List.mem_range.1 hj
      have:=Nat.mul_le_mul_right L (show j+1≤e by omega)
      rw[Nat.succ_mul]at this
      have h2:j * (L+1)=j * L+j:=by rw[Nat.mul_add,Nat.mul_one]
      exact OkL.cons (ok_split (by omega) (by omega)) (hH _ (by rw[lenL,lenL,hL];omega))
   ·obtain⟨k,rfl⟩:∃ k,kids=[k]:=List.length_eq_one_iff.1 (by simpa [kidsG] using hkd)
    simp only[show ¬(5:Int)=1 by decide,show ¬(5:Int)=11 by decide,show ¬(5:Int)=2 by decide,show ¬(5:Int)=3 by decide,if_false,if_true,or_self]at hN ⊢
    have hc:=hcp (.inl rfl)
    refine OkL.cons ?_ (OkL.app (hH _ (by omega)) (OkL.cons ?_ OkL.nil))
    ·simp[okIns];omega
    ·simp[okIns];omega
   ·simp only[show ¬(11:Int)=1 by decide,if_false,if_true]
    have hs:0≤n∧n≤5:=by
     simp only[formedG,Bool.and_eq_true]at hform
     simpa using hform.1.2
    refine OkL.cons ?_ OkL.nil
    simp[okIns,hs]
theorem codeCat_ok {caps:Int} {runes:Bool} {N:Nat}:∀ l:List Re,(∀ k∈l,GoodC caps (topI runes) k)→∀ f,f+lenL l < N→OkL N caps runes (codeCat l f)
 | [],_,_,_=>OkL.nil
 | k::ks,h,f,hN=>by
   rw[lenL]at hN
   rw[codeCat]
   exact OkL.app (code_ok k (h k (by simp)) f (by omega)) (codeCat_ok ks (fun q hq=>h q (by simp[hq])) _ (by omega))
theorem codeAlt_ok {caps:Int} {runes:Bool} {N:Nat}:∀ l:List Re,(∀ k∈l,GoodC caps (topI runes) k)→∀ f,1≤l.length→f+(lenL l+2 * (l.length - 1)) < N→OkL N caps runes (codeAlt l f)
 | [],_,_,_,_=>OkL.nil
 | k::ks,h,f,_,hN=>by
   rw[codeAlt]
   have hk:=fun f=>code_ok (N:=N) k (h k (by simp)) f
   split
   ·rename_i h0
    have:ks=[]:=List.length_eq_zero_iff.1 h0
    subst this
    exact hk f (by simp[lenL]at hN;omega)
   ·rename_i h0
    have hs:=codeAlt_ok (N:=N) ks (fun q hq=>h q (by simp[hq])) (f+lenG k+2) (by omega)
    simp only[lenL,List.length_cons]at hN
    refine OkL.cons ?_ (OkL.app (hk _ (by omega)) (OkL.cons (ok_jump (by simp only[lenL];omega)) (hs (by omega))))
    have:=ok_split (N:=N) (caps:=caps) (runes:=runes) (md:=0) (a:=f+1) (b:=f+lenG k+2) (by omega) (by omega)
    exact this
theorem codeHd_ok {caps:Int} {runes:Bool} {N:Nat}:∀ l:List Re,(∀ k∈l,GoodC caps (topI runes) k)→∀ f,f+lenL l < N→OkL N caps runes (codeHd l f)
 | [],_,_,_=>OkL.nil
 | k::ks,h,f,hN=>by
   rw[lenL]at hN
   rw[codeHd]
   exact code_ok k (h k (by simp)) f (by omega)
end
abbrev prgOf (re:Re) (caps:Int) (runes:Bool):Prg:=⟨codeG re 0++[⟨0,0,0,0,[]⟩],caps,runes⟩
theorem prg_valid {re:Re} {caps:Int} {runes:Bool} (hv:validP ⟨re,caps,runes⟩=0) (hc:codable re=true) (hl:lenG re+1≤8192):validG (prgOf re caps runes)=0∧PrgB (prgOf re caps runes):=by
 obtain⟨hsz,hdp,hc0,hc9,hwg⟩:=valid_facts hv
 simp only at hc0 hc9 hwg
 have hg:GoodC caps (topI runes) re:=⟨hwg,hc⟩
 have hlen:=codeG_len caps (topI runes) re 0 hg
 have hok:OkL (lenG re+1) caps runes (codeG re 0++[⟨0,0,0,0,[]⟩]):=OkL.app (code_ok re hg 0 (by omega)) (OkL.cons (by simp[okIns]) OkL.nil)
 have hn:(codeG re 0++[(⟨0,0,0,0,[]⟩:Ins)]).length=lenG re+1:=by simp[hlen]
 have hn':(prgOf re caps runes).ins.length=lenG re+1:=hn
 have hb:(prgOf re caps runes).ins.length≤1000000∧∀ i∈(prgOf re caps runes).ins,i.set.length≤1000000:=by
  refine⟨by omega,fun i hi=>?_⟩
  have:=hok i hi
  simp only[okIns,Bool.and_eq_true]at this
  obtain⟨⟨⟨⟨h1,_⟩,_⟩,_⟩,h2⟩:=this
  by_cases e:i.op=1
  ·have h3:refSpans i.set=0∧lastOk i.set (if runes=true then 1114111 else 255)=true:=by simpa [e] using h2
   have this:=h3.1
   unfold refSpans at this
   split at this
   ·cases this
   ·split at this
    ·cases this
    ·omega
  ·have:i.set.length=0:=by simpa [e] using h1
   omega
 refine⟨?_,hb⟩
 ·unfold validG
  simp only[hn]
  rw[if_neg (by omega),if_neg (by omega),if_pos]
  rw[Bool.and_eq_true]
  refine⟨List.all_eq_true.2 hok,?_⟩
  simp[lastGood]
end Go.Ev
namespace Go.Ev
attribute [local go_sem] evAppend AV.cells frzB List.length_append List.map_append tySzE List.head?_drop Nat.mul_one sameAt_zero sameAt_two sameAt_three sameAt_four sameAt_five room_ok
section
attribute [local go_sem] evBin
open Go.Proofs Go.RowKit Go.IntWalk
set_option maxRecDepth 100000
set_option maxHeartbeats 4000000
def No5 (l:List Ins):Prop:=∀ i∈l,i.op≠5
theorem No5.nil:No5 []:=fun i h=>by cases h
theorem No5.cons {x:Ins} {l:List Ins} (h:x.op≠5) (h2:No5 l):No5 (x::l):=fun i hi=>by
 rcases List.mem_cons.1 hi with rfl|hi
 ·exact h
 ·exact h2 i hi
theorem No5.app {l m:List Ins} (h:No5 l) (h2:No5 m):No5 (l++m):=fun i hi=>by
 rcases List.mem_append.1 hi with hi|hi
 ·exact h i hi
 ·exact h2 i hi
theorem No5.flat {l:List Nat} {f:Nat→List Ins} (h:∀ n,No5 (f n)):No5 (l.flatMap f):=fun i hi=>by
 obtain⟨n,_,h2⟩:=List.mem_flatMap.1 hi
 exact h n i h2
theorem split5 (md a b:Int):(insSplit md a b).op≠5:=by
 unfold insSplit;split<;>simp
mutual
theorem code_no5:∀(r:Re) (f:Nat),noAs r=true→No5 (codeG r f)
 | .mk op set kids mn mx md n neg,f,h=>by
   rw[noAs,Bool.and_eq_true]at h
   have h11:op≠11:=by simpa using h.1
   have hC:=fun f=>codeCat_no5 kids f h.2
   have hA:=fun f=>codeAlt_no5 kids f h.2
   have hH:=fun f=>codeHd_no5 kids f h.2
   rw[codeG]
   by_cases o1:op=1
   ·rw[if_pos o1];exact .cons (by simp) .nil
   rw[if_neg o1,if_neg h11]
   by_cases o2:op=2
   ·rw[if_pos o2];exact hC f
   rw[if_neg o2]
   by_cases o3:op=3
   ·rw[if_pos o3];exact hA f
   rw[if_neg o3]
   by_cases o5:op=5
   ·rw[if_pos o5];exact .cons (by simp) (.app (hH _) (.cons (by simp) .nil))
   rw[if_neg o5]
   by_cases o4:op=4
   ·rw[if_pos o4]
    simp only
    split
    ·exact .app (.flat fun i=>hH _) (.cons (split5 _ _ _) (.app (hH _) (.cons (by simp) .nil)))
    ·exact .app (.flat fun i=>hH _) (.flat fun j=>.cons (split5 _ _ _) (hH _))
   ·rw[if_neg o4];exact .nil
theorem codeCat_no5:∀(l:List Re) (f:Nat),noAsL l=true→No5 (codeCat l f)
 | [],f,_=>by rw[codeCat];exact .nil
 | k::ks,f,h=>by
   rw[noAsL,Bool.and_eq_true]at h
   rw[codeCat]
   exact .app (code_no5 k f h.1) (codeCat_no5 ks _ h.2)
theorem codeAlt_no5:∀(l:List Re) (f:Nat),noAsL l=true→No5 (codeAlt l f)
 | [],f,_=>by rw[codeAlt];exact .nil
 | k::ks,f,h=>by
   rw[noAsL,Bool.and_eq_true]at h
   rw[codeAlt]
   split
   ·exact code_no5 k f h.1
   ·exact .cons (by simp) (.app (code_no5 k _ h.1) (.cons (by simp) (codeAlt_no5 ks _ h.2)))
theorem codeHd_no5:∀(l:List Re) (f:Nat),noAsL l=true→No5 (codeHd l f)
 | [],f,_=>by rw[codeHd];exact .nil
 | k::ks,f,h=>by
   rw[noAsL,Bool.and_eq_true]at h
   rw[codeHd]
   exact code_no5 k f h.1
end
theorem accept_prg {re:Re} {caps:Int} {runes:Bool} (hv:validP ⟨re,caps,runes⟩=0) (hc:codable re=true) (hl:lenG re+1≤8192) (hn:noAs re=true):acceptG (prgOf re caps runes)=0:=by
 unfold acceptG
 rw[if_neg (by rw[(prg_valid hv hc hl).1];simp),if_neg]
 rw[Bool.not_eq_true,List.any_eq_false]
 intro i hi
 have:=No5.app (code_no5 re 0 hn) (.cons (x:=⟨0,0,0,0,[]⟩) (by decide) .nil) i hi
 simpa using this
theorem acc_facts4 {g:Prg} (h:acceptG g=0):validG g=0∧(∀ i∈g.ins,i.op=0∨i.op=1∨i.op=2∨i.op=3∨i.op=4)∧Leads g.ins∧0 < g.ins.length∧g.ins.length≤8192:=by
 unfold acceptG at h
 split at h
 ·rename_i h1;exact absurd h h1
 rename_i h1
 have hv:validG g=0:=by omega
 split at h
 ·cases h
 rename_i h2
 have hv':=hv
 unfold validG at hv
 split at hv
 ·cases hv
 rename_i h3
 split at hv
 ·cases hv
 rename_i h4
 split at hv
 ·rename_i h5
  rw[Bool.and_eq_true,List.all_eq_true]at h5
  obtain⟨h5,h6⟩:=h5
  refine⟨hv',fun i hi=>?_,fun n i hi=>?_,by omega,by omega⟩
  ·have hm:=h5 i hi
   have h7:i.op≠5:=fun h5=>h2 (List.any_eq_true.2 ⟨i,hi,by simp[h5]⟩)
   simp only[okIns,Bool.and_eq_true,Bool.or_eq_true,beq_iff_eq,decide_eq_true_eq]at hm
   omega
  ·have hm:=h5 i (List.mem_of_getElem? hi)
   have hlt:=(List.getElem?_eq_some_iff.1 hi).1
   simp only[okIns,Bool.and_eq_true,Bool.or_eq_true,beq_iff_eq,decide_eq_true_eq]at hm
   refine⟨by omega,fun h=>by omega,fun h=>by omega,fun h=>?_⟩
   rcases Nat.lt_or_ge (n+1) g.ins.length with h7|h7
   ·exact h7
   ·exfalso
    obtain rfl:n=g.ins.length - 1:=by omega
    simp only[lastGood,hi,Bool.or_eq_true,beq_iff_eq]at h6
    omega
 ·cases hv
theorem sets_small {g:Prg} (h:validG g=0):∀ i∈g.ins,i.set.length≤64:=by
 intro i hi
 unfold validG at h
 split at h
 ·cases h
 split at h
 ·cases h
 split at h
 ·rename_i h3
  rw[Bool.and_eq_true,List.all_eq_true]at h3
  have:=h3.1 i hi
  simp only[okIns,Bool.and_eq_true,Bool.or_eq_true,beq_iff_eq,decide_eq_true_eq]at this
  rcases Nat.lt_or_ge 64 i.set.length with h4|h4
  ·have h5:refSpans i.set=0:=by omega
   unfold refSpans at h5
   split at h5
   ·cases h5
   ·omega
  ·exact h4
 ·cases h
end
end Go.Ev
