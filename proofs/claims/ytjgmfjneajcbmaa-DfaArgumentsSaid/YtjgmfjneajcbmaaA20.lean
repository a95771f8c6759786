/- Functions of the program, each with what it computes; no further conditions. -/
import Derived.Test.YtjgmfjneajcbmaaA06
import Derived.Test.YtjgmfjneajcbmaaA13
import Derived.Test.YtjgmfjneajcbmaaA19
import Derived.Test.YtjgmfjneajcbmaaA15
import Derived.Test.YtjgmfjneajcbmaaA17
set_option linter.unusedVariables false
set_option linter.unusedSimpArgs false
namespace Go.Ev
attribute [local go_sem] evAppend evBin AV.cells frzB List.length_append List.map_append tySzE List.head?_drop Nat.mul_one sameAt_zero sameAt_two sameAt_three sameAt_four sameAt_five room_ok
open Go.Proofs Go.RowKit Go.IntWalk
set_option maxRecDepth 100000
set_option maxHeartbeats 8000000
theorem kt15e (H:List MB):evF Try.prog pol1 40 14 15 [] H=some (.bool true,H):=by kernel_rfl
theorem kt15 (H:List MB):call Try.prog pol1 15 [] H=some (.bool true,H):=call_of_evF (n:=40) 14 15 _ _ _ (kt15e H)
theorem kt13r (D:Nat) (xs:List Int) (hx:xs.length≤65536) (p:Int) (hp:p < 0∨(xs.length:Int) < p) (H:List MB):call Try.prog pol1 13 [.rf D 1 0 0,.sl false (xs.map I),I p] H=some (.tup [I 0,.bool false,I 5],H):=by
 have rp:∀ H1 r H,retPol pol1 13 H1 r H=some (r,H):=fun H1 r H=>rfl
 refine call_run2 (pol:=pol1) Try.func13 rfl rfl rfl rfl (frzArgs_mix _ _ _ rfl) ?_
 have hp2:IntKind.i64.wrap (xs.length:Int)=xs.length:=by rw[i64_in];omega
 by_cases h0:p < 0
 ·simp +contextual (disch:=omega) only[Try.f13,dd13,go_sem,↓reduceIte,List.reduceReplicate,Nat.reduceAdd,Nat.reduceSub,reduceCtorEq,Nat.reduceLeDiff,Nat.reduceMul,Nat.reduceLT,Nat.reduceEqDiff,Int.reduceBNe,Int.reduceBEq,Int.reduceEq,Int.reduceLT,Int.reduceLE,Int.reduceGT,Int.reduceGE,mu13,Nat.reduceBEq,↓wrap_up,↓wrap_down,↓wrap_pred,↓wrap_sub_nat,Int.reduceToNat]
  exact rp _ _ _
 ·have hp3:(xs.length:Int) < p:=by omega
  simp +contextual (disch:=omega) only[Try.f13,dd13,go_sem,↓reduceIte,List.reduceReplicate,Nat.reduceAdd,Nat.reduceSub,reduceCtorEq,Nat.reduceLeDiff,Nat.reduceMul,Nat.reduceLT,Nat.reduceEqDiff,Int.reduceBNe,Int.reduceBEq,Int.reduceEq,Int.reduceLT,Int.reduceLE,Int.reduceGT,Int.reduceGE,mu13,Nat.reduceBEq,↓wrap_up,↓wrap_down,↓wrap_pred,↓wrap_sub_nat,Int.reduceToNat]
  exact rp _ _ _
theorem kt13l (D id:Nat) (p:Int) (H:List MB):call Try.prog pol1 13 [.rf D 1 0 0,.ms id 1 65537 0 65537,I p] H=some (.tup [I 0,.bool false,I 4],H):=by
 have rp:∀ H1 r H,retPol pol1 13 H1 r H=some (r,H):=fun H1 r H=>rfl
 refine call_run2 (pol:=pol1) Try.func13 rfl rfl rfl rfl (frzArgs_mix _ _ _ rfl) ?_
 simp +contextual (disch:=omega) only[Try.f13,dd13,go_sem,↓reduceIte,List.reduceReplicate,Nat.reduceAdd,Nat.reduceSub,reduceCtorEq,Nat.reduceLeDiff,Nat.reduceMul,Nat.reduceLT,Nat.reduceEqDiff,Int.reduceBNe,Int.reduceBEq,Int.reduceEq,Int.reduceLT,Int.reduceLE,Int.reduceGT,Int.reduceGE,mu13,Nat.reduceBEq,↓wrap_up,↓wrap_down,↓wrap_pred,↓wrap_sub_nat,Int.reduceToNat]
 exact rp _ _ _
theorem kt11l (D id:Nat) (H:List MB):call Try.prog pol1 11 [.rf D 1 0 0,.ms id 1 65537 0 65537] H=some (.tup [.sl true [],I 4],H):=by
 have rp:∀ H1 r H,retPol pol1 11 H1 r H=some (r,H):=fun H1 r H=>rfl
 refine call_run2 (pol:=pol1) Try.func11 rfl rfl rfl rfl (frzArgs_mix _ _ _ rfl) ?_
 simp +contextual (disch:=omega) only[Try.f11,dd11,go_sem,↓reduceIte,List.reduceReplicate,Nat.reduceAdd,Nat.reduceSub,reduceCtorEq,Nat.reduceLeDiff,Nat.reduceMul,Nat.reduceLT,Nat.reduceEqDiff,Int.reduceBNe,Int.reduceBEq,Int.reduceEq,Int.reduceLT,Int.reduceLE,Int.reduceGT,Int.reduceGE,mu11,Nat.reduceBEq,↓wrap_up,↓wrap_down,↓wrap_pred,↓wrap_sub_nat,Int.reduceToNat]
 exact rp _ _ _
theorem ofK_nilp4:ofK (.pointer none)=.nilp:=rfl
theorem kt9 (g:Prg) (hb:PrgB g) (cache:Int) (H:List MB) {id z:Nat} (hr:H[id]?=some (.row 5 (g.ins.map insAV) z)) (w:Int) (hw:w=if acceptG g≠0 then acceptG g else if 1≤cache∧cache≤1024 then 0 else 1) :
  ∃ x H',call Try.prog pol1 9 [ownAV id g,I cache] H=some (.tup [x,I w],H')∧KeepsLow (fun i=>i < H.length) H H'∧(x=.nilp∧w≠0∨∃ D,x=.rf D 1 0 0∧w=0):=by
 by_cases ha:acceptG g=0
 ·rw[if_neg (by simp[ha])]at hw
  by_cases hc:1≤cache∧cache≤1024
  ·rw[if_pos hc]at hw
   subst hw
   obtain⟨hv,ho,hl,h0,hN⟩:=acc_facts4 ha
   obtain⟨n,rfl⟩:∃ n:Nat,cache=n:=⟨cache.toNat,by omega⟩
   obtain⟨_,⟨D,C,H',a,rfl,d,low⟩,h⟩:=kf9n g hb hl h0 hN n ⟨by omega,by omega⟩ H hr ha
   exact⟨_,H',h,low,.inr ⟨D,rfl,rfl⟩⟩
  ·rw[if_neg hc]at hw
   subst hw
   obtain⟨H',h,low⟩:=kf9_arg g hb cache hc H hr ha
   exact⟨_,H',h,low,.inl ⟨rfl,by decide⟩⟩
 ·rw[if_pos ha]at hw
  subst hw
  obtain⟨H',h,low⟩:=kf9_bad g hb cache H hr ha
  exact⟨_,H',h,low,.inl ⟨rfl,ha⟩⟩
abbrev zIns:AV:=.agg [I 0,I 0,I 0,I 0,.sl true []]
def overL (ins:List Ins) (i:Nat):List AV:=List.replicate i zIns++(ins.drop i).map insAV
theorem over_zero (ins:List Ins):overL ins 0=ins.map insAV:=by simp[overL]
theorem over_len (ins:List Ins) {i:Nat} (h:i≤ins.length):(overL ins i).length=ins.length:=by simp[overL];omega
theorem over_at {ins:List Ins} {i:Nat} {p:Ins} (h:ins[i]?=some p):(overL ins i)[i]?=some (insAV p):=by
 have hlt:=(List.getElem?_eq_some_iff.1 h).1
 unfold overL
 rw[List.getElem?_append_right (by simp),List.length_replicate,Nat.sub_self,List.drop_eq_getElem_cons hlt,(List.getElem?_eq_some_iff.1 h).2]
 rfl
theorem over_set {ins:List Ins} {i:Nat} (h:i < ins.length):(overL ins i).set i zIns=overL ins (i+1):=by
 unfold overL
 rw[List.set_append_right _ _ (by simp),List.length_replicate,Nat.sub_self,List.drop_eq_getElem_cons h,List.map_cons,List.set_cons_zero,List.replicate_succ',List.append_assoc]
 rfl
structure AS where
 i:Nat
 K:List MB
 a:Lay2
theorem ka3 (l m:List Int) (at_ how by_ cache place:Int) (hl:∀ x∈l,In64 x) (hm:∀ x∈m,In64 x) (h1:In64 at_) (h2:In64 how) (h3:In64 by_) (h4:In64 cache) (h5:In64 place) (H:List MB) :
  call Try.prog pol1 3 [.sl false (l.map I),.sl false (m.map I),I at_,I how,I by_,I cache,I place] H=some (.bool true,H):=by
 obtain⟨_,⟨cap,re,caps,xs,hfit,hcomp,hna,rfl⟩,hc5⟩:=f31n l m hl hm false
 have hna:=hna rfl
 have hxl:=hfit.tl
 have hc6:=f15 ⟨re,caps,false⟩ hfit.wt
 have hcp:compP ⟨re,caps,false⟩=(prgOf re caps false,0):=by
  unfold compP
  rw[if_pos hfit.val,if_pos hcomp,if_pos (by have:=hfit.len;simp only;omega)]
 rw[hcp]at hc6
 simp only at hc6
 have hcod:=codable_of re [] hcomp
 have hlen8:lenG re+1≤8192:=by have:=hfit.len;omega
 obtain⟨hgv,hgb⟩:=prg_valid hfit.val hcod hlen8
 have hga:=accept_prg (runes:=false) hfit.val hcod hlen8 hna
 have hgc:=valid_facts hfit.val
 simp only at hgc
 have hgs:=sets_small hgv
 obtain⟨_,hgo,hgw,hg0,hgN⟩:=acc_facts4 hga
 generalize hg:prgOf re caps false=g at *
 have hgcaps:g.caps=caps:=by rw[← hg]
 have hn0:PrgN g 8192 64:=⟨hgN,hgs,by rw[hgcaps];unfold In64;omega⟩
 obtain⟨_,⟨s0,hs0,rfl⟩,hc7⟩:=f28 g 8192 64 (by omega) (by omega) hn0 at_ how by_ h1 h2 h3
 have hsb:PrgB s0:=⟨by have:=hs0.len;omega,fun i hi=>by have:=hs0.sets i hi;omega⟩
 have hc8:=kf17 s0 hsb
 have hpl:=plain_ints l
 have hpm:=plain_ints m
 refine call_run Try.func3 rfl rfl rfl rfl rfl rfl (fun _=>rfl) (by simp[AV.plain,AV.plainL,hpl,hpm]) (by simp[AV.plain]) ?_ H
 have hl8:=reC_len re
 have hpok:(patC ⟨re,caps,false⟩).all AV.ok=true:=by have:=reC_ok re;simp[patC,List.all_append,this,AV.ok]
 have htk:List.take 10 (patC ⟨re,caps,false⟩)=patC ⟨re,caps,false⟩:=List.take_of_length_le (by simp[patC,reC_len])
 obtain⟨H1,hc10,hid1,low1⟩:=kf10 s0 hsb.1 [.row 10 [patAV ⟨re,caps,false⟩] 0,.row 3 [prgAV g] 0,.row 3 [prgAV s0] 0]
 obtain⟨w,hw⟩:∃ w,w=if acceptG s0≠0 then acceptG s0 else if 1≤cache∧cache≤1024 then 0 else(1:Int):=⟨_,rfl⟩
 obtain⟨x,H2,hc9,low2,hx⟩:=kt9 s0 hsb cache H1 hid1 w hw
 have hc9:call Try.prog pol1 9 [ownAV 6 s0,I cache] H1=some (.tup [x,I w],H2):=hc9
 have hc10:call Try.prog pol1 10 [prgAV s0] [.row 10 [patAV ⟨re,caps,false⟩] 0,.row 3 [prgAV g] 0,.row 3 [prgAV s0] 0]=some (ownAV 6 s0,H1):=hc10
 have hlow12:∀(i:Nat) (v:MB),i < 3→[MB.row 10 [patAV ⟨re,caps,false⟩] 0,.row 3 [prgAV g] 0,.row 3 [prgAV s0] 0][i]?=some v→H2[i]?=some v:=fun i v hi hv=>by
  have hl1:=low1.1
  simp only[List.length_cons,List.length_nil]at hl1
  rw[low2.2 i (by show i < H1.length;omega),low1.2 i (by show i < 3;exact hi)];exact hv
 have hH1:=hlow12 1 _ (by omega) rfl
 obtain⟨H3,hc10b,hid3,low3⟩:=kf10 g hgb.1 H2
 have hid3':(H3++[MB.row 3 [ownAV (H2.length+3) g] 0])[H2.length+3]?=some (.row 5 (g.ins.map insAV) 0):=by
  rw[List.getElem?_append_left (List.getElem?_eq_some_iff.1 hid3).1];exact hid3
 obtain⟨_,⟨D,C,H4,a4,rfl,d4,low4⟩,hc9b⟩:=kf9n g hgb hgw hg0 hgN 4 ⟨by omega,by omega⟩ _ hid3' hga
 have hc9b:call Try.prog pol1 9 [ownAV (H2.length+3) g,I 4] (H3++[.row 3 [ownAV (H2.length+3) g] 0])=some (.tup [.rf D 1 0 0,I 0],H4):=hc9b
 obtain⟨hso,hss⟩:=stateL_ok g.ins [0]
 have hio:InsOk g.ins:=⟨hgN,hgw,hgb.2⟩
 obtain⟨_,⟨H5,a5,rfl,d5,low5⟩,hc11⟩:=kf20e d4 hio hso hss xs (by omega) (by show 0+5000000000≤_;omega)
 have hc12:=kf12s d5
 have hmd5:=endsC_made g.ins 4 (stateL g.ins [0]) xs ⟨[],0,0⟩ (xs.length+1)
 have hmul:(xs.length+1) * (xs.length+1)≤13 * 13:=Nat.mul_le_mul (by omega) (by omega)
 simp only[Nat.zero_add]at hmd5
 have hel:=endsL_len g.ins (stateL g.ins [0]) xs
 have hend:=fun n hn=>endsL_at g.ins (stateL g.ins [0]) xs (n:=n) hn
 have hgl3:=fun x:MB=>kget_last H3 x
 have hsl3:=fun x y:MB=>kset_last H3 x y
 have hL3:(H3++[MB.row 3 [ownAV (H2.length+3) g] 0]).length=H3.length+1:=by simp
 have hidl:=(List.getElem?_eq_some_iff.1 hid3).1
 have hB5:H5[H3.length]?=some (.row 3 [ownAV (H2.length+3) g] 0):=by
  rw[low5.2 H3.length (by rw[hL3];omega),low4.2 H3.length (by rw[hL3];omega)];exact hgl3 _
 have hI5:H5[H2.length+3]?=some (.row 5 (g.ins.map insAV) 0):=by
  rw[low5.2 _ (by rw[hL3];omega),low4.2 _ (by rw[hL3];omega)];exact hid3'
 generalize endsC g.ins 4 (stateL g.ins [0]) xs ⟨[],0,0⟩ (xs.length+1)=c5 at *
 simp only[hL3]at d5
 have hwant:(acceptG s0≠0∧w=acceptG s0∧x=.nilp)∨(acceptG s0=0∧cache < 1∧w=1∧x=.nilp)∨(acceptG s0=0∧1024 < cache∧w=1∧x=.nilp)∨(acceptG s0=0∧(1≤cache∧cache≤1024)∧w=0∧∃ D',x=.rf D' 1 0 0):=by
  have nil:w≠0→x=.nilp:=fun h=>by
   rcases hx with ⟨h2,_⟩|⟨_,_,h2⟩
   ·exact h2
   ·exact absurd h2 h
  by_cases q1:acceptG s0=0
  ·rw[if_neg (by simp[q1])]at hw
   by_cases q2:1≤cache∧cache≤1024
   ·rw[if_pos q2]at hw
    rcases hx with ⟨_,h2⟩|⟨D',h2,_⟩
    ·exact absurd hw h2
    ·exact .inr (.inr (.inr ⟨q1,q2,hw,D',h2⟩))
   ·rw[if_neg q2]at hw
    have:=nil (by omega)
    by_cases q3:cache < 1
    ·exact .inr (.inl ⟨q1,q3,hw,this⟩)
    ·exact .inr (.inr (.inl ⟨q1,by omega,hw,this⟩))
  ·rw[if_pos q1]at hw
   exact .inl ⟨q1,hw,nil (by rw[hw];exact q1)⟩
 clear hx hw
 have hDn:evBinOp Try.prog .eql 39 (.rf D 1 0 0) .nilp=some (.bool false):=rfl
 generalize acceptG s0=e0 at *
 rcases hwant with ⟨w1,rfl,rfl⟩|⟨rfl,w1,rfl,rfl⟩|⟨rfl,w1,rfl,rfl⟩|⟨rfl,w1,rfl,D',rfl⟩
 all_goals
  simp +contextual (disch:=omega) only[Try.f3,dd3,go_sem,↓reduceIte,Nat.reduceAdd,Nat.reduceSub,reduceCtorEq,Nat.reduceLeDiff,Nat.reduceMul,Nat.reduceLT,Nat.reduceEqDiff,Int.reduceBNe,Int.reduceBEq,Int.reduceEq,Int.reduceLT,Int.reduceLE,Int.reduceGT,Int.reduceGE,mu3,Nat.reduceBEq,↓wrap_up,↓wrap_down,↓wrap_pred,↓wrap_sub_nat,Int.reduceToNat,hl8,hpok,htk,hc5,hc6,hc7,hc8,hc10,hc9,hH1,hc10b,hgl3,hsl3,hc9b,hc11,hc12,hel,evEq,ofK_nilp4,beq_self_eq_true,bne_self_eq_false,true_implies]
  refine W_for (σ:=AS) (M:=(mskOf (pol1.mask 3) (pol1.gc 3) (pol1.acts 3) 0 19)) rfl (fun x=>(⟨222,[(30,I x.i),(29,NV c5.emptied),(28,NV c5.made),(27,I 0),(26,.sl false ((endsL g.ins (stateL g.ins [0]) xs).map I)),(24,.rf D 1 0 0),(23,.rf H3.length 1 0 0),(16,.sl false (xs.map I)),(6,I place)],x.K⟩:St))
   (fun x=>x.i≤g.ins.length∧DI g.ins (stateL g.ins [0]) 4 (fun i=>i < H3.length+1) D C x.a c5 x.K∧x.K[H3.length]?=some (.row 3 [ownAV (H2.length+3) g] 0)∧x.K[H2.length+3]?=some (.row 5 (overL g.ins x.i) 0)) (fun x=>g.ins.length - x.i)
   ⟨0,H5,a5⟩ ?_ ⟨Nat.zero_le _,d5,hB5,by rw[over_zero];exact hI5⟩ _ rfl
  rintro⟨i,K,a⟩ ⟨q1,q2,q3,q4⟩
  simp only at q1 q2 q3 q4 ⊢
  have hKl:=(List.getElem?_eq_some_iff.1 q4).1
  by_cases hi:i < g.ins.length
  ·obtain⟨p,hp⟩:∃ p,g.ins[i]?=some p:=⟨_,List.getElem?_eq_getElem hi⟩
   have ho1:=over_at hp
   have ho2:=over_set (ins:=g.ins) hi
   have ho3:=over_len g.ins q1
   generalize hOV:overL g.ins i=OV at *
   simp +contextual (disch:=omega) only[Try.f3,dd3,go_sem,↓reduceIte,Nat.reduceAdd,Nat.reduceSub,reduceCtorEq,Nat.reduceLeDiff,Nat.reduceMul,Nat.reduceLT,Nat.reduceEqDiff,Int.reduceBNe,Int.reduceBEq,Int.reduceEq,Int.reduceLT,Int.reduceLE,Int.reduceGT,Int.reduceGE,mu3,Nat.reduceBEq,↓wrap_up,↓wrap_down,↓wrap_pred,↓wrap_sub_nat,Int.reduceToNat,q3,q4,ho1,ho2,ho3]
   refine⟨⟨i+1,K.set (H2.length+3) (.row 5 (overL g.ins (i+1)) 0),a⟩,⟨hi,q2.frame (by simp) (fun j hj hj2=>List.getElem?_set_ne (by omega)),?_,List.getElem?_set_self hKl⟩,by show g.ins.length - (i+1) < g.ins.length - i;omega,rfl⟩
   rw[List.getElem?_set_ne (by omega)];exact q3
  ·have hin:i=g.ins.length:=by omega
   subst hin
   have ho3:=over_len g.ins q1
   generalize overL g.ins g.ins.length=OV at *
   have hc12k:=kf12s q2
   have rest:∀(c6:CS) (a6:Lay2) (K6:List MB),DI g.ins (stateL g.ins [0]) 4 (fun i=>i < H3.length+1) D C a6 c6 K6→c6.made≤1000→∃ K8,
     call Try.prog pol1 11 [.rf D 1 0 0,.sl false (xs.map I)] (K6++[.row 1 (List.replicate 65537 (I 0)) 0]++[.row 1 (List.replicate 65537 (I 0)) 0])=some (.tup [.sl false ((endsL g.ins (stateL g.ins [0]) xs).map I),I 0],K8):=fun c6 a6 K6 d6 hm6=>by
    obtain⟨_,⟨K8,a8,rfl,_,_⟩,h⟩:=kf20e ((d6.push [.row 1 (List.replicate 65537 (I 0)) 0]).push [.row 1 (List.replicate 65537 (I 0)) 0]) hio hso hss xs (by omega) (by omega)
    exact⟨K8,h⟩
   have hend:=fun n hn=>endsL_at g.ins (stateL g.ins [0]) xs (n:=n) hn
   have hc14:=kf25i (endsL g.ins (stateL g.ins [0]) xs) (endsL g.ins (stateL g.ins [0]) xs) (by omega) (by omega)
   have hdec:decide (endsL g.ins (stateL g.ins [0]) xs=endsL g.ins (stateL g.ins [0]) xs)=true:=decide_eq_true rfl
   rw[hdec]at hc14
   have hc15:=kt15
   have l11:=kt11l D
   have l13:=kt13l D
   by_cases hpl2:place < 0∨(xs.length:Int) < place
   ·have hc13:=kt13r D xs (by omega) place hpl2
    obtain⟨K8,hK8⟩:=rest c5 a K q2 (by omega)
    generalize endsL g.ins (stateL g.ins [0]) xs=EL at *
    by_cases hp0:place < 0
    ·simp +contextual (disch:=omega) only[Try.f3,dd3,go_sem,↓reduceIte,Nat.reduceAdd,Nat.reduceSub,reduceCtorEq,Nat.reduceLeDiff,Nat.reduceMul,Nat.reduceLT,Nat.reduceEqDiff,Int.reduceBNe,Int.reduceBEq,Int.reduceEq,Int.reduceLT,Int.reduceLE,Int.reduceGT,Int.reduceGE,mu3,Nat.reduceBEq,↓wrap_up,↓wrap_down,↓wrap_pred,↓wrap_sub_nat,Int.reduceToNat,q3,ho3,hc13,hc12k,l11,l13,hK8,hc14,hc15,evEq,bne_self_eq_false,beq_self_eq_true,true_implies]
     exact fzEq rfl rfl
    ·simp +contextual (disch:=omega) only[Try.f3,dd3,go_sem,↓reduceIte,Nat.reduceAdd,Nat.reduceSub,reduceCtorEq,Nat.reduceLeDiff,Nat.reduceMul,Nat.reduceLT,Nat.reduceEqDiff,Int.reduceBNe,Int.reduceBEq,Int.reduceEq,Int.reduceLT,Int.reduceLE,Int.reduceGT,Int.reduceGE,mu3,Nat.reduceBEq,↓wrap_up,↓wrap_down,↓wrap_pred,↓wrap_sub_nat,Int.reduceToNat,q3,ho3,hc13,hc12k,l11,l13,hK8,hc14,hc15,evEq,bne_self_eq_false,beq_self_eq_true,true_implies]
     exact fzEq rfl rfl
   ·obtain⟨pn,rfl⟩:∃ pn:Nat,place=pn:=⟨place.toNat,by omega⟩
    obtain⟨_,⟨K6,a6,rfl,d6,le6,low6⟩,hc13⟩:=kf13e q2 hio hso hss xs (by omega) pn (by omega) (by omega)
    have hm6:=runC_made g.ins 4 (xs.drop pn) (stateL g.ins [0]) (c5.need 4 (stateL g.ins [0]))
    have hm7:=CS.need_made c5 4 (stateL g.ins [0])
    rw[List.length_drop]at hm6
    have hat:((endsL g.ins (stateL g.ins [0]) xs).map I)[pn]?=some (I (runL g.ins (xs.drop pn) pn (stateL g.ins [0]) (-1))):=by rw[List.getElem?_map,hend pn (by omega)];rfl
    obtain⟨K8,hK8⟩:=rest _ a6 K6 d6 (by omega)
    generalize runL g.ins (xs.drop pn) pn (stateL g.ins [0]) (-1)=e at *
    generalize endsL g.ins (stateL g.ins [0]) xs=EL at *
    by_cases he:0≤e
    ·rw[decide_eq_true he,if_pos he]at hc13
     simp +contextual (disch:=omega) only[Try.f3,dd3,go_sem,↓reduceIte,Nat.reduceAdd,Nat.reduceSub,reduceCtorEq,Nat.reduceLeDiff,Nat.reduceMul,Nat.reduceLT,Nat.reduceEqDiff,Int.reduceBNe,Int.reduceBEq,Int.reduceEq,Int.reduceLT,Int.reduceLE,Int.reduceGT,Int.reduceGE,mu3,Nat.reduceBEq,↓wrap_up,↓wrap_down,↓wrap_pred,↓wrap_sub_nat,Int.reduceToNat,q3,ho3,hc13,hat,hel,l11,l13,hK8,hc14,hc15,evEq,bne_self_eq_false,beq_self_eq_true,true_implies]
     exact fzEq rfl rfl
    ·rw[decide_eq_false he,if_neg he]at hc13
     simp +contextual (disch:=omega) only[Try.f3,dd3,go_sem,↓reduceIte,Nat.reduceAdd,Nat.reduceSub,reduceCtorEq,Nat.reduceLeDiff,Nat.reduceMul,Nat.reduceLT,Nat.reduceEqDiff,Int.reduceBNe,Int.reduceBEq,Int.reduceEq,Int.reduceLT,Int.reduceLE,Int.reduceGT,Int.reduceGE,mu3,Nat.reduceBEq,↓wrap_up,↓wrap_down,↓wrap_pred,↓wrap_sub_nat,Int.reduceToNat,q3,ho3,hc13,hat,hel,l11,l13,hK8,hc14,hc15,evEq,bne_self_eq_false,beq_self_eq_true,true_implies]
     exact fzEq rfl rfl
end Go.Ev
