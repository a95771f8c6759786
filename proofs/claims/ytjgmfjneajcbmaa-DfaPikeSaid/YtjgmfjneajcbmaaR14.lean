/- Functions of the program, each with what it computes; no further conditions. -/
import Derived.Test.YtjgmfjneajcbmaaR06
import Derived.Test.YtjgmfjneajcbmaaR13
set_option linter.unusedVariables false
set_option linter.unusedSimpArgs false
namespace Go.Ev
attribute [local go_sem] eq_self bindW_some bindW_map bindW_ite bindW_iteN W_seq W_region W_draw W_cond W_condK W_ret W_skip W_exit W_scope W_label W_block blockK_norm blockK_ret blockK_exit WO_nil WO_cons WO_guard WD_nil WD_cons WD_guard guardV guardW_boolT guardW_boolF guardW_tup fpL_some fpL_none footprint footprint0 fineF thenK_norm thenK_ret thenK_exit put_some put_none ev_tmp ev_con ev_func ofK_int ofK_bool ofK_str ofK_nil ofK_agg ofC_int ofC_bool ofC_str ofC_nil ofC_nilp one_int one_bool one_str one_nil one_nilp evOp evBuiltin evCall evLen evAppend getElem_16 getElem_4 List.length_cons List.length_nil List.cons_append List.nil_append List.append_nil if_false if_true Bool.false_eq_true Bool.true_eq_false Option.map_some Option.map_none List.map_cons List.map_nil evBinOp evBin evUn asB_bool splitB_decide splitB_true splitB_false splitB_beq splitB_bne splitB_not endK_ret endK_norm List.getElem?_cons_zero List.getElem?_cons_succ evResults evResult packRes retK_norm retK_ret cellsAt mkVal evFieldAddr evField evIndexAddr evPart evStore evBuild evBuildSlice fillC fillE evSlice evMakeSlice evConvert getRow AV.cells List.head?_cons List.drop_zero List.drop_succ_cons List.take_zero List.take_succ_cons List.drop_nil List.take_nil List.all_cons List.all_nil AV.ok Bool.and_self Bool.and_true Bool.true_and and_self and_true true_and Nat.zero_add Nat.add_zero setCells splice pairsOk pairsX altW_none altW_some cfg_al WI_nil WI_cons FP.apart heapEq_refl sameAt_refl Bool.or_true Bool.true_or Bool.or_false srcElems elemsOf mutDst indDst evLenH evMapUpd evLookup getMp keyOk resOk strOf roundK_norm roundK_exit roundK_ret List.length_map List.getElem?_map Int.toNat_natCast decide_true decide_false Bool.not_true Bool.not_false List.set set_0 set_1 set_2 set_3 set_4 look_hit look lookD_hit lookD_cons lookD_nil ins_hit ins upd_hit upd rem1_hit rem1 dropT dropSt_eq initT cfg_dd cfg_bd cfg_ra actL_nil actL_cons act1 updT_hit updT retE_norm retE_ret bndO bnd evEq eqCells not_false_eq_true not_true_eq_false toList_some Array.size_empty List.length_append List.map_append tySzE List.head?_drop Nat.mul_one sameAt_zero sameAt_two sameAt_three sameAt_four sameAt_five endE_norm endE_ret head_take1 List.contains_nil List.contains_cons Bool.or_self dlt_t dlt_f dle_t dle_f dgt_t dgt_f dge_t dge_f beq_t beq_f bne_t bne_f lt_T le_T nle_T nle_F Go.IntWalk.i64_in Go.IntWalk.i64_quo Go.IntWalk.rem_in room_ok ty0 ty3 ty4 ty22 ty42 ty51
section
attribute [local go_sem] frzB ty34 ty39 ty80 ty102 ty106
open Go.Proofs Go.RowKit Go.IntWalk
set_option maxRecDepth 100000
set_option maxHeartbeats 8000000
theorem runL_nil {ins:List Ins} {xs:List Int} {p:Nat} {e:Int}:runL ins xs p [] e=e:=by
 cases xs<;>simp[runL]
theorem runC_nil {ins:List Ins} {size:Nat} {xs:List Int} {c:CS}:runC ins size xs [] c=c:=by
 cases xs<;>simp[runC]
theorem doneL_at {ins:List Ins} {l:List Nat} {n:Nat} {i:Ins} (h:l[l.length - 1]?=some n) (hi:ins[n]?=some i):doneL ins l=(i.op == 0):=by
 simp[doneL,List.getLast?_eq_getElem?,h,hi]
structure RS where
 p:Nat
 t:Nat
 l:List Nat
 f:Nat
 e:Int
 H:List MB
 a:Lay2
 c:CS
theorem f31 {ins:List Ins} {first:List Nat} {size n0 D C:Nat} {a:Lay2} {c:CS} {H:List MB} (hi:DI ins first size n0 D C a c H) (ho:InsOk ins) (hf1:∀ n∈first,n < ins.length) (hf2:first.length≤ins.length) (xs:List Int) (hx:xs.length≤1000000) (p:Nat) (hp:p≤xs.length) (hmd:c.made+xs.length+2≤4000000000000) :
  ∃ r,(∃ H' a',r=(I (runL ins (xs.drop p) p first (-1)),H')∧DI ins first size n0 D C a' (runC ins size (xs.drop p) first (c.need size first)) H'∧a.le a'∧KeepsLow n0 H H')∧call Try.prog pol1 31 [.rf D 1 0 0,.sl false (xs.map I),I p] H=some r:=by
 have hN:=ho.len
 have rp:∀ H1 r H,retPol pol1 31 H1 r H=some (r,H):=fun H1 r H=>rfl
 have hD:=hi.d
 obtain⟨t1,⟨t,H1,a1,f1,rfl,d1,le1,st1,low1⟩,hc47⟩:=f47 hi hN (by omega) hf1 hf2
 have hm1:=CS.need_made c size first
 refine call_run2E (pol:=pol1) Try.func31 rfl rfl rfl rfl (frzArgs_mix _ _ _ rfl) ?_
 simp +contextual (disch:=omega) only[Try.f31,dd31,go_sem,↓reduceIte,List.reduceReplicate,Nat.reduceAdd,Nat.reduceSub,reduceCtorEq,Nat.reduceLeDiff,Nat.reduceMul,Nat.reduceLT,Nat.reduceEqDiff,Int.reduceBNe,Int.reduceBEq,Int.reduceEq,Int.reduceLT,Int.reduceLE,Int.reduceGT,Int.reduceGE,mu31,Nat.reduceBEq,↓wrap_up,↓wrap_down,↓wrap_pred,↓wrap_sub_nat,Int.reduceToNat,hD,hc47]
 refine W_for (σ:=RS) (M:=(mskOf (pol1.mask 31) (pol1.gc 31) (pol1.acts 31) 0 3)) rfl (fun x=>(⟨58,[(8,.rf x.t 1 0 0),(7,I x.e),(2,I x.p),(1,.sl false (xs.map I)),(0,.rf D 1 0 0)],x.H⟩:St))
  (fun x=>x.p≤xs.length∧DI ins first size n0 D C x.a x.c x.H∧x.a.st x.t=some (x.l,x.f)∧a.le x.a∧KeepsLow n0 H x.H∧x.c.made+(xs.length - x.p)≤c.made+xs.length+1 ∧
    runL ins (xs.drop x.p) x.p x.l x.e=runL ins (xs.drop p) p first (-1)∧runC ins size (xs.drop x.p) x.l x.c=runC ins size (xs.drop p) first (c.need size first))
  (fun x=>xs.length - x.p) ⟨p,t,first,f1,-1,H1,a1,c.need size first⟩ ?_ ⟨hp,d1,st1,le1,low1,by simp only;omega,rfl,rfl⟩ _ ?_
 ·rintro⟨p',t',l,f,e,H',a',c'⟩ ⟨h1,h2,h3,h4,h5,h6,h7,h8⟩
  simp only at h1 h2 h3 h4 h5 h6 h7 h8 ⊢
  obtain⟨b,m,s1,s2,s3,s4,s5,s6⟩:=h2.st t' l f h3
  have hD':=h2.d
  by_cases hl0:l=[]
  ·subst hl0
   rw[runL_nil]at h7
   rw[runC_nil]at h8
   simp +contextual (disch:=omega) only[Try.f31,dd31,go_sem,↓reduceIte,List.reduceReplicate,Nat.reduceAdd,Nat.reduceSub,reduceCtorEq,Nat.reduceLeDiff,Nat.reduceMul,Nat.reduceLT,Nat.reduceEqDiff,Int.reduceBNe,Int.reduceBEq,Int.reduceEq,Int.reduceLT,Int.reduceLE,Int.reduceGT,Int.reduceGE,mu31,Nat.reduceBEq,↓wrap_up,↓wrap_down,↓wrap_pred,↓wrap_sub_nat,Int.reduceToNat,s1]
   exact⟨_,⟨H',a',by rw[h7],by rw[← h8];exact h2,h4,h5⟩,rp _ _ _⟩
  obtain⟨rfl,q,rfl,hq⟩:=s6 hl0
  have hlen:0 < l.length:=List.length_pos_iff.2 hl0
  obtain⟨n,hn⟩:∃ n,l[l.length - 1]?=some n:=⟨_,List.getElem?_eq_getElem (by omega)⟩
  have hn':(l.map NV)[l.length - 1]?=some (NV n):=by simp[hn]
  obtain⟨i,hi'⟩:∃ i,ins[n]?=some i:=⟨_,List.getElem?_eq_getElem (s2 n (List.mem_of_getElem? hn))⟩
  have hii:(ins.map insAV)[n]?=some (insAV i):=by simp[hi']
  have hdone:=doneL_at hn hi'
  by_cases hend:p' = xs.length
  ·subst hend
   rw[List.drop_length]at h7 h8
   simp only[runL,runC,if_neg hl0,hdone]at h7 h8
   simp +contextual (disch:=omega) only[Try.f31,dd31,go_sem,↓reduceIte,List.reduceReplicate,Nat.reduceAdd,Nat.reduceSub,reduceCtorEq,Nat.reduceLeDiff,Nat.reduceMul,Nat.reduceLT,Nat.reduceEqDiff,Int.reduceBNe,Int.reduceBEq,Int.reduceEq,Int.reduceLT,Int.reduceLE,Int.reduceGT,Int.reduceGE,mu31,Nat.reduceBEq,↓wrap_up,↓wrap_down,↓wrap_pred,↓wrap_sub_nat,Int.reduceToNat,s1,hD',hn',hii]
   refine⟨by unfold dOk;kernel_rfl,fun h=>?_,fun h=>?_⟩
   ·rw[if_pos (by simp[h])]at h7
    exact⟨_,⟨H',a',by rw[h7],by rw[← h8];exact h2,h4,h5⟩,rp _ _ _⟩
   ·rw[if_neg (by simp[h])]at h7
    exact⟨_,⟨H',a',by rw[h7],by rw[← h8];exact h2,h4,h5⟩,rp _ _ _⟩
  ·obtain⟨x,hx'⟩:∃ x,xs[p']?=some x:=⟨_,List.getElem?_eq_getElem (by omega)⟩
   have hx2:(xs.map I)[p']?=some (I x):=by simp[hx']
   have hdrop:xs.drop p' = x::xs.drop (p' + 1):=by
    rw[List.drop_eq_getElem_cons (by omega)]
    congr 1
    rw[List.getElem?_eq_getElem (by omega)]at hx'
    exact Option.some.inj hx'
   obtain⟨r2,⟨t2,H2,a2,f2,rfl,d2,le2,st2,low2⟩,hc48⟩:=f48 h2 ho (by omega) h3 hl0 x
   have hm2:=CS.need_made c' size (nextL ins l x)
   rw[hdrop]at h7 h8
   simp only[runL,runC,if_neg hl0,hdone]at h7 h8
   simp +contextual (disch:=omega) only[Try.f31,dd31,go_sem,↓reduceIte,List.reduceReplicate,Nat.reduceAdd,Nat.reduceSub,reduceCtorEq,Nat.reduceLeDiff,Nat.reduceMul,Nat.reduceLT,Nat.reduceEqDiff,Int.reduceBNe,Int.reduceBEq,Int.reduceEq,Int.reduceLT,Int.reduceLE,Int.reduceGT,Int.reduceGE,mu31,Nat.reduceBEq,↓wrap_up,↓wrap_down,↓wrap_pred,↓wrap_sub_nat,Int.reduceToNat,s1,hD',hn',hii,hx2,hc48]
   refine⟨by unfold dOk;kernel_rfl,fun h=>?_,fun h=>?_⟩
   ·rw[if_pos (by simp[h])]at h7
    exact⟨⟨p' + 1,t2,nextL ins l x,f2,p',H2,a2,c'.need size (nextL ins l x)⟩,⟨by simp only;omega,d2,st2,Lay2.le_trans h4 le2,h5.trans low2,by simp only;omega,h7,h8⟩,by simp only;omega,rfl⟩
   ·rw[if_neg (by simp[h])]at h7
    exact⟨⟨p' + 1,t2,nextL ins l x,f2,e,H2,a2,c'.need size (nextL ins l x)⟩,⟨by simp only;omega,d2,st2,Lay2.le_trans h4 le2,h5.trans low2,by simp only;omega,h7,h8⟩,by simp only;omega,rfl⟩
 ·rfl
theorem f13e {ins:List Ins} {first:List Nat} {size n0 D C:Nat} {a:Lay2} {c:CS} {H:List MB} (hi:DI ins first size n0 D C a c H) (ho:InsOk ins) (hf1:∀ n∈first,n < ins.length) (hf2:first.length≤ins.length) (xs:List Int) (hx:xs.length≤65536) (p:Nat) (hp:p≤xs.length) (hmd:c.made+xs.length+2≤4000000000000) :
  ∃ r,(∃ H' a',r=(AV.tup [I (if 0≤runL ins (xs.drop p) p first (-1) then runL ins (xs.drop p) p first (-1) else 0),.bool (decide (0≤runL ins (xs.drop p) p first (-1))),I 0],H')∧DI ins first size n0 D C a' (runC ins size (xs.drop p) first (c.need size first)) H'∧a.le a'∧KeepsLow n0 H H')∧call Try.prog pol1 13 [.rf D 1 0 0,.sl false (xs.map I),I p] H=some r:=by
 have rp:∀ H1 r H,retPol pol1 13 H1 r H=some (r,H):=fun H1 r H=>rfl
 obtain⟨r,⟨H',a',rfl,d1,le1,low1⟩,hc⟩:=f31 hi ho hf1 hf2 xs (by omega) p hp hmd
 generalize runL ins (xs.drop p) p first (-1)=e at *
 refine call_run2E (pol:=pol1) Try.func13 rfl rfl rfl rfl (frzArgs_mix _ _ _ rfl) ?_
 by_cases he:0≤e
 ·rw[if_pos he]
  simp +contextual (disch:=omega) only[Try.f13,dd13,go_sem,↓reduceIte,List.reduceReplicate,Nat.reduceAdd,Nat.reduceSub,reduceCtorEq,Nat.reduceLeDiff,Nat.reduceMul,Nat.reduceLT,Nat.reduceEqDiff,Int.reduceBNe,Int.reduceBEq,Int.reduceEq,Int.reduceLT,Int.reduceLE,Int.reduceGT,Int.reduceGE,mu13,Nat.reduceBEq,↓wrap_up,↓wrap_down,↓wrap_pred,↓wrap_sub_nat,Int.reduceToNat,hc]
  exact⟨_,⟨H',a',rfl,d1,le1,low1⟩,rp _ _ _⟩
 ·rw[if_neg he]
  simp +contextual (disch:=omega) only[Try.f13,dd13,go_sem,↓reduceIte,List.reduceReplicate,Nat.reduceAdd,Nat.reduceSub,reduceCtorEq,Nat.reduceLeDiff,Nat.reduceMul,Nat.reduceLT,Nat.reduceEqDiff,Int.reduceBNe,Int.reduceBEq,Int.reduceEq,Int.reduceLT,Int.reduceLE,Int.reduceGT,Int.reduceGE,mu13,Nat.reduceBEq,↓wrap_up,↓wrap_down,↓wrap_pred,↓wrap_sub_nat,Int.reduceToNat,hc]
  exact⟨_,⟨H',a',rfl,d1,le1,low1⟩,rp _ _ _⟩
end
section
attribute [local go_sem] ty23 ty44 ty61 ty63 ty74 ty87 ty120 ty122 ty124 ty125
open Go.Proofs Go.RowKit Go.IntWalk
set_option maxRecDepth 100000
set_option maxHeartbeats 8000000
theorem f69h (l:List (Int×Int)) (x:Int) (hl:l.length≤1000000) (H:List MB):call Try.prog pol1 69 [.sl false (l.map spanAV),I x] H=some (.bool (hasSpan l x),H):=by
 refine call_run Try.func69 rfl rfl rfl rfl rfl rfl (fun _=>rfl) (by simp[AV.plain,AV.plainL,plain_ints,plain_span,plain_ins,plain_prg]) (by simp[AV.plain,AV.plainL,plain_ints,plain_span,plain_ins,plain_prg]) ?_ H
 simp +contextual (disch:=omega) only[Try.f69,dd69,go_sem,↓reduceIte,List.reduceReplicate,Nat.reduceAdd,Nat.reduceSub,reduceCtorEq,Nat.reduceLeDiff,Nat.reduceMul,Nat.reduceLT,Nat.reduceEqDiff,Int.reduceBNe,Int.reduceBEq,frzB,Int.reduceEq,Int.reduceLT,Int.reduceLE,Int.reduceGT,Int.reduceGE,mu69,Nat.reduceBEq,↓wrap_up,↓wrap_down,↓wrap_pred,↓wrap_sub_nat,Int.reduceToNat]
 refine W_count (M:=(mskOf (pol1.mask 69) (pol1.gc 69) (pol1.acts 69) 0 2)) rfl l.length (fun i=>(⟨24,[(9,I i),(8,I l.length),(7,.sl false (l.map spanAV)),(1,I x)],[]⟩:St)) (fun i=>∀ k p,k < i→l[k]?=some p→¬ (p.1≤x∧x≤p.2)) ?_ ?_ (fun k p h=>by omega) _ (by first|rfl|(refine prep_cut rfl (by rfl) (by rfl) (by rfl) ?_ ?_<;>simp[AV.underL,AV.under,MB.under,underL_plain,under_plain,plain_ints,plain_span,plain_ins,plain_prg,-List.map_take]))
 ·intro i hi hg
  obtain⟨p,hp⟩:∃ p,l[i]?=some p:=⟨_,List.getElem?_eq_getElem hi⟩
  by_cases hin:p.1≤x∧x≤p.2
  ·rw[hasSpan_at hp hin]
   simp +contextual (disch:=omega) only[Try.f69,dd69,go_sem,↓reduceIte,List.reduceReplicate,Nat.reduceAdd,Nat.reduceSub,reduceCtorEq,Nat.reduceLeDiff,Nat.reduceMul,Nat.reduceLT,Nat.reduceEqDiff,Int.reduceBNe,Int.reduceBEq,frzB,Int.reduceEq,Int.reduceLT,Int.reduceLE,Int.reduceGT,Int.reduceGE,mu69,Nat.reduceBEq,↓wrap_up,↓wrap_down,↓wrap_pred,↓wrap_sub_nat,Int.reduceToNat,hp,spanAV]
   exact fzEq rfl rfl
  ·have ext:∀ k q,k < i+1→l[k]?=some q→¬ (q.1≤x∧x≤q.2):=fun k q hk hq=>by
    rcases Nat.lt_or_ge k i with h|h
    ·exact hg k q h hq
    ·obtain rfl:k=i:=by omega
     rw[hp]at hq
     obtain rfl:=Option.some.inj hq
     exact hin
   by_cases h1:p.1≤x
   ·simp +contextual (disch:=omega) only[Try.f69,dd69,go_sem,↓reduceIte,List.reduceReplicate,Nat.reduceAdd,Nat.reduceSub,reduceCtorEq,Nat.reduceLeDiff,Nat.reduceMul,Nat.reduceLT,Nat.reduceEqDiff,Int.reduceBNe,Int.reduceBEq,frzB,Int.reduceEq,Int.reduceLT,Int.reduceLE,Int.reduceGT,Int.reduceGE,mu69,Nat.reduceBEq,↓wrap_up,↓wrap_down,↓wrap_pred,↓wrap_sub_nat,Int.reduceToNat,hp,spanAV]
    exact⟨ext,(by first|rfl|(refine prep_cut rfl (by rfl) (by rfl) (by rfl) ?_ ?_<;>simp[AV.underL,AV.under,MB.under,underL_plain,under_plain,plain_ints,plain_span,plain_ins,plain_prg,-List.map_take]))⟩
   ·simp +contextual (disch:=omega) only[Try.f69,dd69,go_sem,↓reduceIte,List.reduceReplicate,Nat.reduceAdd,Nat.reduceSub,reduceCtorEq,Nat.reduceLeDiff,Nat.reduceMul,Nat.reduceLT,Nat.reduceEqDiff,Int.reduceBNe,Int.reduceBEq,frzB,Int.reduceEq,Int.reduceLT,Int.reduceLE,Int.reduceGT,Int.reduceGE,mu69,Nat.reduceBEq,↓wrap_up,↓wrap_down,↓wrap_pred,↓wrap_sub_nat,Int.reduceToNat,hp,spanAV]
    exact⟨ext,(by first|rfl|(refine prep_cut rfl (by rfl) (by rfl) (by rfl) ?_ ?_<;>simp[AV.underL,AV.under,MB.under,underL_plain,under_plain,plain_ints,plain_span,plain_ins,plain_prg,-List.map_take]))⟩
 ·intro hg
  rw[hasSpan_no hg]
  simp +contextual (disch:=omega) only[Try.f69,dd69,go_sem,↓reduceIte,List.reduceReplicate,Nat.reduceAdd,Nat.reduceSub,reduceCtorEq,Nat.reduceLeDiff,Nat.reduceMul,Nat.reduceLT,Nat.reduceEqDiff,Int.reduceBNe,Int.reduceBEq,frzB,Int.reduceEq,Int.reduceLT,Int.reduceLE,Int.reduceGT,Int.reduceGE,mu69,Nat.reduceBEq,↓wrap_up,↓wrap_down,↓wrap_pred,↓wrap_sub_nat,Int.reduceToNat]
  exact fzEq rfl rfl
abbrev pairAV (p:Int×Int):AV:=.agg [I p.1,I p.2]
abbrev resB (f:Int) (q:Nat) (l:List (Int×Int)):MB:=.row 3 [.agg [I f,NV q,.sl false (l.map pairAV)]] 0
abbrev capS:List AV:=[.rf 5 1 0 0,.rf 8 1 0 0,.rf 7 1 0 0]
def seeF (F:PF) (c q:Nat) (s:PS):PF:=if doneL F.g.ins (s.ts.map (·.1))=true then { F with b7:=resB F.f q (capsL c ((s.ts.getLast?.map (·.2)).getD [])),b8:=.row 1 [.bool true] 0 } else F
theorem capsL_len (c:Nat) (r:List Int):(capsL c r).length=c:=by simp[capsL]
theorem capsL_at {c i:Nat} (r:List Int) (h:i < c):(capsL c r)[i]?=some (if r.getD (2 * i) 0 = -1∨r.getD (2 * i+1) 0 = -1 then(-1,-1) else(r.getD (2 * i) 0,r.getD (2 * i+1) 0)):=by
 simp[capsL,h]
def capsZ (c n:Nat) (r:List Int):List (Int×Int):=(capsL c r).take n++List.replicate (c - n) (0,0)
theorem capsZ_set {c n:Nat} {r:List Int} (h:n < c) {p:Int×Int} (hp:(capsL c r)[n]?=some p):(capsZ c n r).set n p=capsZ c (n+1) r:=by
 unfold capsZ
 have hl:((capsL c r).take n).length=n:=by rw[List.length_take,capsL_len];omega
 rw[List.set_append_right _ _ (by omega),hl,Nat.sub_self,List.take_add_one,hp]
 obtain⟨m,hm⟩:∃ m,c - n=m+1:=⟨c - n - 1,by omega⟩
 rw[hm,show c - (n+1)=m by omega]
 simp[List.replicate_succ]
theorem capsZ_at {c n:Nat} (h:n < c) (r:List Int):((capsZ c n r).map pairAV)[n]?=some (.agg [I 0,I 0]):=by
 have hl:((capsL c r).take n).length=n:=by rw[List.length_take,capsL_len];omega
 rw[List.getElem?_map]
 unfold capsZ
 rw[List.getElem?_append_right (by omega),hl,Nat.sub_self,List.getElem?_replicate,if_pos (by omega)]
 rfl
theorem capsZ_zero (c:Nat) (r:List Int):(capsZ c 0 r).map pairAV=List.replicate c (.agg [I 0,I 0]):=by
 unfold capsZ
 simp
theorem capsZ_all (c:Nat) (r:List Int):capsZ c c r=capsL c r:=by
 unfold capsZ
 rw[Nat.sub_self,List.take_of_length_le (by rw[capsL_len];omega)];simp
theorem capsZ_len {c n:Nat} (h:n≤c) (r:List Int):(capsZ c n r).length=c:=by
 unfold capsZ
 rw[List.length_append,List.length_take,capsL_len,List.length_replicate];omega
theorem plain_pair (l:List (Int×Int)):AV.plainL (l.map pairAV)=true:=plain_span l
theorem keptSA (F:PF) (s:PS) (K':List MB) (f:Int) (q:Nat) (l:List (Int×Int)):keptOk (hpA F s []).length (hpA F s []) (hpA { F with b7:=resB f q l,b8:=.row 1 [.bool true] 0 } s K')=true:=by
 have hp1:=fun n=>underL_plain n _ (plain_pair l)
 simp only[hpA,keptOk,MB.beq_refl,MB.under,AV.underL,AV.under,hp1,Bool.and_self,Bool.or_true,Bool.true_or,Bool.and_true,Bool.true_and,List.length_cons]
theorem f56A (F:PF) (hl:F.g.ins.length≤1000000) (c q:Nat) (hc:F.g.caps=c) (hc9:c≤9) (s:PS) (hts:s.ts.length≤1000000) (hr:∀ t∈s.ts,t.1 < F.g.ins.length∧t.2.length=2 * c) (x:Bool) (a b:Int) (capv:AV) (h7:F.b7=.row 3 [.agg [I a,I b,capv]] 0) (h8:F.b8=.row 1 [.bool x] 0) :
  call Try.prog pol1 56 (NV q::.ms 12 3 (s.ts.length+s.j.length) 0 s.ts.length::capS) (hpA F s [])=some (.bool true,hpA (seeF F c q s) s []):=by
 have fin:retPol pol1 56 (hpA F s []) (.bool true) (hpA F s [])=some (.bool true,hpA F s []):=retPol_keep rfl rfl rfl (by have:=keptA F s s [] [];simpa using this) (by simp[hpA])
 have fin0:∀ x,retPol pol1 56 (hpA F s []) (.bool true) (hpA F s [x])=some (.bool true,hpA F s []):=fun x=>retPol_keep rfl rfl rfl (by have:=keptA F s s [] [x];simpa using this) (by simp[hpA])
 have fin2:∀(K':List MB) (l:List (Int×Int)),retPol pol1 56 (hpA F s []) (.bool true) (hpA { F with b7:=resB F.f q l,b8:=.row 1 [.bool true] 0 } s K')=some (.bool true,hpA { F with b7:=resB F.f q l,b8:=.row 1 [.bool true] 0 } s []):=fun K' l=>retPol_keep rfl rfl rfl (keptSA F s K' F.f q l) (by simp[hpA])
 refine call_run2 (pol:=pol1) Try.func56 rfl rfl rfl rfl (frzArgs_mix _ _ _ rfl) ?_
 by_cases hnil:s.ts=[]
 ·have e:seeF F c q s=F:=by unfold seeF;rw[hnil];simp[doneL]
  rw[e]
  obtain⟨ts,m,cc,j⟩:=s
  simp only at hnil
  subst hnil
  simp +contextual (disch:=omega) only[Try.f56,dd56,go_sem,↓reduceIte,List.reduceReplicate,Nat.reduceAdd,Nat.reduceSub,reduceCtorEq,Nat.reduceLeDiff,Nat.reduceMul,Nat.reduceLT,Nat.reduceEqDiff,Int.reduceBNe,Int.reduceBEq,frzB,Int.reduceEq,Int.reduceLT,Int.reduceLE,Int.reduceGT,Int.reduceGE,mu56,Nat.reduceBEq,↓wrap_up,↓wrap_down,↓wrap_pred,↓wrap_sub_nat,Int.reduceToNat]
  exact fin
 have hpos:0 < s.ts.length:=List.length_pos_iff.2 hnil
 obtain⟨t,ht⟩:∃ t,s.ts[s.ts.length - 1]?=some t:=⟨_,List.getElem?_eq_getElem (by omega)⟩
 obtain⟨n,r⟩:=t
 obtain⟨hn,hrl⟩:=hr _ (List.mem_of_getElem? ht)
 simp only at hn hrl
 have hlast:s.ts.getLast?=some (n,r):=by rw[List.getLast?_eq_getElem?];exact ht
 obtain⟨i,hi⟩:∃ i,F.g.ins[n]?=some i:=⟨_,List.getElem?_eq_getElem hn⟩
 have hi':(F.g.ins.map insAV)[n]?=some (insAV i):=by simp[hi]
 have hdone:doneL F.g.ins (s.ts.map (·.1))=(i.op == 0):=by simp[doneL,hlast,hi]
 have ht':(s.ts.map (thAV F.f)++s.j.map (thAV F.f))[s.ts.length - 1]?=some (thAV F.f (n,r)):=by
  rw[List.getElem?_append_left (by simp;omega),List.getElem?_map,ht];rfl
 by_cases h0:i.op=0
 ·have e:seeF F c q s = { F with b7:=resB F.f q (capsL c r),b8:=.row 1 [.bool true] 0 }:=by unfold seeF;rw[hdone,if_pos (by simp[h0]),hlast];rfl
  rw[e]
  simp +contextual (disch:=omega) only[Try.f56,dd56,go_sem,↓reduceIte,List.reduceReplicate,Nat.reduceAdd,Nat.reduceSub,reduceCtorEq,Nat.reduceLeDiff,Nat.reduceMul,Nat.reduceLT,Nat.reduceEqDiff,Int.reduceBNe,Int.reduceBEq,frzB,Int.reduceEq,Int.reduceLT,Int.reduceLE,Int.reduceGT,Int.reduceGE,mu56,Nat.reduceBEq,↓wrap_up,↓wrap_down,↓wrap_pred,↓wrap_sub_nat,Int.reduceToNat,ht',hi',h0,h7,h8,hc,sameAt_succ]
  repeat' (first|intro _|apply And.intro|(unfold dOk;kernel_rfl)|exact St.beq_refl _|(show altO _ _ _ _=true;kernel_rfl)|(show (_ || _)=true;kernel_rfl)|(show (_ && _)=true;kernel_rfl))
  have hfr:∀(n':Nat) (t:Tm),frzB ⟨n',t,hpA { F with b7:=.row 3 [.agg [I F.f,NV q,.ms 17 2 c 0 c]] 0,b8:=.row 1 [.bool true] 0 } s [.row 3 [.agg [NV n,I F.f,.sl false (r.map I)]] 0,.row 2 ((capsL c r).map pairAV) 0]⟩ 7 =
    ⟨n',t,hpA { F with b7:=resB F.f q (capsL c r),b8:=.row 1 [.bool true] 0 } s [.row 3 [.agg [NV n,I F.f,.sl false (r.map I)]] 0,.row 2 ((capsL c r).map pairAV) c]⟩:=by
   intro n' t
   have hz:=fzA_row (n:=5) (tot:=c) (H:=hpA { F with b7:=.row 3 [.agg [I F.f,NV q,.ms 17 2 c 0 c]] 0,b8:=.row 1 [.bool true] 0 } s [.row 3 [.agg [NV n,I F.f,.sl false (r.map I)]] 0,.row 2 ((capsL c r).map pairAV) 0]) (id:=17) (k:=2) (z:=0) rfl (by simp[capsL_len]) (plain_pair _)
   have hm:mark (hpA { F with b7:=.row 3 [.agg [I F.f,NV q,.ms 17 2 c 0 c]] 0,b8:=.row 1 [.bool true] 0 } s [.row 3 [.agg [NV n,I F.f,.sl false (r.map I)]] 0,.row 2 ((capsL c r).map pairAV) 0]) 17 c =
     hpA { F with b7:=.row 3 [.agg [I F.f,NV q,.ms 17 2 c 0 c]] 0,b8:=.row 1 [.bool true] 0 } s [.row 3 [.agg [NV n,I F.f,.sl false (r.map I)]] 0,.row 2 ((capsL c r).map pairAV) c]:=by
    show List.set _ _ _=_
    simp[hpA]
   rw[hm]at hz
   have hfz:fzs [.agg [I F.f,NV q,.ms 17 2 c 0 c]] (hpA { F with b7:=.row 3 [.agg [I F.f,NV q,.ms 17 2 c 0 c]] 0,b8:=.row 1 [.bool true] 0 } s [.row 3 [.agg [NV n,I F.f,.sl false (r.map I)]] 0,.row 2 ((capsL c r).map pairAV) 0]) =
     some ([.agg [I F.f,NV q,.sl false ((capsL c r).map pairAV)]],hpA { F with b7:=.row 3 [.agg [I F.f,NV q,.ms 17 2 c 0 c]] 0,b8:=.row 1 [.bool true] 0 } s [.row 3 [.agg [NV n,I F.f,.sl false (r.map I)]] 0,.row 2 ((capsL c r).map pairAV) c]):=by
    simp only[fzs,fzL,fzA_agg,fzA_int,hz]
   have hg1:∀ K',getRow (hpA { F with b7:=.row 3 [.agg [I F.f,NV q,.ms 17 2 c 0 c]] 0,b8:=.row 1 [.bool true] 0 } s K') 7=some (3,[.agg [I F.f,NV q,.ms 17 2 c 0 c]],0):=fun K'=>rfl
   unfold frzB
   simp only[hg1,hfz,AV.beqL_refl,if_true]
   rfl
  refine W_count (M:=(mskOf (pol1.mask 56) (pol1.gc 56) (pol1.acts 56) 0 9)) rfl c (fun i=>(⟨77,[(47,I i),(46,I c),(8,.rf 16 1 0 0),(4,.rf 7 1 0 0)],hpA { F with b7:=.row 3 [.agg [I F.f,NV q,.ms 17 2 c 0 c]] 0,b8:=.row 1 [.bool true] 0 } s [.row 3 [.agg [NV n,I F.f,.sl false (r.map I)]] 0,.row 2 ((capsZ c i r).map pairAV) 0]⟩:St)) (fun _=>True) ?_ ?_ trivial _ ?_
  ·intro k hk _
   obtain⟨u,hu⟩:∃ u,r[2 * k]?=some u:=⟨_,List.getElem?_eq_getElem (by omega)⟩
   obtain⟨v,hv⟩:∃ v,r[2 * k+1]?=some v:=⟨_,List.getElem?_eq_getElem (by omega)⟩
   have hu':(r.map I)[2 * k]?=some (I u):=by simp[hu]
   have hv':(r.map I)[2 * k+1]?=some (I v):=by simp[hv]
   have hw:IntKind.i64.wrap (2 * (k:Int))=((2 * k:Nat):Int):=by rw[i64_in]<;>omega
   have hz:=capsZ_at hk r
   have hzl:(capsZ c k r).length=c:=capsZ_len (by omega) r
   have hat:=capsL_at r hk
   rw[List.getD_eq_getElem?_getD,List.getD_eq_getElem?_getD,hu,hv]at hat
   simp only[Option.getD_some]at hat
   have hset:∀ p,(capsL c r)[k]?=some p→((capsZ c k r).map pairAV).set k (.agg [I p.1,I p.2])=(capsZ c (k+1) r).map pairAV:=by
    intro p hp
    rw[← capsZ_set hk hp,List.map_set]
   by_cases h1:u = -1
   ·have hs:=hset _ (by rw[hat,if_pos (.inl h1)])
    simp +contextual (disch:=omega) only[Try.f56,dd56,go_sem,↓reduceIte,List.reduceReplicate,Nat.reduceAdd,Nat.reduceSub,reduceCtorEq,Nat.reduceLeDiff,Nat.reduceMul,Nat.reduceLT,Nat.reduceEqDiff,Int.reduceBNe,Int.reduceBEq,frzB,Int.reduceEq,Int.reduceLT,Int.reduceLE,Int.reduceGT,Int.reduceGE,mu56,Nat.reduceBEq,↓wrap_up,↓wrap_down,↓wrap_pred,↓wrap_sub_nat,Int.reduceToNat,hu',hv',hw,hz,hzl,hs,h1]
    repeat' (first|intro _|apply And.intro|(unfold dOk;kernel_rfl)|exact St.beq_refl _|(show altO _ _ _ _=true;kernel_rfl)|(show (_ || _)=true;kernel_rfl)|(show (_ && _)=true;kernel_rfl))
    all_goals rfl
   ·by_cases h2:v = -1
    ·have hs:=hset _ (by rw[hat,if_pos (.inr h2)])
     simp +contextual (disch:=omega) only[Try.f56,dd56,go_sem,↓reduceIte,List.reduceReplicate,Nat.reduceAdd,Nat.reduceSub,reduceCtorEq,Nat.reduceLeDiff,Nat.reduceMul,Nat.reduceLT,Nat.reduceEqDiff,Int.reduceBNe,Int.reduceBEq,frzB,Int.reduceEq,Int.reduceLT,Int.reduceLE,Int.reduceGT,Int.reduceGE,mu56,Nat.reduceBEq,↓wrap_up,↓wrap_down,↓wrap_pred,↓wrap_sub_nat,Int.reduceToNat,hu',hv',hw,hz,hzl,hs,h1,h2]
     repeat' (first|intro _|apply And.intro|(unfold dOk;kernel_rfl)|exact St.beq_refl _|(show altO _ _ _ _=true;kernel_rfl)|(show (_ || _)=true;kernel_rfl)|(show (_ && _)=true;kernel_rfl))
     all_goals rfl
    ·have hs:=hset _ (by rw[hat,if_neg (by omega)])
     simp +contextual (disch:=omega) only[Try.f56,dd56,go_sem,↓reduceIte,List.reduceReplicate,Nat.reduceAdd,Nat.reduceSub,reduceCtorEq,Nat.reduceLeDiff,Nat.reduceMul,Nat.reduceLT,Nat.reduceEqDiff,Int.reduceBNe,Int.reduceBEq,frzB,Int.reduceEq,Int.reduceLT,Int.reduceLE,Int.reduceGT,Int.reduceGE,mu56,Nat.reduceBEq,↓wrap_up,↓wrap_down,↓wrap_pred,↓wrap_sub_nat,Int.reduceToNat,hu',hv',hw,hz,hzl,hs,h1,h2]
     repeat' (first|intro _|apply And.intro|(unfold dOk;kernel_rfl)|exact St.beq_refl _|(show altO _ _ _ _=true;kernel_rfl)|(show (_ || _)=true;kernel_rfl)|(show (_ && _)=true;kernel_rfl))
     all_goals rfl
  ·intro _
   rw[capsZ_all]
   simp +contextual (disch:=omega) only[Try.f56,dd56,go_sem,↓reduceIte,List.reduceReplicate,Nat.reduceAdd,Nat.reduceSub,reduceCtorEq,Nat.reduceLeDiff,Nat.reduceMul,Nat.reduceLT,Nat.reduceEqDiff,Int.reduceBNe,Int.reduceBEq,Int.reduceEq,Int.reduceLT,Int.reduceLE,Int.reduceGT,Int.reduceGE,mu56,Nat.reduceBEq,↓wrap_up,↓wrap_down,↓wrap_pred,↓wrap_sub_nat,Int.reduceToNat,hfr]
   exact fin2 _ _
  ·rw[capsZ_zero];rfl
 ·have e:seeF F c q s=F:=by unfold seeF;rw[hdone,if_neg (by simp[h0])]
  rw[e]
  simp +contextual (disch:=omega) only[Try.f56,dd56,go_sem,↓reduceIte,List.reduceReplicate,Nat.reduceAdd,Nat.reduceSub,reduceCtorEq,Nat.reduceLeDiff,Nat.reduceMul,Nat.reduceLT,Nat.reduceEqDiff,Int.reduceBNe,Int.reduceBEq,frzB,Int.reduceEq,Int.reduceLT,Int.reduceLE,Int.reduceGT,Int.reduceGE,mu56,Nat.reduceBEq,↓wrap_up,↓wrap_down,↓wrap_pred,↓wrap_sub_nat,Int.reduceToNat,ht',hi',h0,h7,h8]
  repeat' (first|intro _|apply And.intro|(unfold dOk;kernel_rfl)|exact St.beq_refl _|(show altO _ _ _ _=true;kernel_rfl)|(show (_ || _)=true;kernel_rfl)|(show (_ && _)=true;kernel_rfl))
  all_goals (have:=fin0 (.row 3 [.agg [NV n,I F.f,.sl false (r.map I)]] 0);simpa only[hpA,h7,h8] using this)
theorem keptSB (F:PF) (s:PS) (K':List MB) (f:Int) (q:Nat) (l:List (Int×Int)):keptOk (hpB F s []).length (hpB F s []) (hpB { F with b7:=resB f q l,b8:=.row 1 [.bool true] 0 } s K')=true:=by
 have hp1:=fun n=>underL_plain n _ (plain_pair l)
 simp only[hpB,keptOk,MB.beq_refl,MB.under,AV.underL,AV.under,hp1,Bool.and_self,Bool.or_true,Bool.true_or,Bool.and_true,Bool.true_and,List.length_cons]
theorem f56B (F:PF) (hl:F.g.ins.length≤1000000) (c q:Nat) (hc:F.g.caps=c) (hc9:c≤9) (s:PS) (hts:s.ts.length≤1000000) (hr:∀ t∈s.ts,t.1 < F.g.ins.length∧t.2.length=2 * c) (x:Bool) (a b:Int) (capv:AV) (h7:F.b7=.row 3 [.agg [I a,I b,capv]] 0) (h8:F.b8=.row 1 [.bool x] 0) :
  call Try.prog pol1 56 (NV q::.ms 13 3 (s.ts.length+s.j.length) 0 s.ts.length::capS) (hpB F s [])=some (.bool true,hpB (seeF F c q s) s []):=by
 have fin:retPol pol1 56 (hpB F s []) (.bool true) (hpB F s [])=some (.bool true,hpB F s []):=retPol_keep rfl rfl rfl (by have:=keptB F s s [] [];simpa using this) (by simp[hpB])
 have fin0:∀ x,retPol pol1 56 (hpB F s []) (.bool true) (hpB F s [x])=some (.bool true,hpB F s []):=fun x=>retPol_keep rfl rfl rfl (by have:=keptB F s s [] [x];simpa using this) (by simp[hpB])
 have fin2:∀(K':List MB) (l:List (Int×Int)),retPol pol1 56 (hpB F s []) (.bool true) (hpB { F with b7:=resB F.f q l,b8:=.row 1 [.bool true] 0 } s K')=some (.bool true,hpB { F with b7:=resB F.f q l,b8:=.row 1 [.bool true] 0 } s []):=fun K' l=>retPol_keep rfl rfl rfl (keptSB F s K' F.f q l) (by simp[hpB])
 refine call_run2 (pol:=pol1) Try.func56 rfl rfl rfl rfl (frzArgs_mix _ _ _ rfl) ?_
 by_cases hnil:s.ts=[]
 ·have e:seeF F c q s=F:=by unfold seeF;rw[hnil];simp[doneL]
  rw[e]
  obtain⟨ts,m,cc,j⟩:=s
  simp only at hnil
  subst hnil
  simp +contextual (disch:=omega) only[Try.f56,dd56,go_sem,↓reduceIte,List.reduceReplicate,Nat.reduceAdd,Nat.reduceSub,reduceCtorEq,Nat.reduceLeDiff,Nat.reduceMul,Nat.reduceLT,Nat.reduceEqDiff,Int.reduceBNe,Int.reduceBEq,frzB,Int.reduceEq,Int.reduceLT,Int.reduceLE,Int.reduceGT,Int.reduceGE,mu56,Nat.reduceBEq,↓wrap_up,↓wrap_down,↓wrap_pred,↓wrap_sub_nat,Int.reduceToNat]
  exact fin
 have hpos:0 < s.ts.length:=List.length_pos_iff.2 hnil
 obtain⟨t,ht⟩:∃ t,s.ts[s.ts.length - 1]?=some t:=⟨_,List.getElem?_eq_getElem (by omega)⟩
 obtain⟨n,r⟩:=t
 obtain⟨hn,hrl⟩:=hr _ (List.mem_of_getElem? ht)
 simp only at hn hrl
 have hlast:s.ts.getLast?=some (n,r):=by rw[List.getLast?_eq_getElem?];exact ht
 obtain⟨i,hi⟩:∃ i,F.g.ins[n]?=some i:=⟨_,List.getElem?_eq_getElem hn⟩
 have hi':(F.g.ins.map insAV)[n]?=some (insAV i):=by simp[hi]
 have hdone:doneL F.g.ins (s.ts.map (·.1))=(i.op == 0):=by simp[doneL,hlast,hi]
 have ht':(s.ts.map (thAV F.f)++s.j.map (thAV F.f))[s.ts.length - 1]?=some (thAV F.f (n,r)):=by
  rw[List.getElem?_append_left (by simp;omega),List.getElem?_map,ht];rfl
 by_cases h0:i.op=0
 ·have e:seeF F c q s = { F with b7:=resB F.f q (capsL c r),b8:=.row 1 [.bool true] 0 }:=by unfold seeF;rw[hdone,if_pos (by simp[h0]),hlast];rfl
  rw[e]
  simp +contextual (disch:=omega) only[Try.f56,dd56,go_sem,↓reduceIte,List.reduceReplicate,Nat.reduceAdd,Nat.reduceSub,reduceCtorEq,Nat.reduceLeDiff,Nat.reduceMul,Nat.reduceLT,Nat.reduceEqDiff,Int.reduceBNe,Int.reduceBEq,frzB,Int.reduceEq,Int.reduceLT,Int.reduceLE,Int.reduceGT,Int.reduceGE,mu56,Nat.reduceBEq,↓wrap_up,↓wrap_down,↓wrap_pred,↓wrap_sub_nat,Int.reduceToNat,ht',hi',h0,h7,h8,hc,sameAt_succ]
  repeat' (first|intro _|apply And.intro|(unfold dOk;kernel_rfl)|exact St.beq_refl _|(show altO _ _ _ _=true;kernel_rfl)|(show (_ || _)=true;kernel_rfl)|(show (_ && _)=true;kernel_rfl))
  have hfr:∀(n':Nat) (t:Tm),frzB ⟨n',t,hpB { F with b7:=.row 3 [.agg [I F.f,NV q,.ms 17 2 c 0 c]] 0,b8:=.row 1 [.bool true] 0 } s [.row 3 [.agg [NV n,I F.f,.sl false (r.map I)]] 0,.row 2 ((capsL c r).map pairAV) 0]⟩ 7 =
    ⟨n',t,hpB { F with b7:=resB F.f q (capsL c r),b8:=.row 1 [.bool true] 0 } s [.row 3 [.agg [NV n,I F.f,.sl false (r.map I)]] 0,.row 2 ((capsL c r).map pairAV) c]⟩:=by
   intro n' t
   have hz:=fzA_row (n:=5) (tot:=c) (H:=hpB { F with b7:=.row 3 [.agg [I F.f,NV q,.ms 17 2 c 0 c]] 0,b8:=.row 1 [.bool true] 0 } s [.row 3 [.agg [NV n,I F.f,.sl false (r.map I)]] 0,.row 2 ((capsL c r).map pairAV) 0]) (id:=17) (k:=2) (z:=0) rfl (by simp[capsL_len]) (plain_pair _)
   have hm:mark (hpB { F with b7:=.row 3 [.agg [I F.f,NV q,.ms 17 2 c 0 c]] 0,b8:=.row 1 [.bool true] 0 } s [.row 3 [.agg [NV n,I F.f,.sl false (r.map I)]] 0,.row 2 ((capsL c r).map pairAV) 0]) 17 c =
     hpB { F with b7:=.row 3 [.agg [I F.f,NV q,.ms 17 2 c 0 c]] 0,b8:=.row 1 [.bool true] 0 } s [.row 3 [.agg [NV n,I F.f,.sl false (r.map I)]] 0,.row 2 ((capsL c r).map pairAV) c]:=by
    show List.set _ _ _=_
    simp[hpB]
   rw[hm]at hz
   have hfz:fzs [.agg [I F.f,NV q,.ms 17 2 c 0 c]] (hpB { F with b7:=.row 3 [.agg [I F.f,NV q,.ms 17 2 c 0 c]] 0,b8:=.row 1 [.bool true] 0 } s [.row 3 [.agg [NV n,I F.f,.sl false (r.map I)]] 0,.row 2 ((capsL c r).map pairAV) 0]) =
     some ([.agg [I F.f,NV q,.sl false ((capsL c r).map pairAV)]],hpB { F with b7:=.row 3 [.agg [I F.f,NV q,.ms 17 2 c 0 c]] 0,b8:=.row 1 [.bool true] 0 } s [.row 3 [.agg [NV n,I F.f,.sl false (r.map I)]] 0,.row 2 ((capsL c r).map pairAV) c]):=by
    simp only[fzs,fzL,fzA_agg,fzA_int,hz]
   have hg1:∀ K',getRow (hpB { F with b7:=.row 3 [.agg [I F.f,NV q,.ms 17 2 c 0 c]] 0,b8:=.row 1 [.bool true] 0 } s K') 7=some (3,[.agg [I F.f,NV q,.ms 17 2 c 0 c]],0):=fun K'=>rfl
   unfold frzB
   simp only[hg1,hfz,AV.beqL_refl,if_true]
   rfl
  refine W_count (M:=(mskOf (pol1.mask 56) (pol1.gc 56) (pol1.acts 56) 0 9)) rfl c (fun i=>(⟨77,[(47,I i),(46,I c),(8,.rf 16 1 0 0),(4,.rf 7 1 0 0)],hpB { F with b7:=.row 3 [.agg [I F.f,NV q,.ms 17 2 c 0 c]] 0,b8:=.row 1 [.bool true] 0 } s [.row 3 [.agg [NV n,I F.f,.sl false (r.map I)]] 0,.row 2 ((capsZ c i r).map pairAV) 0]⟩:St)) (fun _=>True) ?_ ?_ trivial _ ?_
  ·intro k hk _
   obtain⟨u,hu⟩:∃ u,r[2 * k]?=some u:=⟨_,List.getElem?_eq_getElem (by omega)⟩
   obtain⟨v,hv⟩:∃ v,r[2 * k+1]?=some v:=⟨_,List.getElem?_eq_getElem (by omega)⟩
   have hu':(r.map I)[2 * k]?=some (I u):=by simp[hu]
   have hv':(r.map I)[2 * k+1]?=some (I v):=by simp[hv]
   have hw:IntKind.i64.wrap (2 * (k:Int))=((2 * k:Nat):Int):=by rw[i64_in]<;>omega
   have hz:=capsZ_at hk r
   have hzl:(capsZ c k r).length=c:=capsZ_len (by omega) r
   have hat:=capsL_at r hk
   rw[List.getD_eq_getElem?_getD,List.getD_eq_getElem?_getD,hu,hv]at hat
   simp only[Option.getD_some]at hat
   have hset:∀ p,(capsL c r)[k]?=some p→((capsZ c k r).map pairAV).set k (.agg [I p.1,I p.2])=(capsZ c (k+1) r).map pairAV:=by
    intro p hp
    rw[← capsZ_set hk hp,List.map_set]
   by_cases h1:u = -1
   ·have hs:=hset _ (by rw[hat,if_pos (.inl h1)])
    simp +contextual (disch:=omega) only[Try.f56,dd56,go_sem,↓reduceIte,List.reduceReplicate,Nat.reduceAdd,Nat.reduceSub,reduceCtorEq,Nat.reduceLeDiff,Nat.reduceMul,Nat.reduceLT,Nat.reduceEqDiff,Int.reduceBNe,Int.reduceBEq,frzB,Int.reduceEq,Int.reduceLT,Int.reduceLE,Int.reduceGT,Int.reduceGE,mu56,Nat.reduceBEq,↓wrap_up,↓wrap_down,↓wrap_pred,↓wrap_sub_nat,Int.reduceToNat,hu',hv',hw,hz,hzl,hs,h1]
    repeat' (first|intro _|apply And.intro|(unfold dOk;kernel_rfl)|exact St.beq_refl _|(show altO _ _ _ _=true;kernel_rfl)|(show (_ || _)=true;kernel_rfl)|(show (_ && _)=true;kernel_rfl))
    all_goals rfl
   ·by_cases h2:v = -1
    ·have hs:=hset _ (by rw[hat,if_pos (.inr h2)])
     simp +contextual (disch:=omega) only[Try.f56,dd56,go_sem,↓reduceIte,List.reduceReplicate,Nat.reduceAdd,Nat.reduceSub,reduceCtorEq,Nat.reduceLeDiff,Nat.reduceMul,Nat.reduceLT,Nat.reduceEqDiff,Int.reduceBNe,Int.reduceBEq,frzB,Int.reduceEq,Int.reduceLT,Int.reduceLE,Int.reduceGT,Int.reduceGE,mu56,Nat.reduceBEq,↓wrap_up,↓wrap_down,↓wrap_pred,↓wrap_sub_nat,Int.reduceToNat,hu',hv',hw,hz,hzl,hs,h1,h2]
     repeat' (first|intro _|apply And.intro|(unfold dOk;kernel_rfl)|exact St.beq_refl _|(show altO _ _ _ _=true;kernel_rfl)|(show (_ || _)=true;kernel_rfl)|(show (_ && _)=true;kernel_rfl))
     all_goals rfl
    ·have hs:=hset _ (by rw[hat,if_neg (by omega)])
     simp +contextual (disch:=omega) only[Try.f56,dd56,go_sem,↓reduceIte,List.reduceReplicate,Nat.reduceAdd,Nat.reduceSub,reduceCtorEq,Nat.reduceLeDiff,Nat.reduceMul,Nat.reduceLT,Nat.reduceEqDiff,Int.reduceBNe,Int.reduceBEq,frzB,Int.reduceEq,Int.reduceLT,Int.reduceLE,Int.reduceGT,Int.reduceGE,mu56,Nat.reduceBEq,↓wrap_up,↓wrap_down,↓wrap_pred,↓wrap_sub_nat,Int.reduceToNat,hu',hv',hw,hz,hzl,hs,h1,h2]
     repeat' (first|intro _|apply And.intro|(unfold dOk;kernel_rfl)|exact St.beq_refl _|(show altO _ _ _ _=true;kernel_rfl)|(show (_ || _)=true;kernel_rfl)|(show (_ && _)=true;kernel_rfl))
     all_goals rfl
  ·intro _
   rw[capsZ_all]
   simp +contextual (disch:=omega) only[Try.f56,dd56,go_sem,↓reduceIte,List.reduceReplicate,Nat.reduceAdd,Nat.reduceSub,reduceCtorEq,Nat.reduceLeDiff,Nat.reduceMul,Nat.reduceLT,Nat.reduceEqDiff,Int.reduceBNe,Int.reduceBEq,Int.reduceEq,Int.reduceLT,Int.reduceLE,Int.reduceGT,Int.reduceGE,mu56,Nat.reduceBEq,↓wrap_up,↓wrap_down,↓wrap_pred,↓wrap_sub_nat,Int.reduceToNat,hfr]
   exact fin2 _ _
  ·rw[capsZ_zero];rfl
 ·have e:seeF F c q s=F:=by unfold seeF;rw[hdone,if_neg (by simp[h0])]
  rw[e]
  simp +contextual (disch:=omega) only[Try.f56,dd56,go_sem,↓reduceIte,List.reduceReplicate,Nat.reduceAdd,Nat.reduceSub,reduceCtorEq,Nat.reduceLeDiff,Nat.reduceMul,Nat.reduceLT,Nat.reduceEqDiff,Int.reduceBNe,Int.reduceBEq,frzB,Int.reduceEq,Int.reduceLT,Int.reduceLE,Int.reduceGT,Int.reduceGE,mu56,Nat.reduceBEq,↓wrap_up,↓wrap_down,↓wrap_pred,↓wrap_sub_nat,Int.reduceToNat,ht',hi',h0,h7,h8]
  repeat' (first|intro _|apply And.intro|(unfold dOk;kernel_rfl)|exact St.beq_refl _|(show altO _ _ _ _=true;kernel_rfl)|(show (_ || _)=true;kernel_rfl)|(show (_ && _)=true;kernel_rfl))
  all_goals (have:=fin0 (.row 3 [.agg [NV n,I F.f,.sl false (r.map I)]] 0);simpa only[hpB,h7,h8] using this)
end
end Go.Ev
