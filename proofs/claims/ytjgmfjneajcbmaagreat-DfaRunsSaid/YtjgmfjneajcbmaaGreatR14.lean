/- Functions of the program, each with what it computes; no further conditions. -/
import Derived.Test.YtjgmfjneajcbmaaGreatR06
import Derived.Test.YtjgmfjneajcbmaaGreatR12
import Derived.Test.YtjgmfjneajcbmaaGreatR13
set_option linter.unusedVariables false
set_option linter.unusedSimpArgs false
namespace Go.Ev
attribute [local go_sem] eq_self bindW_some bindW_map bindW_ite bindW_iteN W_seq W_region W_draw W_cond W_condK W_ret W_skip W_exit W_scope W_label W_block blockK_norm blockK_ret blockK_exit WO_nil WO_cons WO_guard WD_nil WD_cons WD_guard guardV guardW_boolT guardW_boolF guardW_tup fpL_some fpL_none footprint footprint0 fineF thenK_norm thenK_ret thenK_exit put_some put_none ev_tmp ev_con ev_func ofK_int ofK_bool ofK_str ofK_nil ofK_agg ofC_int ofC_bool ofC_str ofC_nil ofC_nilp one_int one_bool one_str one_nil one_nilp evOp evBuiltin evCall evLen getElem_16 getElem_4 List.length_cons List.length_nil List.cons_append List.nil_append List.append_nil if_false if_true Bool.false_eq_true Bool.true_eq_false Option.map_some Option.map_none List.map_cons List.map_nil evBinOp evBin evUn asB_bool splitB_decide splitB_true splitB_false splitB_beq splitB_bne splitB_not endK_ret endK_norm List.getElem?_cons_zero List.getElem?_cons_succ evResults evResult packRes retK_norm retK_ret cellsAt mkVal evFieldAddr evField evIndexAddr evPart evStore evBuild evBuildSlice fillC fillE evSlice evMakeSlice evConvert getRow AV.cells List.head?_cons List.drop_zero List.drop_succ_cons List.take_zero List.take_succ_cons List.drop_nil List.take_nil List.all_cons List.all_nil AV.ok Bool.and_self Bool.and_true Bool.true_and and_self and_true true_and Nat.zero_add Nat.add_zero setCells splice pairsOk pairsX altW_none altW_some cfg_al WI_nil WI_cons FP.apart heapEq_refl sameAt_refl Bool.or_true Bool.true_or Bool.or_false srcElems elemsOf mutDst indDst evLenH evMapUpd evLookup getMp keyOk resOk strOf roundK_norm roundK_exit roundK_ret List.length_map List.getElem?_map Int.toNat_natCast decide_true decide_false Bool.not_true Bool.not_false List.set set_0 set_1 set_2 set_3 set_4 look_hit look lookD_hit lookD_cons lookD_nil ins_hit ins upd_hit upd rem1_hit rem1 dropT dropSt_eq initT cfg_dd cfg_bd cfg_ra actL_nil actL_cons act1 updT_hit updT frzB retE_norm retE_ret bndO bnd evEq eqCells not_false_eq_true not_true_eq_false toList_some Array.size_empty List.length_append List.map_append tySzE List.head?_drop Nat.mul_one sameAt_zero sameAt_two sameAt_three sameAt_four sameAt_five endE_norm endE_ret head_take1 List.contains_nil List.contains_cons Bool.or_self dlt_t dlt_f dle_t dle_f dgt_t dgt_f dge_t dge_f beq_t beq_f bne_t bne_f lt_T le_T nle_T nle_F Go.IntWalk.i64_in Go.IntWalk.i64_quo Go.IntWalk.rem_in room_ok ty0 ty3 ty4 ty22 ty33
section
attribute [local go_sem] ty31 ty87 ty146
open Go.Proofs Go.RowKit Go.IntWalk
set_option maxRecDepth 100000
set_option maxHeartbeats 4000000
theorem kf60h (l:List Nat) (n:Nat) (hl:l.length≤4000000000) (H:List MB):call Tryz.prog pol1 60 [.sl false (l.map NV),NV n] H=some (.bool (decide (n∈l)),H):=by
 have hpl:=plain_nv l
 refine call_run Tryz.func60 rfl rfl rfl rfl rfl rfl (fun _=>rfl) (by simp[AV.plain,AV.plainL,hpl]) (by simp[AV.plain]) ?_ H
 simp +contextual (disch:=omega) only[Tryz.f60,dd60,go_sem,↓reduceIte,evAppend,List.reduceReplicate,Nat.reduceAdd,Nat.reduceSub,reduceCtorEq,Nat.reduceLeDiff,Nat.reduceMul,Nat.reduceLT,Nat.reduceEqDiff,Int.reduceBNe,Int.reduceBEq,Int.reduceEq,Int.reduceLT,Int.reduceLE,Int.reduceGT,Int.reduceGE,mu60,Nat.reduceBEq,↓wrap_up,↓wrap_down,↓wrap_pred,↓wrap_sub_nat,Int.reduceToNat]
 refine W_count (M:=(mskOf (pol1.mask 60) (pol1.gc 60) (pol1.acts 60) 0 2)) rfl l.length (fun i=>(⟨18,[(5,I i),(1,NV n),(0,.sl false (l.map NV))],[]⟩:St)) (fun i=>∀ k m,k < i→l[k]?=some m→m≠n) ?_ ?_ (fun k p h=>by omega) _ (by first|rfl|(refine prep_cut rfl (by rfl) (by rfl) (by rfl) ?_ ?_<;>simp[AV.underL,AV.under,MB.under,underL_plain,under_plain,plain_ints,plain_span,plain_ins,plain_prg,-List.map_take]))
 ·intro i hi hg
  obtain⟨m,hm⟩:∃ m,l[i]?=some m:=⟨_,List.getElem?_eq_getElem hi⟩
  have hm':(l.map NV)[i]?=some (NV m):=by simp[hm]
  by_cases he:m=n
  ·subst he
   have hd:decide (m∈l)=true:=decide_eq_true (List.mem_of_getElem? hm)
   rw[hd]
   simp +contextual (disch:=omega) only[Tryz.f60,dd60,go_sem,↓reduceIte,evAppend,List.reduceReplicate,Nat.reduceAdd,Nat.reduceSub,reduceCtorEq,Nat.reduceLeDiff,Nat.reduceMul,Nat.reduceLT,Nat.reduceEqDiff,Int.reduceBNe,Int.reduceBEq,Int.reduceEq,Int.reduceLT,Int.reduceLE,Int.reduceGT,Int.reduceGE,mu60,Nat.reduceBEq,↓wrap_up,↓wrap_down,↓wrap_pred,↓wrap_sub_nat,Int.reduceToNat,hm']
   exact fzEq rfl rfl
  ·have hne:(m:Int)≠n:=by omega
   simp +contextual (disch:=omega) only[Tryz.f60,dd60,go_sem,↓reduceIte,evAppend,List.reduceReplicate,Nat.reduceAdd,Nat.reduceSub,reduceCtorEq,Nat.reduceLeDiff,Nat.reduceMul,Nat.reduceLT,Nat.reduceEqDiff,Int.reduceBNe,Int.reduceBEq,Int.reduceEq,Int.reduceLT,Int.reduceLE,Int.reduceGT,Int.reduceGE,mu60,Nat.reduceBEq,↓wrap_up,↓wrap_down,↓wrap_pred,↓wrap_sub_nat,Int.reduceToNat,hm']
   refine⟨fun k q hk hq=>?_,(by first|rfl|(refine prep_cut rfl (by rfl) (by rfl) (by rfl) ?_ ?_<;>simp[AV.underL,AV.under,MB.under,underL_plain,under_plain,plain_ints,plain_span,plain_ins,plain_prg,-List.map_take]))⟩
   rcases Nat.lt_or_ge k i with h|h
   ·exact hg k q h hq
   ·obtain rfl:k=i:=by omega
    rw[hm]at hq
    obtain rfl:=Option.some.inj hq
    exact he
 ·intro hg
  have hd:decide (n∈l)=false:=decide_eq_false fun hn=>by
   obtain⟨k,hk,e⟩:=List.getElem_of_mem hn
   exact hg k n hk (by rw[← e];exact List.getElem?_eq_getElem hk) rfl
  rw[hd]
  simp +contextual (disch:=omega) only[Tryz.f60,dd60,go_sem,↓reduceIte,evAppend,List.reduceReplicate,Nat.reduceAdd,Nat.reduceSub,reduceCtorEq,Nat.reduceLeDiff,Nat.reduceMul,Nat.reduceLT,Nat.reduceEqDiff,Int.reduceBNe,Int.reduceBEq,Int.reduceEq,Int.reduceLT,Int.reduceLE,Int.reduceGT,Int.reduceGE,mu60,Nat.reduceBEq,↓wrap_up,↓wrap_down,↓wrap_pred,↓wrap_sub_nat,Int.reduceToNat]
  exact fzEq rfl rfl
abbrev hpR (b0:MB) (s:List Nat×List Nat) (z:Nat) (K:List MB):List MB:=b0::.row 1 (s.1.map NV) 0::.row 1 (s.2.map NV) z::K
theorem kf60m (b0:MB) (s:List Nat×List Nat) (z n:Nat) (hz:z≤s.2.length) (hs:s.2.length≤4000000000) (K:List MB) :
  call Tryz.prog pol1 60 [.ms 2 1 s.2.length 0 s.2.length,NV n] (hpR b0 s z K)=some (.bool (decide (n∈s.2)),hpR b0 s s.2.length K):=by
 have hrow:getRow (hpR b0 s z K) 2=some (1,s.2.map NV,z):=rfl
 have hz:=fz_row (tot:=s.2.length) hrow (by simp) (plain_nv _)
 have hm:mark (hpR b0 s z K) 2 s.2.length=hpR b0 s s.2.length K:=by
  unfold mark
  rw[hrow]
  simp only[hpR]
  rw[Nat.max_eq_right (by omega)]
  rfl
 rw[hm]at hz
 rw[call_frz2 (l:=[.sl false (s.2.map NV),NV n]) rfl ?_ (by simp[AV.plainL,AV.plain,plain_nv])]
 ·exact kf60h _ _ hs _
 ·have h1:pol1.byref 60 0=false:=rfl
  have h2:pol1.byref 60 (0+1)=false:=rfl
  simp only[frzArgs,h1,h2,Bool.false_eq_true,if_false,hz]
  rfl
theorem app_nz {H:List MB} {i n z:Nat} {rs:List Nat} {c:Nat} {t:Bool} (hi:getRow H i=some (1,rs.map NV,z)) (hz:z≤n) (hn:rs.length=n) (hr:n+1≤4000000000) :
  evAppend Tryz.prog H 22 22 (.ms i 1 n 0 n) (.sl t [NV c])=some (.ms i 1 (n+1) 0 (n+1),H.set i (.row 1 ((rs++[c]).map NV) z)):=by
 have hs:srcElems Tryz.prog H 3 (.sl t [NV c])=some [NV c]:=rfl
 rw[evAppend_end (e:=3) (by kernel_rfl) (by kernel_rfl) (k:=1) (by kernel_rfl) (by_:=8) (by kernel_rfl) (ze:=I 0) (by kernel_rfl) rfl (by omega) hs rfl hi (by rw[List.length_map];exact hn) hz (room_ok (by simpa using hr) (by omega))]
 rw[List.map_append]
 rfl
theorem getM1 (K:List MB) (x y:MB):(K++[x]++[y])[K.length]?=some x:=by simp
theorem getM2 (K:List MB) (x y:MB):(K++[x]++[y])[K.length+1]?=some y:=by simp
theorem setM2 (K:List MB) (x y z:MB):(K++[x]++[y]).set (K.length+1) z=K++[x]++[z]:=by
 rw[List.set_append_right _ _ (by simp)];simp
theorem kf75 (g:Prg) (hl:g.ins.length≤8192) (hw:Leads g.ins) (ho:∀ i∈g.ins,i.op=0∨i.op=1∨i.op=2∨i.op=3∨i.op=4) :
  ∀(k n:Nat) (s:List Nat×List Nat) (b0:MB) (z:Nat) (K:List MB),n < g.ins.length→ROk g.ins.length s→z≤s.2.length→g.ins.length < k+s.2.length →
  ∃ r,(∃ z' K',z'≤(rvisit g.ins k n s).2.length∧r=(AV.tup [.ms 1 1 (rvisit g.ins k n s).1.length 0 (rvisit g.ins k n s).1.length,.ms 2 1 (rvisit g.ins k n s).2.length 0 (rvisit g.ins k n s).2.length],hpR b0 (rvisit g.ins k n s) z' (K++K'))) ∧
    call Tryz.prog pol1 75 [prgAV g,.ms 1 1 s.1.length 0 s.1.length,.ms 2 1 s.2.length 0 s.2.length,NV n] (hpR b0 s z K)=some r:=by
 intro k
 induction k with
 | zero=>intro n s b0 z K _ hk _ h;have:=hk.small;omega
 | succ k ih=>
   intro n s b0 z K hn hk hz hopen
   have rp:∀ H1 r H,retPol pol1 75 H1 r H=some (r,H):=fun H1 r H=>rfl
   have hsm:=hk.small
   have hone:=hk.one
   have hgl:=fun x:MB=>kget_last K x
   have hpg:=plain_prg g
   have hH:=fun b K'=>kf60m b s z n hz (by omega) (K++K')
   refine call_run2E (pol:=pol1) Tryz.func75 rfl rfl rfl rfl (frzArgs_mix _ _ _ (by simp only[mixOk,hpg,Bool.or_true,Bool.true_and];rfl)) ?_
   obtain⟨i,hi⟩:∃ i,g.ins[n]?=some i:=⟨_,List.getElem?_eq_getElem hn⟩
   have hi':(g.ins.map insAV)[n]?=some (insAV i):=by simp[hi]
   by_cases hs:n∈s.2
   ·have e:rvisit g.ins (k+1) n s=s:=by simp only[rvisit];rw[if_pos hs]
    rw[e]
    have hd:decide (n∈s.2)=true:=decide_eq_true hs
    rw[hd]at hH
    simp only[hpR]at hH
    simp +contextual (disch:=omega) only[Tryz.f75,dd75,go_sem,↓reduceIte,evAppend,List.reduceReplicate,Nat.reduceAdd,Nat.reduceSub,reduceCtorEq,Nat.reduceLeDiff,Nat.reduceMul,Nat.reduceLT,Nat.reduceEqDiff,Int.reduceBNe,Int.reduceBEq,Int.reduceEq,Int.reduceLT,Int.reduceLE,Int.reduceGT,Int.reduceGE,mu75,Nat.reduceBEq,↓wrap_up,↓wrap_down,↓wrap_pred,↓wrap_sub_nat,Int.reduceToNat,hH,hgl]
    exact⟨_,⟨_,_,Nat.le_refl _,rfl⟩,rp _ _ _⟩
   have hd:decide (n∈s.2)=false:=decide_eq_false hs
   rw[hd]at hH
   simp only[hpR]at hH
   rw[show rvisit g.ins (k+1) n s=_ by simp only[rvisit];rw[if_neg hs],hi]
   simp only
   have g1:=fun x y:MB=>getM1 K x y
   have g2:=fun x y:MB=>getM2 K x y
   have g3:=fun x y z:MB=>setM2 K x y z
   have happ:∀(T:List MB) (t:Bool),evAppend Tryz.prog (b0::.row 1 (s.1.map NV) 0::.row 1 (s.2.map NV) s.2.length::T) 22 22 (.ms 2 1 s.2.length 0 s.2.length) (.sl t [NV n]) =
     some (.ms 2 1 (s.2.length+1) 0 (s.2.length+1),b0::.row 1 (s.1.map NV) 0::.row 1 (s.2.map NV++[NV n]) s.2.length::T):=by
    intro T t
    rw[app_nz (rs:=s.2) (z:=s.2.length) rfl (Nat.le_refl _) rfl (by omega),List.map_append];rfl
   have happ1:∀(T:List MB) (t:Bool),evAppend Tryz.prog (b0::.row 1 (s.1.map NV) 0::T) 22 22 (.ms 1 1 s.1.length 0 s.1.length) (.sl t [NV n]) =
     some (.ms 1 1 (s.1.length+1) 0 (s.1.length+1),b0::.row 1 (s.1.map NV++[NV n]) 0::T):=by
    intro T t
    rw[app_nz (rs:=s.1) (z:=0) rfl (Nat.zero_le _) rfl (by omega),List.map_append];rfl
   have hm:=hk.mark hn hs
   obtain⟨w0,w1,w2,w3⟩:=hw n i hi
   have hop:=ho i (List.mem_of_getElem? hi)
   by_cases h2:i.op=2
   ·rw[if_pos h2]
    obtain⟨x1,x2⟩:=w1 (.inl h2)
    obtain⟨y1,y2⟩:=w2 h2
    obtain⟨x,hx⟩:∃ x:Nat,i.x=x:=⟨i.x.toNat,by omega⟩
    obtain⟨y,hy⟩:∃ y:Nat,i.y=y:=⟨i.y.toNat,by omega⟩
    rw[hx]at x2 ⊢
    rw[hy]at y2 ⊢
    simp only[Int.toNat_natCast]at x2 y2 ⊢
    obtain⟨_,⟨z1,K1,hz1,rfl⟩,hc1⟩:=ih x (s.1,s.2++[n]) b0 s.2.length (K++[.row 3 [prgAV g] 0]++[.row 5 [.agg [I 2,NV x,NV y,I i.n,.sl false (i.set.map spanAV)]] 0]) x2 hm (by simp) (by simp;omega)
    have hv:=hm.visit (k:=k) (n:=x)
    obtain⟨_,⟨z2,K2,hz2,rfl⟩,hc2⟩:=ih y (rvisit g.ins k x (s.1,s.2++[n])) b0 z1 (K++[.row 3 [prgAV g] 0]++[.row 5 [.agg [I 2,NV x,NV y,I i.n,.sl false (i.set.map spanAV)]] 0]++K1) y2 hv.1 hz1 (by have:=hv.2;simp at this;omega)
    simp only[hpR,List.length_append,List.length_cons,List.length_nil,Nat.zero_add,List.map_append,List.map_cons,List.map_nil]at hc1 hc2
    have g4:(K++[MB.row 3 [prgAV g] 0]++[.row 5 [.agg [I 2,NV x,NV y,I i.n,.sl false (i.set.map spanAV)]] 0]++K1)[K.length]?=some (.row 3 [prgAV g] 0):=by simp
    have g5:(K++[MB.row 3 [prgAV g] 0]++[.row 5 [.agg [I 2,NV x,NV y,I i.n,.sl false (i.set.map spanAV)]] 0]++K1)[K.length+1]?=some (.row 5 [.agg [I 2,NV x,NV y,I i.n,.sl false (i.set.map spanAV)]] 0):=by
     rw[List.getElem?_append_left (by simp),getM2]
    simp +contextual (disch:=omega) only[Tryz.f75,dd75,go_sem,↓reduceIte,List.reduceReplicate,Nat.reduceAdd,Nat.reduceSub,reduceCtorEq,Nat.reduceLeDiff,Nat.reduceMul,Nat.reduceLT,Nat.reduceEqDiff,Int.reduceBNe,Int.reduceBEq,Int.reduceEq,Int.reduceLT,Int.reduceLE,Int.reduceGT,Int.reduceGE,mu75,Nat.reduceBEq,↓wrap_up,↓wrap_down,↓wrap_pred,↓wrap_sub_nat,Int.reduceToNat,hH,hgl,happ,hi',h2,hx,hy,g1,g2,g3,g4,g5,hc1,hc2]
    exact⟨_,⟨z2,[.row 3 [prgAV g] 0]++([.row 5 [.agg [I 2,NV x,NV y,I i.n,.sl false (i.set.map spanAV)]] 0]++(K1++K2)),hz2,by simp only[hpR,List.append_assoc]⟩,rp _ _ _⟩
   rw[if_neg h2]
   by_cases h3:i.op=3
   ·rw[if_pos h3]
    obtain⟨x1,x2⟩:=w1 (.inr h3)
    obtain⟨x,hx⟩:∃ x:Nat,i.x=x:=⟨i.x.toNat,by omega⟩
    rw[hx]at x2 ⊢
    simp only[Int.toNat_natCast]at x2 ⊢
    obtain⟨_,⟨z1,K1,hz1,rfl⟩,hc1⟩:=ih x (s.1,s.2++[n]) b0 s.2.length (K++[.row 3 [prgAV g] 0]++[.row 5 [.agg [I 3,NV x,I i.y,I i.n,.sl false (i.set.map spanAV)]] 0]) x2 hm (by simp) (by simp;omega)
    simp only[hpR,List.length_append,List.length_cons,List.length_nil,Nat.zero_add,List.map_append,List.map_cons,List.map_nil]at hc1
    simp +contextual (disch:=omega) only[Tryz.f75,dd75,go_sem,↓reduceIte,List.reduceReplicate,Nat.reduceAdd,Nat.reduceSub,reduceCtorEq,Nat.reduceLeDiff,Nat.reduceMul,Nat.reduceLT,Nat.reduceEqDiff,Int.reduceBNe,Int.reduceBEq,Int.reduceEq,Int.reduceLT,Int.reduceLE,Int.reduceGT,Int.reduceGE,mu75,Nat.reduceBEq,↓wrap_up,↓wrap_down,↓wrap_pred,↓wrap_sub_nat,Int.reduceToNat,hH,hgl,happ,hi',h3,hx,g1,g2,g3,hc1]
    exact⟨_,⟨z1,[.row 3 [prgAV g] 0]++([.row 5 [.agg [I 3,NV x,I i.y,I i.n,.sl false (i.set.map spanAV)]] 0]++K1),hz1,by simp only[hpR,List.append_assoc]⟩,rp _ _ _⟩
   rw[if_neg h3]
   by_cases h4:i.op=4
   ·rw[if_pos h4]
    have x2:=w3 (.inr (.inl h4))
    obtain⟨_,⟨z1,K1,hz1,rfl⟩,hc1⟩:=ih (n+1) (s.1,s.2++[n]) b0 s.2.length (K++[.row 3 [prgAV g] 0]++[.row 5 [.agg [I 4,I i.x,I i.y,I i.n,.sl false (i.set.map spanAV)]] 0]) x2 hm (by simp) (by simp;omega)
    simp only[hpR,List.length_append,List.length_cons,List.length_nil,Nat.zero_add,List.map_append,List.map_cons,List.map_nil]at hc1
    simp +contextual (disch:=omega) only[Tryz.f75,dd75,go_sem,↓reduceIte,List.reduceReplicate,Nat.reduceAdd,Nat.reduceSub,reduceCtorEq,Nat.reduceLeDiff,Nat.reduceMul,Nat.reduceLT,Nat.reduceEqDiff,Int.reduceBNe,Int.reduceBEq,Int.reduceEq,Int.reduceLT,Int.reduceLE,Int.reduceGT,Int.reduceGE,mu75,Nat.reduceBEq,↓wrap_up,↓wrap_down,↓wrap_pred,↓wrap_sub_nat,Int.reduceToNat,hH,hgl,happ,hi',h4,g1,g2,g3,hc1]
    exact⟨_,⟨z1,[.row 3 [prgAV g] 0]++([.row 5 [.agg [I 4,I i.x,I i.y,I i.n,.sl false (i.set.map spanAV)]] 0]++K1),hz1,by simp only[hpR,List.append_assoc]⟩,rp _ _ _⟩
   rw[if_neg h4]
   have h01:i.op=0∨i.op=1:=by omega
   rcases h01 with h0|h1
   ·simp +contextual (disch:=omega) only[Tryz.f75,dd75,go_sem,↓reduceIte,List.reduceReplicate,Nat.reduceAdd,Nat.reduceSub,reduceCtorEq,Nat.reduceLeDiff,Nat.reduceMul,Nat.reduceLT,Nat.reduceEqDiff,Int.reduceBNe,Int.reduceBEq,Int.reduceEq,Int.reduceLT,Int.reduceLE,Int.reduceGT,Int.reduceGE,mu75,Nat.reduceBEq,↓wrap_up,↓wrap_down,↓wrap_pred,↓wrap_sub_nat,Int.reduceToNat,hH,hgl,happ,happ1,hi',h0,g1,g2,g3]
    refine⟨_,⟨s.2.length,[.row 3 [prgAV g] 0]++[.row 5 [.agg [I 0,I i.x,I i.y,I i.n,.sl false (i.set.map spanAV)]] 0],by omega,?_⟩,rp _ _ _⟩
    simp[hpR]
   ·simp +contextual (disch:=omega) only[Tryz.f75,dd75,go_sem,↓reduceIte,List.reduceReplicate,Nat.reduceAdd,Nat.reduceSub,reduceCtorEq,Nat.reduceLeDiff,Nat.reduceMul,Nat.reduceLT,Nat.reduceEqDiff,Int.reduceBNe,Int.reduceBEq,Int.reduceEq,Int.reduceLT,Int.reduceLE,Int.reduceGT,Int.reduceGE,mu75,Nat.reduceBEq,↓wrap_up,↓wrap_down,↓wrap_pred,↓wrap_sub_nat,Int.reduceToNat,hH,hgl,happ,happ1,hi',h1,g1,g2,g3]
    refine⟨_,⟨s.2.length,[.row 3 [prgAV g] 0]++[.row 5 [.agg [I 1,I i.x,I i.y,I i.n,.sl false (i.set.map spanAV)]] 0],by omega,?_⟩,rp _ _ _⟩
    simp[hpR]
theorem kf40 (g:Prg) (hl:g.ins.length≤8192) (hw:Leads g.ins) (ho:∀ i∈g.ins,i.op=0∨i.op=1∨i.op=2∨i.op=3∨i.op=4) (ns:List Nat) (hnl:ns.length≤1000000) (hns:∀ n∈ns,n < g.ins.length) (H:List MB) :
  call Tryz.prog pol1 40 [prgAV g,.sl false (ns.map NV)] H=some (.sl false ((stateL g.ins ns).map NV),H):=by
 have hpg:=plain_prg g
 have hpn:=plain_nv ns
 have hpi:=plain_ins g.ins
 have h75:=kf75 g hl hw ho
 have hrok:=fun i=>(rok0 g.ins.length).visits (k:=g.ins.length+1) (ns:=ns.take i)
 refine call_run Tryz.func40 rfl rfl rfl rfl rfl rfl (fun _=>rfl) (by simp[AV.plainL,AV.plain,hpn,hpi]) (by simp[AV.plain,plain_nv]) ?_ H
 simp +contextual (disch:=omega) only[Tryz.f40,dd40,go_sem,↓reduceIte,evAppend,List.reduceReplicate,Nat.reduceAdd,Nat.reduceSub,reduceCtorEq,Nat.reduceLeDiff,Nat.reduceMul,Nat.reduceLT,Nat.reduceEqDiff,Int.reduceBNe,Int.reduceBEq,Int.reduceEq,Int.reduceLT,Int.reduceLE,Int.reduceGT,Int.reduceGE,mu40,Nat.reduceBEq,↓wrap_up,↓wrap_down,↓wrap_pred,↓wrap_sub_nat,Int.reduceToNat]
 have huR:∀(s:List Nat×List Nat) (z:Nat),(hpR (.row 3 [prgAV g] 0) s z []).all (MB.under 3)=true:=by
  intro s z
  have p1:=fun n=>underL_plain n _ (plain_nv s.1)
  have p2:=fun n=>underL_plain n _ (plain_nv s.2)
  have p3:=fun n=>underL_plain n _ (plain_ins g.ins)
  simp[hpR,MB.under,AV.underL,AV.under,p1,p2,p3]
 refine W_for (σ:=Nat×Nat) (M:=(mskOf (pol1.mask 40) (pol1.gc 40) (pol1.acts 40) 0 4)) rfl (fun x=>(⟨47,[(7,I x.1),(6,.ms 2 1 (rvisits g.ins (g.ins.length+1) (ns.take x.1) ([],[])).2.length 0 (rvisits g.ins (g.ins.length+1) (ns.take x.1) ([],[])).2.length),(5,.ms 1 1 (rvisits g.ins (g.ins.length+1) (ns.take x.1) ([],[])).1.length 0 (rvisits g.ins (g.ins.length+1) (ns.take x.1) ([],[])).1.length),(2,.rf 0 1 0 0),(1,.sl false (ns.map NV))],hpR (.row 3 [prgAV g] 0) (rvisits g.ins (g.ins.length+1) (ns.take x.1) ([],[])) x.2 []⟩:St)) (fun x=>x.1≤ns.length∧x.2≤(rvisits g.ins (g.ins.length+1) (ns.take x.1) ([],[])).2.length) (fun x=>ns.length - x.1) (0,0) ?_ ⟨Nat.zero_le _,Nat.zero_le _⟩ _ ?_
 ·rintro⟨i,z⟩ ⟨q1,q2⟩
  simp only at q1 q2 ⊢
  have hok:=hrok i
  by_cases hi:i < ns.length
  ·obtain⟨n,hn⟩:∃ n,ns[i]?=some n:=⟨_,List.getElem?_eq_getElem hi⟩
   have hn':(ns.map NV)[i]?=some (NV n):=by simp[hn]
   have hnN:=hns n (List.mem_of_getElem? hn)
   have hnx:rvisits g.ins (g.ins.length+1) (ns.take (i+1)) ([],[])=rvisit g.ins (g.ins.length+1) n (rvisits g.ins (g.ins.length+1) (ns.take i) ([],[])):=by rw[List.take_add_one,hn];exact rvisits_snoc _ _ _ _ _
   generalize rvisits g.ins (g.ins.length+1) (ns.take i) ([],[])=s at *
   obtain⟨_,⟨z1,K1,hz1,rfl⟩,hc⟩:=h75 (g.ins.length+1) n s (.row 3 [prgAV g] 0) z [] hnN hok q2 (by omega)
   simp +contextual (disch:=omega) only[Tryz.f40,dd40,go_sem,↓reduceIte,evAppend,List.reduceReplicate,Nat.reduceAdd,Nat.reduceSub,reduceCtorEq,Nat.reduceLeDiff,Nat.reduceMul,Nat.reduceLT,Nat.reduceEqDiff,Int.reduceBNe,Int.reduceBEq,Int.reduceEq,Int.reduceLT,Int.reduceLE,Int.reduceGT,Int.reduceGE,mu40,Nat.reduceBEq,↓wrap_up,↓wrap_down,↓wrap_pred,↓wrap_sub_nat,Int.reduceToNat,hn',hc]
   repeat' (first|intro _|apply And.intro|(unfold dOk;kernel_rfl)|exact St.beq_refl _|(show altO _ _ _ _=true;kernel_rfl)|(show (_ || _)=true;kernel_rfl)|(show (_ && _)=true;kernel_rfl))
   all_goals
    refine⟨(i+1,z1),⟨hi,by rw[hnx];exact hz1⟩,by show ns.length - (i+1) < _;omega,?_⟩
    rw[hnx]
    exact prep_cut rfl rfl rfl rfl (by simp[AV.underL,AV.under,underL_plain,plain_nv]) (huR _ _)
  ·have hit:ns.take i=ns:=List.take_of_length_le (by omega)
   rw[hit]at hok q2 ⊢
   have hst:=rstate ho ns
   generalize rvisits g.ins (g.ins.length+1) ns ([],[])=s at *
   have hone:=hok.one
   have hsm:=hok.small
   simp +contextual (disch:=omega) only[Tryz.f40,dd40,go_sem,↓reduceIte,evAppend,List.reduceReplicate,Nat.reduceAdd,Nat.reduceSub,reduceCtorEq,Nat.reduceLeDiff,Nat.reduceMul,Nat.reduceLT,Nat.reduceEqDiff,Int.reduceBNe,Int.reduceBEq,Int.reduceEq,Int.reduceLT,Int.reduceLE,Int.reduceGT,Int.reduceGE,mu40,Nat.reduceBEq,↓wrap_up,↓wrap_down,↓wrap_pred,↓wrap_sub_nat,Int.reduceToNat]
   refine W_count (M:=(mskOf (pol1.mask 40) (pol1.gc 40) (pol1.acts 40) 0 8)) rfl s.1.length (fun i=>(⟨47,[(8,I i),(5,.ms 1 1 s.1.length 0 s.1.length),(2,.rf 0 1 0 0)],hpR (.row 3 [prgAV g] 0) s z []⟩:St)) (fun i=>∀ j m,j < i→s.1[j]?=some m→isDone g.ins m=false) ?_ ?_ (fun k p h=>by omega) _ ?_
   ·intro j hj hg
    obtain⟨n,hn⟩:∃ n,s.1[j]?=some n:=⟨_,List.getElem?_eq_getElem hj⟩
    have hn':(s.1.map NV)[j]?=some (NV n):=by simp[hn]
    have hnN:=hok.sub n (List.mem_of_getElem? hn)
    obtain⟨p,hp⟩:∃ p,g.ins[n]?=some p:=⟨_,List.getElem?_eq_getElem hnN⟩
    have hp':(g.ins.map insAV)[n]?=some (insAV p):=by simp[hp]
    have hd:isDone g.ins n=(p.op == 0):=by simp[isDone,hp]
    by_cases h0:p.op=0
    ·have hcl:=kcutL_at (ins:=g.ins) hn (by rw[hd];simp[h0]) hg
     rw[hst]at hcl
     rw[hcl]
     simp +contextual (disch:=omega) only[Tryz.f40,dd40,go_sem,↓reduceIte,evAppend,List.reduceReplicate,Nat.reduceAdd,Nat.reduceSub,reduceCtorEq,Nat.reduceLeDiff,Nat.reduceMul,Nat.reduceLT,Nat.reduceEqDiff,Int.reduceBNe,Int.reduceBEq,Int.reduceEq,Int.reduceLT,Int.reduceLE,Int.reduceGT,Int.reduceGE,mu40,Nat.reduceBEq,↓wrap_up,↓wrap_down,↓wrap_pred,↓wrap_sub_nat,Int.reduceToNat,hn',hp',h0]
     refine⟨by unfold dOk;kernel_rfl,?_⟩
     rw[Nat.sub_zero,List.map_take]
     exact⟨_,fzA_row' (k:=1) (z:=0) (els:=s.1.map NV) rfl (by simp) (by omega) (by rw[← List.map_take];exact plain_nv _)⟩
    ·simp +contextual (disch:=omega) only[Tryz.f40,dd40,go_sem,↓reduceIte,evAppend,List.reduceReplicate,Nat.reduceAdd,Nat.reduceSub,reduceCtorEq,Nat.reduceLeDiff,Nat.reduceMul,Nat.reduceLT,Nat.reduceEqDiff,Int.reduceBNe,Int.reduceBEq,Int.reduceEq,Int.reduceLT,Int.reduceLE,Int.reduceGT,Int.reduceGE,mu40,Nat.reduceBEq,↓wrap_up,↓wrap_down,↓wrap_pred,↓wrap_sub_nat,Int.reduceToNat,hn',hp',h0]
     refine⟨by unfold dOk;kernel_rfl,fun k m hk hm=>?_,rfl⟩
     rcases Nat.lt_or_ge k j with h|h
     ·exact hg k m h hm
     ·obtain rfl:k=j:=by omega
      rw[hn]at hm
      obtain rfl:=Option.some.inj hm
      rw[hd];simp[h0]
   ·intro hg
    have hcl:=kcutL_none (ins:=g.ins) (l:=s.1) (fun n hn=>by
     obtain⟨k,hk,e⟩:=List.getElem_of_mem hn
     exact hg k n hk (by rw[← e];exact List.getElem?_eq_getElem hk))
    rw[hst]at hcl
    rw[hcl]
    simp +contextual (disch:=omega) only[Tryz.f40,dd40,go_sem,↓reduceIte,evAppend,List.reduceReplicate,Nat.reduceAdd,Nat.reduceSub,reduceCtorEq,Nat.reduceLeDiff,Nat.reduceMul,Nat.reduceLT,Nat.reduceEqDiff,Int.reduceBNe,Int.reduceBEq,Int.reduceEq,Int.reduceLT,Int.reduceLE,Int.reduceGT,Int.reduceGE,mu40,Nat.reduceBEq,↓wrap_up,↓wrap_down,↓wrap_pred,↓wrap_sub_nat,Int.reduceToNat]
    exact⟨_,fz_row (k:=1) rfl (by simp) (plain_nv _)⟩
   ·rfl
 ·simp only[List.take_zero]
  exact prep_cut rfl rfl rfl rfl (by simp[AV.underL,AV.under,underL_plain,plain_nv]) (huR ([],[]) 0)
end
section
attribute [local go_sem] ty23 ty31 ty34 ty40 ty58 ty87
open Go.Proofs Go.RowKit Go.IntWalk
set_option maxRecDepth 100000
set_option maxHeartbeats 4000000
theorem kf76h (l:List (Int×Int)) (x:Int) (hl:l.length≤1000000) (H:List MB):call Tryz.prog pol1 76 [.sl false (l.map spanAV),I x] H=some (.bool (hasSpan l x),H):=by
 refine call_run Tryz.func76 rfl rfl rfl rfl rfl rfl (fun _=>rfl) (by simp[AV.plain,AV.plainL,plain_ints,plain_span,plain_ins,plain_prg]) (by simp[AV.plain,AV.plainL,plain_ints,plain_span,plain_ins,plain_prg]) ?_ H
 simp +contextual (disch:=omega) only[Tryz.f76,dd76,go_sem,↓reduceIte,evAppend,List.reduceReplicate,Nat.reduceAdd,Nat.reduceSub,reduceCtorEq,Nat.reduceLeDiff,Nat.reduceMul,Nat.reduceLT,Nat.reduceEqDiff,Int.reduceBNe,Int.reduceBEq,Int.reduceEq,Int.reduceLT,Int.reduceLE,Int.reduceGT,Int.reduceGE,mu76,Nat.reduceBEq,↓wrap_up,↓wrap_down,↓wrap_pred,↓wrap_sub_nat,Int.reduceToNat]
 refine W_count (M:=(mskOf (pol1.mask 76) (pol1.gc 76) (pol1.acts 76) 0 2)) rfl l.length (fun i=>(⟨28,[(5,I i),(1,I x),(0,.sl false (l.map spanAV))],[]⟩:St)) (fun i=>∀ k p,k < i→l[k]?=some p→¬ (p.1≤x∧x≤p.2)) ?_ ?_ (fun k p h=>by omega) _ (by first|rfl|(refine prep_cut rfl (by rfl) (by rfl) (by rfl) ?_ ?_<;>simp[AV.underL,AV.under,MB.under,underL_plain,under_plain,plain_ints,plain_span,plain_ins,plain_prg,-List.map_take]))
 ·intro i hi hg
  obtain⟨p,hp⟩:∃ p,l[i]?=some p:=⟨_,List.getElem?_eq_getElem hi⟩
  by_cases hin:p.1≤x∧x≤p.2
  ·rw[hasSpan_at hp hin]
   simp +contextual (disch:=omega) only[Tryz.f76,dd76,go_sem,↓reduceIte,evAppend,List.reduceReplicate,Nat.reduceAdd,Nat.reduceSub,reduceCtorEq,Nat.reduceLeDiff,Nat.reduceMul,Nat.reduceLT,Nat.reduceEqDiff,Int.reduceBNe,Int.reduceBEq,Int.reduceEq,Int.reduceLT,Int.reduceLE,Int.reduceGT,Int.reduceGE,mu76,Nat.reduceBEq,↓wrap_up,↓wrap_down,↓wrap_pred,↓wrap_sub_nat,Int.reduceToNat,hp,spanAV]
   exact fzEq rfl rfl
  ·have ext:∀ k q,k < i+1→l[k]?=some q→¬ (q.1≤x∧x≤q.2):=fun k q hk hq=>by
    rcases Nat.lt_or_ge k i with h|h
    ·exact hg k q h hq
    ·obtain rfl:k=i:=by omega
     rw[hp]at hq
     obtain rfl:=Option.some.inj hq
     exact hin
   by_cases h1:p.1≤x
   ·simp +contextual (disch:=omega) only[Tryz.f76,dd76,go_sem,↓reduceIte,evAppend,List.reduceReplicate,Nat.reduceAdd,Nat.reduceSub,reduceCtorEq,Nat.reduceLeDiff,Nat.reduceMul,Nat.reduceLT,Nat.reduceEqDiff,Int.reduceBNe,Int.reduceBEq,Int.reduceEq,Int.reduceLT,Int.reduceLE,Int.reduceGT,Int.reduceGE,mu76,Nat.reduceBEq,↓wrap_up,↓wrap_down,↓wrap_pred,↓wrap_sub_nat,Int.reduceToNat,hp,spanAV]
    exact⟨ext,(by first|rfl|(refine prep_cut rfl (by rfl) (by rfl) (by rfl) ?_ ?_<;>simp[AV.underL,AV.under,MB.under,underL_plain,under_plain,plain_ints,plain_span,plain_ins,plain_prg,-List.map_take]))⟩
   ·simp +contextual (disch:=omega) only[Tryz.f76,dd76,go_sem,↓reduceIte,evAppend,List.reduceReplicate,Nat.reduceAdd,Nat.reduceSub,reduceCtorEq,Nat.reduceLeDiff,Nat.reduceMul,Nat.reduceLT,Nat.reduceEqDiff,Int.reduceBNe,Int.reduceBEq,Int.reduceEq,Int.reduceLT,Int.reduceLE,Int.reduceGT,Int.reduceGE,mu76,Nat.reduceBEq,↓wrap_up,↓wrap_down,↓wrap_pred,↓wrap_sub_nat,Int.reduceToNat,hp,spanAV]
    exact⟨ext,(by first|rfl|(refine prep_cut rfl (by rfl) (by rfl) (by rfl) ?_ ?_<;>simp[AV.underL,AV.under,MB.under,underL_plain,under_plain,plain_ints,plain_span,plain_ins,plain_prg,-List.map_take]))⟩
 ·intro hg
  rw[hasSpan_no hg]
  simp +contextual (disch:=omega) only[Tryz.f76,dd76,go_sem,↓reduceIte,evAppend,List.reduceReplicate,Nat.reduceAdd,Nat.reduceSub,reduceCtorEq,Nat.reduceLeDiff,Nat.reduceMul,Nat.reduceLT,Nat.reduceEqDiff,Int.reduceBNe,Int.reduceBEq,Int.reduceEq,Int.reduceLT,Int.reduceLE,Int.reduceGT,Int.reduceGE,mu76,Nat.reduceBEq,↓wrap_up,↓wrap_down,↓wrap_pred,↓wrap_sub_nat,Int.reduceToNat]
  exact fzEq rfl rfl
theorem kf41 (g:Prg) (hl:g.ins.length≤8192) (hw:Leads g.ins) (ho:∀ i∈g.ins,i.op=0∨i.op=1∨i.op=2∨i.op=3∨i.op=4) (hs:∀ i∈g.ins,i.set.length≤1000000) (l:List Nat) (hll:l.length≤1000000) (hln:∀ n∈l,n < g.ins.length) (x:Int) (H:List MB) :
  call Tryz.prog pol1 41 [prgAV g,.sl false (l.map NV),I x] H=some (.sl false ((nextL g.ins l x).map NV),H):=by
 have hpi:=plain_ins g.ins
 have hpl:=plain_nv l
 refine call_run Tryz.func41 rfl rfl rfl rfl rfl rfl (fun _=>rfl) (by simp[AV.plainL,AV.plain,hpl,hpi]) (by simp[AV.plain,plain_nv]) ?_ H
 simp +contextual (disch:=omega) only[Tryz.f41,dd41,go_sem,↓reduceIte,evAppend,List.reduceReplicate,Nat.reduceAdd,Nat.reduceSub,reduceCtorEq,Nat.reduceLeDiff,Nat.reduceMul,Nat.reduceLT,Nat.reduceEqDiff,Int.reduceBNe,Int.reduceBEq,Int.reduceEq,Int.reduceLT,Int.reduceLE,Int.reduceGT,Int.reduceGE,mu41,Nat.reduceBEq,↓wrap_up,↓wrap_down,↓wrap_pred,↓wrap_sub_nat,Int.reduceToNat]
 refine W_count (M:=(mskOf (pol1.mask 41) (pol1.gc 41) (pol1.acts 41) 0 3)) rfl l.length (fun i=>(⟨46,[(8,I i),(7,.ms 1 1 (afterL g.ins (l.take i) x).length 0 (afterL g.ins (l.take i) x).length),(3,.rf 0 1 0 0),(2,I x),(1,.sl false (l.map NV))],[.row 3 [prgAV g] 0,.row 1 ((afterL g.ins (l.take i) x).map NV) 0]⟩:St)) (fun i=>True) ?_ ?_ trivial _ ?_
 ·intro i hi _
  obtain⟨n,hn⟩:∃ n,l[i]?=some n:=⟨_,List.getElem?_eq_getElem hi⟩
  have hn':(l.map NV)[i]?=some (NV n):=by simp[hn]
  have hnN:=hln n (List.mem_of_getElem? hn)
  obtain⟨p,hq⟩:∃ p,g.ins[n]?=some p:=⟨_,List.getElem?_eq_getElem hnN⟩
  have hq':(g.ins.map insAV)[n]?=some (insAV p):=by simp[hq]
  have hnx:afterL g.ins (l.take (i+1)) x=afterL g.ins (l.take i) x++(if p.op=1∧hasSpan p.set x=true then [n+1] else []):=by rw[List.take_add_one,hn];exact(afterL_snoc _ _ _ _).trans (by rw[hq])
  have hlen:=afterL_len g.ins (l.take i) x
  rw[List.length_take]at hlen
  rw[hnx]
  generalize afterL g.ins (l.take i) x=r at *
  have happ:=fun(y:MB) (K:List MB) (t:Bool)=>app_n (H:=y::.row 1 (r.map NV) 0::K) (i:=1) (c:=n+1) (t:=t) rfl rfl (by omega)
  have hf:=kf76h p.set x (hs p (List.mem_of_getElem? hq))
  by_cases h1:p.op=1
  ·cases h2:hasSpan p.set x with
   | true=>
     rw[h2]at hf
     rw[if_pos ⟨h1,rfl⟩]
     simp +contextual (disch:=omega) only[Tryz.f41,dd41,go_sem,↓reduceIte,List.reduceReplicate,Nat.reduceAdd,Nat.reduceSub,reduceCtorEq,Nat.reduceLeDiff,Nat.reduceMul,Nat.reduceLT,Nat.reduceEqDiff,Int.reduceBNe,Int.reduceBEq,Int.reduceEq,Int.reduceLT,Int.reduceLE,Int.reduceGT,Int.reduceGE,mu41,Nat.reduceBEq,↓wrap_up,↓wrap_down,↓wrap_pred,↓wrap_sub_nat,Int.reduceToNat,hn',hq',h1,hf,happ]
     repeat' (first|intro _|apply And.intro|(unfold dOk;kernel_rfl)|exact St.beq_refl _|(show altO _ _ _ _=true;kernel_rfl)|(show (_ || _)=true;kernel_rfl)|(show (_ && _)=true;kernel_rfl))
     all_goals exact(by first|rfl|(refine prep_to (n:=2) (m:=⟨some [8,7,3,2,1],some 2,[]⟩) rfl rfl ?_ ?_ ?_<;>first|rfl|(simp[keepT,AV.underL,AV.under,MB.under,underL_plain,under_plain,underL_append,plain_ints,plain_span,plain_ins,plain_prg,-List.map_take,-List.map_replicate,-List.map_set,plain_nv];done)|(simp[keepT,AV.underL,AV.under,MB.under,underL_plain,under_plain,underL_append,plain_ints,plain_span,plain_ins,plain_prg,-List.map_take,-List.map_replicate,-List.map_set,plain_nv];omega)))
   | false=>
     rw[h2]at hf
     rw[if_neg (by simp)]
     simp +contextual (disch:=omega) only[Tryz.f41,dd41,go_sem,↓reduceIte,List.reduceReplicate,Nat.reduceAdd,Nat.reduceSub,reduceCtorEq,Nat.reduceLeDiff,Nat.reduceMul,Nat.reduceLT,Nat.reduceEqDiff,Int.reduceBNe,Int.reduceBEq,Int.reduceEq,Int.reduceLT,Int.reduceLE,Int.reduceGT,Int.reduceGE,mu41,Nat.reduceBEq,↓wrap_up,↓wrap_down,↓wrap_pred,↓wrap_sub_nat,Int.reduceToNat,hn',hq',h1,hf]
     repeat' (first|intro _|apply And.intro|(unfold dOk;kernel_rfl)|exact St.beq_refl _|(show altO _ _ _ _=true;kernel_rfl)|(show (_ || _)=true;kernel_rfl)|(show (_ && _)=true;kernel_rfl))
     all_goals exact(by first|rfl|(refine prep_to (n:=2) (m:=⟨some [8,7,3,2,1],some 2,[]⟩) rfl rfl ?_ ?_ ?_<;>first|rfl|(simp[keepT,AV.underL,AV.under,MB.under,underL_plain,under_plain,underL_append,plain_ints,plain_span,plain_ins,plain_prg,-List.map_take,-List.map_replicate,-List.map_set,plain_nv];done)|(simp[keepT,AV.underL,AV.under,MB.under,underL_plain,under_plain,underL_append,plain_ints,plain_span,plain_ins,plain_prg,-List.map_take,-List.map_replicate,-List.map_set,plain_nv];omega)))
  ·rw[if_neg (by simp[h1])]
   simp +contextual (disch:=omega) only[Tryz.f41,dd41,go_sem,↓reduceIte,List.reduceReplicate,Nat.reduceAdd,Nat.reduceSub,reduceCtorEq,Nat.reduceLeDiff,Nat.reduceMul,Nat.reduceLT,Nat.reduceEqDiff,Int.reduceBNe,Int.reduceBEq,Int.reduceEq,Int.reduceLT,Int.reduceLE,Int.reduceGT,Int.reduceGE,mu41,Nat.reduceBEq,↓wrap_up,↓wrap_down,↓wrap_pred,↓wrap_sub_nat,Int.reduceToNat,hn',hq',h1,hf]
   repeat' (first|intro _|apply And.intro|(unfold dOk;kernel_rfl)|exact St.beq_refl _|(show altO _ _ _ _=true;kernel_rfl)|(show (_ || _)=true;kernel_rfl)|(show (_ && _)=true;kernel_rfl))
   all_goals exact(by first|rfl|(refine prep_to (n:=2) (m:=⟨some [8,7,3,2,1],some 2,[]⟩) rfl rfl ?_ ?_ ?_<;>first|rfl|(simp[keepT,AV.underL,AV.under,MB.under,underL_plain,under_plain,underL_append,plain_ints,plain_span,plain_ins,plain_prg,-List.map_take,-List.map_replicate,-List.map_set,plain_nv];done)|(simp[keepT,AV.underL,AV.under,MB.under,underL_plain,under_plain,underL_append,plain_ints,plain_span,plain_ins,plain_prg,-List.map_take,-List.map_replicate,-List.map_set,plain_nv];omega)))
 ·intro _
  rw[List.take_of_length_le (Nat.le_refl _)]
  have hal:=afterL_len g.ins l x
  have hrow:getRow [MB.row 3 [prgAV g] 0,.row 1 ((afterL g.ins l x).map NV) 0] 1=some (1,(afterL g.ins l x).map NV,0):=rfl
  have hz:=fz_row (tot:=(afterL g.ins l x).length) hrow (by simp) (plain_nv _)
  have hm:mark [MB.row 3 [prgAV g] 0,.row 1 ((afterL g.ins l x).map NV) 0] 1 (afterL g.ins l x).length=[MB.row 3 [prgAV g] 0,.row 1 ((afterL g.ins l x).map NV) (afterL g.ins l x).length]:=by
   unfold mark;rw[hrow];simp
  rw[hm]at hz
  have hc40:call Tryz.prog pol1 40 [prgAV g,.ms 1 1 (afterL g.ins l x).length 0 (afterL g.ins l x).length] [MB.row 3 [prgAV g] 0,.row 1 ((afterL g.ins l x).map NV) 0] =
    some (.sl false ((stateL g.ins (afterL g.ins l x)).map NV),[MB.row 3 [prgAV g] 0,.row 1 ((afterL g.ins l x).map NV) (afterL g.ins l x).length]):=by
   rw[call_frz2 (l:=[prgAV g,.sl false ((afterL g.ins l x).map NV)]) rfl ?_ (by simp[AV.plainL,AV.plain,plain_nv,hpi])]
   ·exact kf40 g hl hw ho _ (by omega) (afterL_lt hw l x) _
   ·have h1:pol1.byref 40 0=false:=rfl
    have h2:pol1.byref 40 (0+1)=false:=rfl
    have h3:∀ H,fz (prgAV g) H=some (prgAV g,H):=fun H=>fz_plain H (plain_prg g)
    simp only[frzArgs,h1,h2,Bool.false_eq_true,if_false,hz,h3]
  simp +contextual (disch:=omega) only[Tryz.f41,dd41,go_sem,↓reduceIte,evAppend,List.reduceReplicate,Nat.reduceAdd,Nat.reduceSub,reduceCtorEq,Nat.reduceLeDiff,Nat.reduceMul,Nat.reduceLT,Nat.reduceEqDiff,Int.reduceBNe,Int.reduceBEq,Int.reduceEq,Int.reduceLT,Int.reduceLE,Int.reduceGT,Int.reduceGE,mu41,Nat.reduceBEq,↓wrap_up,↓wrap_down,↓wrap_pred,↓wrap_sub_nat,Int.reduceToNat,hc40]
  exact⟨_,fz_plain _ (by simp[AV.plain,plain_nv])⟩
 ·simp only[List.take_zero,afterL,List.flatMap_nil,List.map_nil,List.length_nil];exact(by first|rfl|(refine prep_to (n:=2) (m:=⟨some [8,7,3,2,1],some 2,[]⟩) rfl rfl ?_ ?_ ?_<;>first|rfl|(simp[keepT,AV.underL,AV.under,MB.under,underL_plain,under_plain,underL_append,plain_ints,plain_span,plain_ins,plain_prg,-List.map_take,-List.map_replicate,-List.map_set,plain_nv];done)|(simp[keepT,AV.underL,AV.under,MB.under,underL_plain,under_plain,underL_append,plain_ints,plain_span,plain_ins,plain_prg,-List.map_take,-List.map_replicate,-List.map_set,plain_nv];omega)))
theorem kf25i (a b:List Int) (ha:a.length≤4000000000) (hb:b.length≤4000000000) (H:List MB):call Tryz.prog pol1 25 [.sl false (a.map I),.sl false (b.map I)] H=some (.bool (decide (a=b)),H):=by
 have hpa:=plain_ints a
 have hpb:=plain_ints b
 refine call_run Tryz.func25 rfl rfl rfl rfl rfl rfl (fun _=>rfl) (by simp[AV.plainL,AV.plain,hpa,hpb]) (by simp[AV.plain]) ?_ H
 by_cases hl:a.length=b.length
 ·simp +contextual (disch:=omega) only[Tryz.f25,dd25,go_sem,↓reduceIte,evAppend,List.reduceReplicate,Nat.reduceAdd,Nat.reduceSub,reduceCtorEq,Nat.reduceLeDiff,Nat.reduceMul,Nat.reduceLT,Nat.reduceEqDiff,Int.reduceBNe,Int.reduceBEq,Int.reduceEq,Int.reduceLT,Int.reduceLE,Int.reduceGT,Int.reduceGE,mu25,Nat.reduceBEq,↓wrap_up,↓wrap_down,↓wrap_pred,↓wrap_sub_nat,Int.reduceToNat]
  refine W_count (M:=(mskOf (pol1.mask 25) (pol1.gc 25) (pol1.acts 25) 0 4)) rfl a.length (fun i=>(⟨26,[(5,I i),(1,.sl false (b.map I)),(0,.sl false (a.map I))],[]⟩:St)) (fun i=>∀ k,k < i→a[k]?=b[k]?) ?_ ?_ (fun k h=>by omega) _ (by first|rfl|(refine prep_cut rfl (by rfl) (by rfl) (by rfl) ?_ ?_<;>simp[AV.underL,AV.under,MB.under,underL_plain,under_plain,plain_ints,plain_span,plain_ins,plain_prg,-List.map_take]))
  ·intro i hi hg
   obtain⟨x,hx⟩:∃ x,a[i]?=some x:=⟨_,List.getElem?_eq_getElem hi⟩
   obtain⟨y,hy⟩:∃ y,b[i]?=some y:=⟨_,List.getElem?_eq_getElem (by omega)⟩
   have hx':(a.map I)[i]?=some (I x):=by simp[hx]
   have hy':(b.map I)[i]?=some (I y):=by simp[hy]
   by_cases he:x=y
   ·subst he
    simp +contextual (disch:=omega) only[Tryz.f25,dd25,go_sem,↓reduceIte,evAppend,List.reduceReplicate,Nat.reduceAdd,Nat.reduceSub,reduceCtorEq,Nat.reduceLeDiff,Nat.reduceMul,Nat.reduceLT,Nat.reduceEqDiff,Int.reduceBNe,Int.reduceBEq,Int.reduceEq,Int.reduceLT,Int.reduceLE,Int.reduceGT,Int.reduceGE,mu25,Nat.reduceBEq,↓wrap_up,↓wrap_down,↓wrap_pred,↓wrap_sub_nat,Int.reduceToNat,hx',hy']
    refine⟨by unfold dOk;kernel_rfl,fun k hk=>?_,(by first|rfl|(refine prep_cut rfl (by rfl) (by rfl) (by rfl) ?_ ?_<;>simp[AV.underL,AV.under,MB.under,underL_plain,under_plain,plain_ints,plain_span,plain_ins,plain_prg,-List.map_take]))⟩
    rcases Nat.lt_succ_iff_lt_or_eq.1 hk with h|rfl
    ·exact hg k h
    ·rw[hx,hy]
   ·have hd:decide (a=b)=false:=decide_eq_false fun e=>by rw[e,hy]at hx;exact he (Option.some.inj hx).symm
    rw[hd]
    simp +contextual (disch:=omega) only[Tryz.f25,dd25,go_sem,↓reduceIte,evAppend,List.reduceReplicate,Nat.reduceAdd,Nat.reduceSub,reduceCtorEq,Nat.reduceLeDiff,Nat.reduceMul,Nat.reduceLT,Nat.reduceEqDiff,Int.reduceBNe,Int.reduceBEq,Int.reduceEq,Int.reduceLT,Int.reduceLE,Int.reduceGT,Int.reduceGE,mu25,Nat.reduceBEq,↓wrap_up,↓wrap_down,↓wrap_pred,↓wrap_sub_nat,Int.reduceToNat,hx',hy']
    repeat' (first|intro _|apply And.intro|(unfold dOk;kernel_rfl)|exact St.beq_refl _|(show altO _ _ _ _=true;kernel_rfl)|(show (_ || _)=true;kernel_rfl)|(show (_ && _)=true;kernel_rfl))
    all_goals exact fzEq rfl rfl
  ·intro hg
   have hd:decide (a=b)=true:=decide_eq_true (List.ext_getElem? fun k=>by
    by_cases hk:k < a.length
    ·exact hg k hk
    ·rw[List.getElem?_eq_none (by omega),List.getElem?_eq_none (by omega)])
   rw[hd]
   simp +contextual (disch:=omega) only[Tryz.f25,dd25,go_sem,↓reduceIte,evAppend,List.reduceReplicate,Nat.reduceAdd,Nat.reduceSub,reduceCtorEq,Nat.reduceLeDiff,Nat.reduceMul,Nat.reduceLT,Nat.reduceEqDiff,Int.reduceBNe,Int.reduceBEq,Int.reduceEq,Int.reduceLT,Int.reduceLE,Int.reduceGT,Int.reduceGE,mu25,Nat.reduceBEq,↓wrap_up,↓wrap_down,↓wrap_pred,↓wrap_sub_nat,Int.reduceToNat]
   exact fzEq rfl rfl
 ·have hd:decide (a=b)=false:=decide_eq_false fun e=>hl (by rw[e])
  rw[hd]
  have hne:(a.length:Int)≠b.length:=by omega
  simp +contextual (disch:=omega) only[Tryz.f25,dd25,go_sem,↓reduceIte,evAppend,List.reduceReplicate,Nat.reduceAdd,Nat.reduceSub,reduceCtorEq,Nat.reduceLeDiff,Nat.reduceMul,Nat.reduceLT,Nat.reduceEqDiff,Int.reduceBNe,Int.reduceBEq,Int.reduceEq,Int.reduceLT,Int.reduceLE,Int.reduceGT,Int.reduceGE,mu25,Nat.reduceBEq,↓wrap_up,↓wrap_down,↓wrap_pred,↓wrap_sub_nat,Int.reduceToNat]
  exact fzEq rfl rfl
theorem map_cast (l:List Nat):l.map NV=(l.map (fun n:Nat=>(n:Int))).map I:=by simp
theorem cast_inj {a b:List Nat}:a.map (fun n:Nat=>(n:Int))=b.map (fun n:Nat=>(n:Int))↔a=b:=
 List.map_inj_right (fun x y e=>by omega)
theorem kf25n (a b:List Nat) (ha:a.length≤4000000000) (hb:b.length≤4000000000) (H:List MB):call Tryz.prog pol1 25 [.sl false (a.map NV),.sl false (b.map NV)] H=some (.bool (decide (a=b)),H):=by
 have h:=kf25i (a.map (fun n:Nat=>(n:Int))) (b.map (fun n:Nat=>(n:Int))) (by simpa using ha) (by simpa using hb) H
 rw[map_cast a,map_cast b,h]
 congr 2
 simp only[AV.bool.injEq,decide_eq_decide]
 exact cast_inj
abbrev lvAV (l:List Nat):AV:=.sl false (l.map NV)
theorem plain_lv (L:List (List Nat)):AV.plainL (L.map lvAV)=true:=by
 induction L with
 | nil=>rfl
 | cons a L ih=>simp[AV.plainL,AV.plain,plain_nv,ih]
theorem kf42 (L:List (List Nat)) (s:List Nat) (hL:L.length≤1000000) (hl:∀ l∈L,l.length≤4000000000) (hs:s.length≤4000000000) (H:List MB):call Tryz.prog pol1 42 [.sl false (L.map lvAV),.sl false (s.map NV)] H=some (.bool (decide (s∈L)),H):=by
 have hpL:=plain_lv L
 have hps:=plain_nv s
 refine call_run Tryz.func42 rfl rfl rfl rfl rfl rfl (fun _=>rfl) (by simp[AV.plainL,AV.plain,hpL,hps]) (by simp[AV.plain]) ?_ H
 simp +contextual (disch:=omega) only[Tryz.f42,dd42,go_sem,↓reduceIte,evAppend,List.reduceReplicate,Nat.reduceAdd,Nat.reduceSub,reduceCtorEq,Nat.reduceLeDiff,Nat.reduceMul,Nat.reduceLT,Nat.reduceEqDiff,Int.reduceBNe,Int.reduceBEq,Int.reduceEq,Int.reduceLT,Int.reduceLE,Int.reduceGT,Int.reduceGE,mu42,Nat.reduceBEq,↓wrap_up,↓wrap_down,↓wrap_pred,↓wrap_sub_nat,Int.reduceToNat]
 refine W_count (M:=(mskOf (pol1.mask 42) (pol1.gc 42) (pol1.acts 42) 0 2)) rfl L.length (fun i=>(⟨20,[(5,I i),(1,.sl false (s.map NV)),(0,.sl false (L.map lvAV))],[]⟩:St)) (fun i=>∀ k l,k < i→L[k]?=some l→l≠s) ?_ ?_ (fun k p h=>by omega) _ (by first|rfl|(refine prep_cut rfl (by rfl) (by rfl) (by rfl) ?_ ?_<;>simp[AV.underL,AV.under,MB.under,underL_plain,under_plain,plain_ints,plain_span,plain_ins,plain_prg,-List.map_take]))
 ·intro i hi hg
  obtain⟨l,hll⟩:∃ l,L[i]?=some l:=⟨_,List.getElem?_eq_getElem hi⟩
  have hl':(L.map lvAV)[i]?=some (lvAV l):=by simp[hll]
  have hc:=kf25n l s (hl l (List.mem_of_getElem? hll)) hs
  by_cases he:l=s
  ·subst he
   have hd:decide (l∈L)=true:=decide_eq_true (List.mem_of_getElem? hll)
   rw[hd]
   rw[decide_eq_true rfl]at hc
   simp +contextual (disch:=omega) only[Tryz.f42,dd42,go_sem,↓reduceIte,evAppend,List.reduceReplicate,Nat.reduceAdd,Nat.reduceSub,reduceCtorEq,Nat.reduceLeDiff,Nat.reduceMul,Nat.reduceLT,Nat.reduceEqDiff,Int.reduceBNe,Int.reduceBEq,Int.reduceEq,Int.reduceLT,Int.reduceLE,Int.reduceGT,Int.reduceGE,mu42,Nat.reduceBEq,↓wrap_up,↓wrap_down,↓wrap_pred,↓wrap_sub_nat,Int.reduceToNat,hl',hc]
   exact fzEq rfl rfl
  ·rw[decide_eq_false he]at hc
   simp +contextual (disch:=omega) only[Tryz.f42,dd42,go_sem,↓reduceIte,evAppend,List.reduceReplicate,Nat.reduceAdd,Nat.reduceSub,reduceCtorEq,Nat.reduceLeDiff,Nat.reduceMul,Nat.reduceLT,Nat.reduceEqDiff,Int.reduceBNe,Int.reduceBEq,Int.reduceEq,Int.reduceLT,Int.reduceLE,Int.reduceGT,Int.reduceGE,mu42,Nat.reduceBEq,↓wrap_up,↓wrap_down,↓wrap_pred,↓wrap_sub_nat,Int.reduceToNat,hl',hc]
   refine⟨fun k q hk hq=>?_,(by first|rfl|(refine prep_cut rfl (by rfl) (by rfl) (by rfl) ?_ ?_<;>simp[AV.underL,AV.under,MB.under,underL_plain,under_plain,plain_ints,plain_span,plain_ins,plain_prg,-List.map_take]))⟩
   rcases Nat.lt_or_ge k i with h|h
   ·exact hg k q h hq
   ·obtain rfl:k=i:=by omega
    rw[hll]at hq
    obtain rfl:=Option.some.inj hq
    exact he
 ·intro hg
  have hd:decide (s∈L)=false:=decide_eq_false fun hn=>by
   obtain⟨k,hk,e⟩:=List.getElem_of_mem hn
   exact hg k s hk (by rw[← e];exact List.getElem?_eq_getElem hk) rfl
  rw[hd]
  simp +contextual (disch:=omega) only[Tryz.f42,dd42,go_sem,↓reduceIte,evAppend,List.reduceReplicate,Nat.reduceAdd,Nat.reduceSub,reduceCtorEq,Nat.reduceLeDiff,Nat.reduceMul,Nat.reduceLT,Nat.reduceEqDiff,Int.reduceBNe,Int.reduceBEq,Int.reduceEq,Int.reduceLT,Int.reduceLE,Int.reduceGT,Int.reduceGE,mu42,Nat.reduceBEq,↓wrap_up,↓wrap_down,↓wrap_pred,↓wrap_sub_nat,Int.reduceToNat]
  exact fzEq rfl rfl
theorem kf48d (g:Prg) (hl:g.ins.length≤8192) (l:List Nat) (hll:l.length≤1000000) (hln:∀ n∈l,n < g.ins.length) (H:List MB):call Tryz.prog pol1 48 [prgAV g,.sl false (l.map NV)] H=some (.bool (doneL g.ins l),H):=by
 have hpi:=plain_ins g.ins
 have hpl:=plain_nv l
 refine call_run Tryz.func48 rfl rfl rfl rfl rfl rfl (fun _=>rfl) (by simp[AV.plainL,AV.plain,hpl,hpi]) (by simp[AV.plain]) ?_ H
 by_cases h0:l.length=0
 ·obtain rfl:=List.length_eq_zero_iff.1 h0
  simp +contextual (disch:=omega) only[Tryz.f48,dd48,go_sem,↓reduceIte,evAppend,List.reduceReplicate,Nat.reduceAdd,Nat.reduceSub,reduceCtorEq,Nat.reduceLeDiff,Nat.reduceMul,Nat.reduceLT,Nat.reduceEqDiff,Int.reduceBNe,Int.reduceBEq,Int.reduceEq,Int.reduceLT,Int.reduceLE,Int.reduceGT,Int.reduceGE,mu48,Nat.reduceBEq,↓wrap_up,↓wrap_down,↓wrap_pred,↓wrap_sub_nat,Int.reduceToNat]
  repeat' (first|intro _|apply And.intro|(unfold dOk;kernel_rfl)|exact St.beq_refl _|(show altO _ _ _ _=true;kernel_rfl)|(show (_ || _)=true;kernel_rfl)|(show (_ && _)=true;kernel_rfl))
  all_goals exact fzEq rfl rfl
 ·obtain⟨n,hn⟩:∃ n,l[l.length - 1]?=some n:=⟨_,List.getElem?_eq_getElem (by omega)⟩
  have hn':(l.map NV)[l.length - 1]?=some (NV n):=by simp[hn]
  obtain⟨p,hp⟩:∃ p,g.ins[n]?=some p:=⟨_,List.getElem?_eq_getElem (hln n (List.mem_of_getElem? hn))⟩
  have hp':(g.ins.map insAV)[n]?=some (insAV p):=by simp[hp]
  rw[doneL_at hn hp]
  simp +contextual (disch:=omega) only[Tryz.f48,dd48,go_sem,↓reduceIte,evAppend,List.reduceReplicate,Nat.reduceAdd,Nat.reduceSub,reduceCtorEq,Nat.reduceLeDiff,Nat.reduceMul,Nat.reduceLT,Nat.reduceEqDiff,Int.reduceBNe,Int.reduceBEq,Int.reduceEq,Int.reduceLT,Int.reduceLE,Int.reduceGT,Int.reduceGE,mu48,Nat.reduceBEq,↓wrap_up,↓wrap_down,↓wrap_pred,↓wrap_sub_nat,Int.reduceToNat,hn',hp']
  repeat' (first|intro _|apply And.intro|(unfold dOk;kernel_rfl)|exact St.beq_refl _|(show altO _ _ _ _=true;kernel_rfl)|(show (_ || _)=true;kernel_rfl)|(show (_ && _)=true;kernel_rfl))
  all_goals exact fzEq rfl rfl
theorem kf17 (g:Prg) (hb:PrgB g) (H:List MB):call Tryz.prog pol1 17 [prgAV g] H=some (I (acceptG g),H):=by
 have hv:=f29 g hb
 obtain⟨hl,hs⟩:=hb
 refine call_run Tryz.func17 rfl rfl rfl rfl rfl rfl (fun _=>rfl) (by simp[AV.plain,AV.plainL,plain_ints,plain_span,plain_ins,plain_prg]) (by simp[AV.plain,AV.plainL,plain_ints,plain_span,plain_ins,plain_prg]) ?_ H
 unfold acceptG
 by_cases h1:validG g=0
 ·rw[h1]at hv
  rw[if_neg (by simp[h1])]
  simp +contextual (disch:=omega) only[Tryz.f17,dd17,go_sem,↓reduceIte,evAppend,List.reduceReplicate,Nat.reduceAdd,Nat.reduceSub,reduceCtorEq,Nat.reduceLeDiff,Nat.reduceMul,Nat.reduceLT,Nat.reduceEqDiff,Int.reduceBNe,Int.reduceBEq,Int.reduceEq,Int.reduceLT,Int.reduceLE,Int.reduceGT,Int.reduceGE,mu17,Nat.reduceBEq,↓wrap_up,↓wrap_down,↓wrap_pred,↓wrap_sub_nat,Int.reduceToNat,hv]
  refine W_count (M:=(mskOf (pol1.mask 17) (pol1.gc 17) (pol1.acts 17) 0 5)) rfl g.ins.length (fun i=>(⟨24,[(4,I i),(1,.rf 0 1 0 0)],[.row 3 [prgAV g] 0]⟩:St))
   (fun i=>∀ k p,k < i→g.ins[k]?=some p→p.op≠5) ?_ ?_ (fun k p h=>by omega) _ (by first|rfl|(refine prep_cut rfl (by rfl) (by rfl) (by rfl) ?_ ?_<;>simp[AV.underL,AV.under,MB.under,underL_plain,under_plain,plain_ints,plain_span,plain_ins,plain_prg,-List.map_take]))
  ·intro i hi hg
   obtain⟨p,hp⟩:∃ p,g.ins[i]?=some p:=⟨_,List.getElem?_eq_getElem hi⟩
   have hp':(g.ins.map insAV)[i]?=some (insAV p):=by simp[hp]
   by_cases h5:p.op=5
   ·have:g.ins.any (fun i=>i.op == 5)=true:=List.any_eq_true.2 ⟨p,List.mem_of_getElem? hp,by simp[h5]⟩
    rw[this]
    simp +contextual (disch:=omega) only[Tryz.f17,dd17,go_sem,↓reduceIte,evAppend,List.reduceReplicate,Nat.reduceAdd,Nat.reduceSub,reduceCtorEq,Nat.reduceLeDiff,Nat.reduceMul,Nat.reduceLT,Nat.reduceEqDiff,Int.reduceBNe,Int.reduceBEq,Int.reduceEq,Int.reduceLT,Int.reduceLE,Int.reduceGT,Int.reduceGE,mu17,Nat.reduceBEq,↓wrap_up,↓wrap_down,↓wrap_pred,↓wrap_sub_nat,Int.reduceToNat,hp',h5]
    exact fzEq rfl rfl
   ·simp +contextual (disch:=omega) only[Tryz.f17,dd17,go_sem,↓reduceIte,evAppend,List.reduceReplicate,Nat.reduceAdd,Nat.reduceSub,reduceCtorEq,Nat.reduceLeDiff,Nat.reduceMul,Nat.reduceLT,Nat.reduceEqDiff,Int.reduceBNe,Int.reduceBEq,Int.reduceEq,Int.reduceLT,Int.reduceLE,Int.reduceGT,Int.reduceGE,mu17,Nat.reduceBEq,↓wrap_up,↓wrap_down,↓wrap_pred,↓wrap_sub_nat,Int.reduceToNat,hp',h5]
    refine⟨fun k q hk hq=>?_,(by first|rfl|(refine prep_cut rfl (by rfl) (by rfl) (by rfl) ?_ ?_<;>simp[AV.underL,AV.under,MB.under,underL_plain,under_plain,plain_ints,plain_span,plain_ins,plain_prg,-List.map_take]))⟩
    rcases Nat.lt_succ_iff_lt_or_eq.1 hk with h|rfl
    ·exact hg k q h hq
    ·rw[hp]at hq;cases hq;exact h5
  ·intro hg
   have:g.ins.any (fun i=>i.op == 5)=false:=by
    rw[List.any_eq_false]
    intro p hp
    obtain⟨k,hk,e⟩:=List.getElem_of_mem hp
    have:=hg k p hk (by rw[← e];exact List.getElem?_eq_getElem hk)
    simp[this]
   rw[this]
   simp +contextual (disch:=omega) only[Tryz.f17,dd17,go_sem,↓reduceIte,evAppend,List.reduceReplicate,Nat.reduceAdd,Nat.reduceSub,reduceCtorEq,Nat.reduceLeDiff,Nat.reduceMul,Nat.reduceLT,Nat.reduceEqDiff,Int.reduceBNe,Int.reduceBEq,Int.reduceEq,Int.reduceLT,Int.reduceLE,Int.reduceGT,Int.reduceGE,mu17,Nat.reduceBEq,↓wrap_up,↓wrap_down,↓wrap_pred,↓wrap_sub_nat,Int.reduceToNat]
   exact fzEq rfl rfl
 ·rw[if_pos h1]
  simp +contextual (disch:=omega) only[Tryz.f17,dd17,go_sem,↓reduceIte,evAppend,List.reduceReplicate,Nat.reduceAdd,Nat.reduceSub,reduceCtorEq,Nat.reduceLeDiff,Nat.reduceMul,Nat.reduceLT,Nat.reduceEqDiff,Int.reduceBNe,Int.reduceBEq,Int.reduceEq,Int.reduceLT,Int.reduceLE,Int.reduceGT,Int.reduceGE,mu17,Nat.reduceBEq,↓wrap_up,↓wrap_down,↓wrap_pred,↓wrap_sub_nat,Int.reduceToNat,hv]
  exact fzEq rfl rfl
end
section
attribute [local go_sem] ty57 ty58 ty60
open Go.Proofs Go.RowKit Go.IntWalk
set_option maxRecDepth 100000
set_option maxHeartbeats 4000000
section
variable {ins:List Ins} {first:List Nat} {size:Nat} {P P':Nat→Prop} {D C:Nat} {a:Lay2} {c:CS} {H H':List MB}
theorem DI.frame (h:DI ins first size P D C a c H) (hl:H.length≤H'.length) (hs:∀ i,¬ P i→i < H.length→H'[i]?=H[i]?):DI ins first size P D C a c H':=by
 have old:∀ {i:Nat} {x:MB},¬ P i→H[i]?=some x→H'[i]?=some x:=fun {i x} hp hx=>by rw[hs i hp (List.getElem?_eq_some_iff.1 hx).1];exact hx
 obtain⟨es,hC,hes,hce⟩:=h.cache
 refine⟨old h.lo.2.1.1 h.d,⟨fun i hi=>Nat.lt_of_lt_of_le (h.lo.1 i hi) hl,h.lo.2⟩,⟨es,old h.lo.2.1.2 hC,hes,hce⟩,fun t l f ht=>?_,fun q l hq=>?_,h.small⟩
 ·obtain⟨b,m,c1,c2⟩:=h.st t l f ht
  exact⟨b,m,old (h.lo.2.2.1 t _ ht) c1,c2⟩
 ·obtain⟨es',d1,d2⟩:=h.nx q l hq
  exact⟨es',old (h.lo.2.2.2 q _ hq) d1,d2⟩
theorem DI.push (h:DI ins first size P D C a c H) (K:List MB):DI ins first size P D C a c (H++K):=
 h.frame (by simp) (fun i _ hi=>List.getElem?_append_left hi)
theorem DI.repro (h:DI ins first size P D C a c H) (hl:∀ i,P' i→i < H.length) (hn:∀ i,P' i→i≠D∧i≠C∧a.st i=none∧a.nx i=none):DI ins first size P' D C a c H:=
 ⟨h.d,⟨hl,⟨fun hp=>(hn D hp).1 rfl,fun hp=>(hn C hp).2.1 rfl⟩,fun i x hx hp=>(by rw[(hn i hp).2.2.1]at hx;cases hx),fun i x hx hp=>(by rw[(hn i hp).2.2.2]at hx;cases hx)⟩,h.cache,h.st,h.nx,h.small⟩
theorem DI.off (h:DI ins first size P D C a c H) {i:Nat} (hi:P i):i≠D∧i≠C∧a.st i=none∧a.nx i=none:=by
 refine⟨fun e=>h.lo.2.1.1 (e ▸ hi),fun e=>h.lo.2.1.2 (e ▸ hi),?_,?_⟩
 ·cases hx:a.st i with
  | none=>rfl
  | some x=>exact absurd hi (h.lo.2.2.1 i x hx)
 ·cases hx:a.nx i with
  | none=>rfl
  | some x=>exact absurd hi (h.lo.2.2.2 i x hx)
theorem DI.new (h:DI ins first size P D C a c H) {i:Nat} (hi:H.length≤i):i≠D∧i≠C∧a.st i=none∧a.nx i=none:=by
 obtain⟨es,hC,_⟩:=h.cache
 have hDl:=(List.getElem?_eq_some_iff.1 h.d).1
 have hCl:=(List.getElem?_eq_some_iff.1 hC).1
 refine⟨by omega,by omega,?_,?_⟩
 ·cases hx:a.st i with
  | none=>rfl
  | some x=>have:=(h.st_at hx).1;omega
 ·cases hx:a.nx i with
  | none=>rfl
  | some x=>have:=(h.nx_at hx).1;omega
end
abbrev refAV (g:Prg) (size LB:Nat) (c:CS):AV:=.agg [.sl false (g.ins.map insAV),I g.caps,.bool g.runes,NV size,.ms LB 1 c.L.length 0 c.L.length,NV c.made,NV c.emptied]
structure RI (g:Prg) (size RD LB:Nat) (c:CS) (H:List MB):Prop where
 d:H[RD]?=some (.row 7 [refAV g size LB c] 0)
 l:∃ z,z≤c.L.length∧H[LB]?=some (.row 1 (c.L.map lvAV) z)
 ne:RD≠LB
 small:c.made≤4000000000000∧c.emptied≤c.made∧c.L.length≤size∧1≤size∧size≤1024
 lens:∀ l∈c.L,l.length≤8192
structure FR (RD LB LB':Nat) (H H':List MB):Prop where
 lb:LB' = LB∨H.length≤LB'
 len:H.length≤H'.length
 same:∀ i,i≠RD→i≠LB→i < H.length→H'[i]?=H[i]?
theorem FR.refl (RD LB:Nat) (H:List MB):FR RD LB LB H H:=⟨.inl rfl,Nat.le_refl _,fun _ _ _ _=>rfl⟩
theorem FR.trans {RD LB LB1 LB2:Nat} {H H1 H2:List MB} (h:FR RD LB LB1 H H1) (h2:FR RD LB1 LB2 H1 H2):FR RD LB LB2 H H2:=by
 refine⟨?_,Nat.le_trans h.len h2.len,fun i i1 i2 i3=>?_⟩
 ·rcases h2.lb with e|e
  ·rw[e];exact h.lb
  ·exact .inr (Nat.le_trans h.len e)
 ·have:i≠LB1:=by
   rcases h.lb with e|e
   ·rw[e];exact i2
   ·omega
  rw[h2.same i i1 this (Nat.lt_of_lt_of_le i3 h.len),h.same i i1 i2 i3]
theorem app_lv {H:List MB} {i n z:Nat} {L:List (List Nat)} {s:List Nat} {t:Bool} (hi:getRow H i=some (1,L.map lvAV,z)) (hz:z≤n) (hn:L.length=n) (hr:n+1≤4000000000) :
  evAppend Tryz.prog H 58 58 (.ms i 1 n 0 n) (.sl t [lvAV s])=some (.ms i 1 (n+1) 0 (n+1),H.set i (.row 1 (L.map lvAV++[lvAV s]) z)):=by
 have hs:srcElems Tryz.prog H 22 (.sl t [lvAV s])=some [lvAV s]:=rfl
 rw[evAppend_end (e:=22) (by kernel_rfl) (by kernel_rfl) (k:=1) (by kernel_rfl) (by_:=24) (by kernel_rfl) (ze:=.sl true []) (by kernel_rfl) rfl (by omega) hs rfl hi (by rw[List.length_map];exact hn) hz (room_ok (by simpa using hr) (by omega))]
 rfl
theorem kf47r {g:Prg} {size RD LB:Nat} {c:CS} {H:List MB} (hi:RI g size RD LB c H) (hmd:c.made < 4000000000000) {s:List Nat} (hs:s.length≤8192) :
  ∃ r,(∃ LB' H',r=(AV.tup [],H')∧RI g size RD LB' (c.need size s) H'∧FR RD LB LB' H H')∧call Tryz.prog pol1 47 [.rf RD 1 0 0,.sl false (s.map NV)] H=some r:=by
 have rp:∀ H1 r H,retPol pol1 47 H1 r H=some (r,H):=fun H1 r H=>rfl
 have hD:=hi.d
 obtain⟨z,hz,hC⟩:=hi.l
 have hDl:=(List.getElem?_eq_some_iff.1 hD).1
 have hCl:=(List.getElem?_eq_some_iff.1 hC).1
 have hDC:=hi.ne
 obtain⟨s1,s2,s3,s4,s5⟩:=hi.small
 have oD:=fun x y K=>own2_D (D:=RD) (C:=LB) hDl hCl hDC x y K
 have oC:=fun x y K=>own2_C (D:=RD) (C:=LB) hDl hCl hDC x y K
 have oSD:=fun x y v K=>own2_setD (D:=RD) (C:=LB) hDl hCl hDC x y v K
 have oSC:=fun x y v K=>own2_setC (D:=RD) (C:=LB) hDl hCl hDC x y v K
 have hself:=own2_self _ _ hD hC
 have hpL:=plain_lv c.L
 have hfind:∀(x:MB) (K:List MB),call Tryz.prog pol1 42 [.ms LB 1 c.L.length 0 c.L.length,.sl false (s.map NV)] (own2 H RD LB x (.row 1 (c.L.map lvAV) z) K)=some (.bool (decide (s∈c.L)),own2 H RD LB x (.row 1 (c.L.map lvAV) c.L.length) K):=by
  intro x K
  have hrow:getRow (own2 H RD LB x (.row 1 (c.L.map lvAV) z) K) LB=some (1,c.L.map lvAV,z):=by unfold getRow;rw[oC]
  have hzz:=fz_row (tot:=c.L.length) hrow (by simp) hpL
  have hm:mark (own2 H RD LB x (.row 1 (c.L.map lvAV) z) K) LB c.L.length=own2 H RD LB x (.row 1 (c.L.map lvAV) c.L.length) K:=by
   unfold mark
   rw[hrow]
   simp only[oSC]
   rw[Nat.max_eq_right hz]
  rw[hm]at hzz
  rw[call_frz2 (l:=[.sl false (c.L.map lvAV),.sl false (s.map NV)]) rfl ?_ (by simp[AV.plainL,AV.plain,plain_nv,hpL])]
  ·exact kf42 c.L s (by omega) (fun l hl=>by have:=hi.lens l hl;omega) (by omega) _
  ·have h1:pol1.byref 42 0=false:=rfl
   have h2:pol1.byref 42 (0+1)=false:=rfl
   simp only[frzArgs,h1,h2,Bool.false_eq_true,if_false,hzz,fz_slp (plain_nv s)]
 have fr:∀(x y:MB) (K:List MB),FR RD LB LB H (own2 H RD LB x y K):=fun x y K=>⟨.inl rfl,by rw[own2_len];omega,fun i h1 h2 h3=>own2_ne _ _ _ h1 h2 h3⟩
 have same:RI g size RD LB c (own2 H RD LB (.row 7 [refAV g size LB c] 0) (.row 1 (c.L.map lvAV) c.L.length) []):=⟨oD _ _ _,⟨_,Nat.le_refl _,oC _ _ _⟩,hDC,hi.small,hi.lens⟩
 refine call_run2E (pol:=pol1) Tryz.func47 rfl rfl rfl rfl (frzArgs_mix _ _ _ (by have h:AV.plain (.sl false (s.map NV))=true:=by { simp[AV.plain,plain_nv] };simp only[mixOk,h,Bool.or_true,Bool.true_and];rfl)) ?_
 rw[← hself]
 by_cases h0:s=[]
 ·subst h0
  have hn:c.need size []=c:=by simp[CS.need]
  simp only[List.map_nil]at hfind
  generalize decide ([]∈c.L)=b at hfind
  simp +contextual (disch:=omega) only[Tryz.f47,dd47,go_sem,↓reduceIte,evAppend,List.reduceReplicate,Nat.reduceAdd,Nat.reduceSub,reduceCtorEq,Nat.reduceLeDiff,Nat.reduceMul,Nat.reduceLT,Nat.reduceEqDiff,Int.reduceBNe,Int.reduceBEq,Int.reduceEq,Int.reduceLT,Int.reduceLE,Int.reduceGT,Int.reduceGE,mu47,Nat.reduceBEq,↓wrap_up,↓wrap_down,↓wrap_pred,↓wrap_sub_nat,Int.reduceToNat,oD,oC,oSD,oSC,own2_app,own2_len,hfind]
  rw[hself]
  exact⟨_,⟨LB,_,rfl,by rw[hn];exact same,fr _ _ _⟩,rp _ _ _⟩
 have hl0:((s.length:Nat):Int)=0↔False:=by
  have:s.length≠0:=fun e=>h0 (List.length_eq_zero_iff.1 e)
  exact⟨fun h=>this (by omega),False.elim⟩
 by_cases hm:s∈c.L
 ·have hn:c.need size s=c:=by unfold CS.need;rw[if_neg h0,if_pos hm]
  have hd:decide (s∈c.L)=true:=decide_eq_true hm
  rw[hd]at hfind
  simp +contextual (disch:=omega) only[Tryz.f47,dd47,go_sem,↓reduceIte,evAppend,List.reduceReplicate,Nat.reduceAdd,Nat.reduceSub,reduceCtorEq,Nat.reduceLeDiff,Nat.reduceMul,Nat.reduceLT,Nat.reduceEqDiff,Int.reduceBNe,Int.reduceBEq,Int.reduceEq,Int.reduceLT,Int.reduceLE,Int.reduceGT,Int.reduceGE,mu47,Nat.reduceBEq,↓wrap_up,↓wrap_down,↓wrap_pred,↓wrap_sub_nat,Int.reduceToNat,oD,oC,oSD,oSC,own2_app,own2_len,hfind,hl0]
  refine⟨False.elim,fun _=>?_⟩
  rw[hself]
  exact⟨_,⟨LB,_,rfl,by rw[hn];exact same,fr _ _ _⟩,rp _ _ _⟩
 have hd:decide (s∈c.L)=false:=decide_eq_false hm
 rw[hd]at hfind
 by_cases hfull:c.L.length=size
 ·have hn:c.need size s=⟨[s],c.made+1,c.emptied+1⟩:=by unfold CS.need;rw[if_neg h0,if_neg hm,if_pos hfull]
  have happ:∀(x y:MB) (t:Bool),evAppend Tryz.prog (own2 H RD LB x y [.row 1 [] 0]) 58 58 (.ms H.length 1 0 0 0) (.sl t [.sl false (s.map NV)])=some (.ms H.length 1 1 0 1,own2 H RD LB x y [.row 1 [lvAV s] 0]):=by
   intro x y t
   have hg:(own2 H RD LB x y [MB.row 1 [] 0])[H.length]?=some (.row 1 [] 0):=by have:=own2_new (H:=H) (D:=RD) (C:=LB) x y [MB.row 1 [] 0] (k:=0);simpa using this
   rw[app_lv (L:=[]) (z:=0) (by unfold getRow;rw[hg];rfl) (Nat.le_refl _) rfl (by omega)]
   congr 2
   unfold own2
   rw[List.set_append_right _ _ (by simp)]
   simp
  simp +contextual (disch:=omega) only[Tryz.f47,dd47,go_sem,↓reduceIte,List.reduceReplicate,Nat.reduceAdd,Nat.reduceSub,reduceCtorEq,Nat.reduceLeDiff,Nat.reduceMul,Nat.reduceLT,Nat.reduceEqDiff,Int.reduceBNe,Int.reduceBEq,Int.reduceEq,Int.reduceLT,Int.reduceLE,Int.reduceGT,Int.reduceGE,mu47,Nat.reduceBEq,↓wrap_up,↓wrap_down,↓wrap_pred,↓wrap_sub_nat,Int.reduceToNat,oD,oC,oSD,oSC,own2_app,own2_len,hfind,hl0,happ]
  refine⟨False.elim,fun _=>⟨by unfold dOk;kernel_rfl,?_⟩⟩
  rw[hself]
  refine⟨_,⟨H.length,_,rfl,?_,⟨.inr (Nat.le_refl _),by rw[own2_len];omega,fun i h1 h2 h3=>own2_ne _ _ _ h1 h2 h3⟩⟩,rp _ _ _⟩
  rw[hn]
  refine⟨oD _ _ _,⟨0,Nat.zero_le _,?_⟩,by omega,⟨by simp only;omega,by simp only;omega,by simp only[List.length_singleton];omega,s4,s5⟩,fun l hl=>by rw[List.mem_singleton.1 hl];exact hs⟩
  exact own2_new (H:=H) (D:=RD) (C:=LB) _ _ [MB.row 1 [lvAV s] 0] (k:=0)
 ·have hn:c.need size s=⟨c.L++[s],c.made+1,c.emptied⟩:=by unfold CS.need;rw[if_neg h0,if_neg hm,if_neg hfull]
  have happ:∀(x:MB) (t:Bool),evAppend Tryz.prog (own2 H RD LB x (.row 1 (c.L.map lvAV) c.L.length) []) 58 58 (.ms LB 1 c.L.length 0 c.L.length) (.sl t [.sl false (s.map NV)])=some (.ms LB 1 (c.L.length+1) 0 (c.L.length+1),own2 H RD LB x (.row 1 (c.L.map lvAV++[lvAV s]) c.L.length) []):=by
   intro x t
   rw[app_lv (L:=c.L) (z:=c.L.length) (by unfold getRow;rw[oC]) (Nat.le_refl _) rfl (by omega),oSC]
  simp +contextual (disch:=omega) only[Tryz.f47,dd47,go_sem,↓reduceIte,List.reduceReplicate,Nat.reduceAdd,Nat.reduceSub,reduceCtorEq,Nat.reduceLeDiff,Nat.reduceMul,Nat.reduceLT,Nat.reduceEqDiff,Int.reduceBNe,Int.reduceBEq,Int.reduceEq,Int.reduceLT,Int.reduceLE,Int.reduceGT,Int.reduceGE,mu47,Nat.reduceBEq,↓wrap_up,↓wrap_down,↓wrap_pred,↓wrap_sub_nat,Int.reduceToNat,oD,oC,oSD,oSC,own2_app,own2_len,hfind,hl0,happ]
  refine⟨False.elim,fun _=>⟨by unfold dOk;kernel_rfl,?_⟩⟩
  rw[hself]
  refine⟨_,⟨LB,_,rfl,?_,fr _ _ _⟩,rp _ _ _⟩
  rw[hn]
  refine⟨?_,⟨c.L.length,by simp,?_⟩,hDC,⟨by simp only;omega,by simp only;omega,by simp only[List.length_append,List.length_singleton];omega,s4,s5⟩,fun l hl=>?_⟩
  ·rw[oD];simp[refAV]
  ·rw[oC];simp
  ·rcases List.mem_append.1 hl with h|h
   ·exact hi.lens l h
   ·rw[List.mem_singleton.1 h];exact hs
structure QS where
 p:Nat
 l:List Nat
 e:Int
 H:List MB
 LB:Nat
 c:CS
theorem kf21r {g:Prg} {size RD LB:Nat} {c:CS} {H:List MB} (hi:RI g size RD LB c H) (hl:g.ins.length≤8192) (hN:0 < g.ins.length) (hw:Leads g.ins) (ho:∀ i∈g.ins,i.op=0∨i.op=1∨i.op=2∨i.op=3∨i.op=4) (hsets:∀ i∈g.ins,i.set.length≤1000000) (xs:List Int) (hx:xs.length≤65536) (p:Nat) (hp:p≤xs.length) (hmd:c.made+xs.length+2≤4000000000000) :
  ∃ r,(∃ LB' H',r=(I (runL g.ins (xs.drop p) p (stateL g.ins [0]) (-1)),H')∧RI g size RD LB' (runC g.ins size (xs.drop p) (stateL g.ins [0]) (c.need size (stateL g.ins [0]))) H'∧FR RD LB LB' H H')∧call Tryz.prog pol1 21 [.rf RD 1 0 0,.sl false (xs.map I),I p] H=some r:=by
 have rp:∀ H1 r H,retPol pol1 21 H1 r H=some (r,H):=fun H1 r H=>rfl
 have hD:=hi.d
 have hc40:=kf40 g hl hw ho [0] (by simp) (by simpa using hN)
 have hc40:∀ H,call Tryz.prog pol1 40 [prgAV g,.sl true [I 0]] H=some (.sl false ((stateL g.ins [0]).map NV),H):=by
  intro H
  rw[call_frz2 (l:=[prgAV g,.sl false [I 0]]) (H1:=H) rfl ?_ (by simp[AV.plainL,AV.plain,plain_ins])]
  ·exact hc40 H
  ·have h1:pol1.byref 40 0=false:=rfl
   have h2:pol1.byref 40 (0+1)=false:=rfl
   simp only[frzArgs,h1,h2,Bool.false_eq_true,if_false,fz_plain H (plain_prg g),fz_slp (l:=[I 0]) rfl]
 obtain⟨hso,hss⟩:=stateL_ok g.ins [0]
 refine call_run2E (pol:=pol1) Tryz.func21 rfl rfl rfl rfl (frzArgs_mix _ _ _ (by have h:AV.plain (.sl false (xs.map I))=true:=by { simp[AV.plain,plain_ints] };simp only[mixOk,h,Bool.or_true,Bool.true_and];rfl)) ?_
 simp +contextual (disch:=omega) only[Tryz.f21,dd21,go_sem,↓reduceIte,evAppend,List.reduceReplicate,Nat.reduceAdd,Nat.reduceSub,reduceCtorEq,Nat.reduceLeDiff,Nat.reduceMul,Nat.reduceLT,Nat.reduceEqDiff,Int.reduceBNe,Int.reduceBEq,Int.reduceEq,Int.reduceLT,Int.reduceLE,Int.reduceGT,Int.reduceGE,mu21,Nat.reduceBEq,↓wrap_up,↓wrap_down,↓wrap_pred,↓wrap_sub_nat,Int.reduceToNat,hD,hc40]
 refine W_for (σ:=QS) (M:=(mskOf (pol1.mask 21) (pol1.gc 21) (pol1.acts 21) 0 4)) rfl (fun x=>(⟨49,[(9,I x.p),(8,.sl false (x.l.map NV)),(7,I x.e),(1,.sl false (xs.map I)),(0,.rf RD 1 0 0)],x.H⟩:St))
  (fun x=>x.p≤xs.length∧RI g size RD x.LB x.c x.H∧FR RD LB x.LB H x.H∧(∀ n∈x.l,n < g.ins.length)∧x.l.length≤g.ins.length∧x.c.made+(xs.length - x.p)≤c.made+xs.length ∧
    runL g.ins (xs.drop x.p) x.p x.l x.e=runL g.ins (xs.drop p) p (stateL g.ins [0]) (-1)∧runC g.ins size (xs.drop x.p) x.l (x.c.need size x.l)=runC g.ins size (xs.drop p) (stateL g.ins [0]) (c.need size (stateL g.ins [0])))
  (fun x=>xs.length - x.p) ⟨p,stateL g.ins [0],-1,H,LB,c⟩ ?_ ⟨hp,hi,.refl _ _ _,hso,hss,by simp only;omega,rfl,rfl⟩ _ rfl
 rintro⟨p',l,e,H',LB',c'⟩ ⟨h1,h2,h3,h4,h5,h6,h7,h8⟩
 simp only at h1 h2 h3 h4 h5 h6 h7 h8 ⊢
 have hneed0:c'.need size []=c':=by simp[CS.need]
 by_cases hl0:l=[]
 ·subst hl0
  rw[runL_nil]at h7
  rw[runC_nil,hneed0]at h8
  simp +contextual (disch:=omega) only[Tryz.f21,dd21,go_sem,↓reduceIte,evAppend,List.reduceReplicate,Nat.reduceAdd,Nat.reduceSub,reduceCtorEq,Nat.reduceLeDiff,Nat.reduceMul,Nat.reduceLT,Nat.reduceEqDiff,Int.reduceBNe,Int.reduceBEq,Int.reduceEq,Int.reduceLT,Int.reduceLE,Int.reduceGT,Int.reduceGE,mu21,Nat.reduceBEq,↓wrap_up,↓wrap_down,↓wrap_pred,↓wrap_sub_nat,Int.reduceToNat]
  exact⟨_,⟨LB',H',by rw[h7],by rw[← h8];exact h2,h3⟩,rp _ _ _⟩
 have hlen:0 < l.length:=List.length_pos_iff.2 hl0
 obtain⟨_,⟨LB1,H1,rfl,r1,fr1⟩,hc47⟩:=kf47r h2 (by omega) (s:=l) (by omega)
 have hD1:=r1.d
 have hc48:=kf48d g hl l (by omega) h4
 have hm2:=CS.need_made c' size l
 by_cases hend:p' = xs.length
 ·subst hend
  rw[List.drop_length]at h7 h8
  simp only[runL,runC,if_neg hl0]at h7 h8
  cases hdn:doneL g.ins l with
  | true=>
    rw[hdn]at hc48 h7
    rw[if_pos rfl]at h7
    simp +contextual (disch:=omega) only[Tryz.f21,dd21,go_sem,↓reduceIte,evAppend,List.reduceReplicate,Nat.reduceAdd,Nat.reduceSub,reduceCtorEq,Nat.reduceLeDiff,Nat.reduceMul,Nat.reduceLT,Nat.reduceEqDiff,Int.reduceBNe,Int.reduceBEq,Int.reduceEq,Int.reduceLT,Int.reduceLE,Int.reduceGT,Int.reduceGE,mu21,Nat.reduceBEq,↓wrap_up,↓wrap_down,↓wrap_pred,↓wrap_sub_nat,Int.reduceToNat,hc47,hD1,hc48]
    repeat' (first|intro _|apply And.intro|(unfold dOk;kernel_rfl)|exact St.beq_refl _|(show altO _ _ _ _=true;kernel_rfl)|(show (_ || _)=true;kernel_rfl)|(show (_ && _)=true;kernel_rfl))
    all_goals exact⟨_,⟨LB1,H1,by rw[h7],by rw[← h8];exact r1,h3.trans fr1⟩,rp _ _ _⟩
  | false=>
    rw[hdn]at hc48 h7
    rw[if_neg (by simp)]at h7
    simp +contextual (disch:=omega) only[Tryz.f21,dd21,go_sem,↓reduceIte,evAppend,List.reduceReplicate,Nat.reduceAdd,Nat.reduceSub,reduceCtorEq,Nat.reduceLeDiff,Nat.reduceMul,Nat.reduceLT,Nat.reduceEqDiff,Int.reduceBNe,Int.reduceBEq,Int.reduceEq,Int.reduceLT,Int.reduceLE,Int.reduceGT,Int.reduceGE,mu21,Nat.reduceBEq,↓wrap_up,↓wrap_down,↓wrap_pred,↓wrap_sub_nat,Int.reduceToNat,hc47,hD1,hc48]
    repeat' (first|intro _|apply And.intro|(unfold dOk;kernel_rfl)|exact St.beq_refl _|(show altO _ _ _ _=true;kernel_rfl)|(show (_ || _)=true;kernel_rfl)|(show (_ && _)=true;kernel_rfl))
    all_goals exact⟨_,⟨LB1,H1,by rw[h7],by rw[← h8];exact r1,h3.trans fr1⟩,rp _ _ _⟩
 ·obtain⟨x,hx'⟩:∃ x,xs[p']?=some x:=⟨_,List.getElem?_eq_getElem (by omega)⟩
  have hx2:(xs.map I)[p']?=some (I x):=by simp[hx']
  have hdrop:xs.drop p' = x::xs.drop (p' + 1):=by
   rw[List.drop_eq_getElem_cons (by omega)]
   congr 1
   rw[List.getElem?_eq_getElem (by omega)]at hx'
   exact Option.some.inj hx'
  have hc41:=kf41 g hl hw ho hsets l (by omega) h4 x
  obtain⟨hso2,hss2⟩:=stateL_ok g.ins (afterL g.ins l x)
  rw[hdrop]at h7 h8
  simp only[runL,runC,if_neg hl0]at h7 h8
  cases hdn:doneL g.ins l with
  | true=>
    rw[hdn]at hc48 h7
    rw[if_pos rfl]at h7
    simp +contextual (disch:=omega) only[Tryz.f21,dd21,go_sem,↓reduceIte,evAppend,List.reduceReplicate,Nat.reduceAdd,Nat.reduceSub,reduceCtorEq,Nat.reduceLeDiff,Nat.reduceMul,Nat.reduceLT,Nat.reduceEqDiff,Int.reduceBNe,Int.reduceBEq,Int.reduceEq,Int.reduceLT,Int.reduceLE,Int.reduceGT,Int.reduceGE,mu21,Nat.reduceBEq,↓wrap_up,↓wrap_down,↓wrap_pred,↓wrap_sub_nat,Int.reduceToNat,hc47,hD1,hc48,hx2,hc41]
    repeat' (first|intro _|apply And.intro|(unfold dOk;kernel_rfl)|exact St.beq_refl _|(show altO _ _ _ _=true;kernel_rfl)|(show (_ || _)=true;kernel_rfl)|(show (_ && _)=true;kernel_rfl))
    all_goals exact⟨⟨p' + 1,nextL g.ins l x,p',H1,LB1,c'.need size l⟩,⟨by simp only;omega,r1,h3.trans fr1,hso2,hss2,by simp only;omega,h7,h8⟩,by simp only;omega,rfl⟩
  | false=>
    rw[hdn]at hc48 h7
    rw[if_neg (by simp)]at h7
    simp +contextual (disch:=omega) only[Tryz.f21,dd21,go_sem,↓reduceIte,evAppend,List.reduceReplicate,Nat.reduceAdd,Nat.reduceSub,reduceCtorEq,Nat.reduceLeDiff,Nat.reduceMul,Nat.reduceLT,Nat.reduceEqDiff,Int.reduceBNe,Int.reduceBEq,Int.reduceEq,Int.reduceLT,Int.reduceLE,Int.reduceGT,Int.reduceGE,mu21,Nat.reduceBEq,↓wrap_up,↓wrap_down,↓wrap_pred,↓wrap_sub_nat,Int.reduceToNat,hc47,hD1,hc48,hx2,hc41]
    repeat' (first|intro _|apply And.intro|(unfold dOk;kernel_rfl)|exact St.beq_refl _|(show altO _ _ _ _=true;kernel_rfl)|(show (_ || _)=true;kernel_rfl)|(show (_ && _)=true;kernel_rfl))
    all_goals exact⟨⟨p' + 1,nextL g.ins l x,e,H1,LB1,c'.need size l⟩,⟨by simp only;omega,r1,h3.trans fr1,hso2,hss2,by simp only;omega,h7,h8⟩,by simp only;omega,rfl⟩
end
end Go.Ev
