/- Functions of the program, each with what it computes; no further conditions. -/
import Derived.Test.YtjgmfjneajcbmaaR06
import Derived.Test.YtjgmfjneajcbmaaR15
import Derived.Test.YtjgmfjneajcbmaaR14
import Derived.Test.YtjgmfjneajcbmaaR12
import Derived.Test.YtjgmfjneajcbmaaR11
import Derived.Test.YtjgmfjneajcbmaaR10
set_option linter.unusedVariables false
set_option linter.unusedSimpArgs false
namespace Go.Ev
attribute [local go_sem] eq_self bindW_some bindW_map bindW_ite bindW_iteN W_seq W_region W_draw W_cond W_condK W_ret W_skip W_exit W_scope W_label blockK_norm blockK_ret blockK_exit WO_nil WO_cons WO_guard WD_nil WD_cons WD_guard guardV guardW_boolT guardW_boolF guardW_tup fpL_some fpL_none footprint footprint0 fineF thenK_norm thenK_ret thenK_exit put_some put_none ev_tmp ev_con ev_func ofK_int ofK_bool ofK_str ofK_nil ofK_agg ofC_int ofC_bool ofC_str ofC_nil ofC_nilp one_int one_bool one_str one_nil one_nilp evOp evBuiltin evCall evLen getElem_16 getElem_4 List.length_cons List.length_nil List.cons_append List.nil_append List.append_nil if_false if_true Bool.false_eq_true Bool.true_eq_false Option.map_some Option.map_none List.map_cons List.map_nil evBinOp evBin evUn asB_bool splitB_decide splitB_true splitB_false splitB_beq splitB_bne splitB_not endK_ret endK_norm List.getElem?_cons_zero List.getElem?_cons_succ evResults evResult packRes retK_norm retK_ret cellsAt mkVal evFieldAddr evField evIndexAddr evPart evStore evBuild evBuildSlice fillC fillE evSlice evMakeSlice evConvert getRow AV.cells List.head?_cons List.drop_zero List.drop_succ_cons List.take_zero List.take_succ_cons List.drop_nil List.take_nil List.all_cons List.all_nil AV.ok Bool.and_self Bool.and_true Bool.true_and and_self and_true true_and Nat.zero_add Nat.add_zero setCells splice pairsOk pairsX altW_none altW_some cfg_al WI_nil WI_cons FP.apart heapEq_refl sameAt_refl Bool.or_true Bool.true_or Bool.or_false srcElems elemsOf mutDst indDst evLenH evMapUpd evLookup getMp keyOk resOk strOf roundK_norm roundK_exit roundK_ret List.length_map List.getElem?_map Int.toNat_natCast decide_true decide_false Bool.not_true Bool.not_false List.set set_0 set_1 set_2 set_3 set_4 look_hit look lookD_hit lookD_cons lookD_nil ins_hit ins upd_hit upd rem1_hit rem1 dropT dropSt_eq initT cfg_dd cfg_bd cfg_ra actL_nil actL_cons act1 updT_hit updT retE_norm retE_ret bndO bnd evEq eqCells not_false_eq_true not_true_eq_false toList_some Array.size_empty List.length_append List.map_append endE_norm endE_ret head_take1 List.contains_nil List.contains_cons Bool.or_self dlt_t dlt_f dle_t dle_f dgt_t dgt_f dge_t dge_f beq_t beq_f bne_t bne_f lt_T le_T nle_T nle_F Go.IntWalk.i64_in Go.IntWalk.i64_quo Go.IntWalk.rem_in ty0 ty3 ty4
section
attribute [local go_sem] W_block evAppend frzB tySzE List.head?_drop Nat.mul_one sameAt_zero sameAt_two sameAt_three sameAt_four sameAt_five room_ok ty22 ty34 ty42 ty44 ty63 ty87 ty88 ty90 ty120 ty126
open Go.Proofs Go.RowKit Go.IntWalk
set_option maxRecDepth 100000
set_option maxHeartbeats 4000000
theorem retPol_fz {pol:Pol} {f:Nat} {H1 H H':List MB} {r r':AV} (hk:pol.keep f=false) (ho:pol.own f=false) (hr:fz r H=some (r',H')) (hu:AV.under H1.length r' = true) (h:keptOk H1.length H1 H' = true) :
  retPol pol f H1 r H=some (r',H'.take H1.length):=by
 unfold retPol
 simp only[hk,ho,Bool.false_eq_true,if_false,hr,hu,h,and_self,if_true]
def foundAV (a:Nat) (e:Int) (r:AV):Prop:=∃(s t:Int) (l:List AV),AV.plainL l=true∧r=.tup [.agg [I s,I t,.sl false l],.bool (decide (0≤e))]∧t=(if 0≤e then e else 0)
abbrev m0:MB:=.row 3 [.agg [I 0,I 0,.sl true []]] 0
theorem f36 (g:Prg) (hl:g.ins.length≤8192) (hw:Leads g.ins) (hN:0 < g.ins.length) (c:Nat) (hc:g.caps=c) (hc9:c≤9) (hsv:∀ i∈g.ins,(i.op=4→0≤i.n∧i.n.toNat < 2 * c)∧i.op≠5) (hset:∀ i∈g.ins,i.set.length≤1000000)
  (xs:List Int) (hx:xs.length≤65536) (a:Nat) (ha:a≤xs.length) :
  ∃ r,(∃(v:AV) (m:List Int),r=(v,[.row 3 [prgAV g] 0,m0,.row 3 [prgAV g] 0,.row 1 (m.map I) 0,.row 5 [mach g xs] 0])∧foundAV a (runL g.ins (xs.drop a) a (stateL g.ins [0]) (-1)) v) ∧
    call Try.prog pol1 36 [.rf 4 1 0 0,NV a,NV a] [.row 3 [prgAV g] 0,m0,.row 3 [prgAV g] 0,.row 1 (List.replicate g.ins.length (I 0)) 0,.row 5 [mach g xs] 0]=some r:=by
 have hpi:=fun n=>underL_plain n _ (plain_ins g.ins)
 have up:MB.under 16 (.row 3 [prgAV g] 0)=true:=by simp only[under_row,AV.underL,AV.under,hpi,Bool.and_self]
 obtain⟨r,⟨m,T,b7,b8,rfl,hres⟩,hcall⟩:=f55 g hl hw hN c hc hc9 hsv hset xs hx a ha (.row 3 [prgAV g] 0) m0 (.row 3 [prgAV g] 0) m0 up rfl up rfl
 generalize runL g.ins (xs.drop a) a (stateL g.ins [0]) (-1)=e at *
 obtain⟨h8,h7⟩:=hres
 subst h8
 have kept:∀ T':List MB,keptOk 5 [.row 3 [prgAV g] 0,m0,.row 3 [prgAV g] 0,.row 1 (List.replicate g.ins.length (I 0)) 0,.row 5 [mach g xs] 0] (.row 3 [prgAV g] 0::m0::.row 3 [prgAV g] 0::.row 1 (m.map I) 0::.row 5 [mach g xs] 0::T')=true:=by
  intro T'
  have h0:=fun n=>underL_plain n _ (plain_ints m)
  simp only[keptOk,MB.beq_refl,under_row,h0,Bool.or_true,Bool.true_or,Bool.and_self,Bool.true_and]
 have rfz:∀(r r':AV) (T':List MB),(∀ H,fz r H=some (r',H))→AV.under 5 r' = true→retPol pol1 36 [.row 3 [prgAV g] 0,m0,.row 3 [prgAV g] 0,.row 1 (List.replicate g.ins.length (I 0)) 0,.row 5 [mach g xs] 0] r (.row 3 [prgAV g] 0::m0::.row 3 [prgAV g] 0::.row 1 (m.map I) 0::.row 5 [mach g xs] 0::T')=some (r',[.row 3 [prgAV g] 0,m0,.row 3 [prgAV g] 0,.row 1 (m.map I) 0,.row 5 [mach g xs] 0]):=
  fun r r' T' h1 h2=>retPol_fz rfl rfl (h1 _) h2 (kept T')
 refine call_run2E (pol:=pol1) Try.func36 rfl rfl rfl rfl (frzArgs_mix _ _ _ rfl) ?_
 rcases h7 with ⟨he,rfl⟩|⟨n,hn,l,rfl⟩
 ·have hd:decide (0≤e)=false:=by simpa using he
  rw[hd]at hcall
  simp +contextual (disch:=omega) only[Try.f36,dd36,go_sem,↓reduceIte,List.reduceReplicate,Nat.reduceAdd,Nat.reduceSub,reduceCtorEq,Nat.reduceLeDiff,Nat.reduceMul,Nat.reduceLT,Nat.reduceEqDiff,Int.reduceBNe,Int.reduceBEq,Int.reduceEq,Int.reduceLT,Int.reduceLE,Int.reduceGT,Int.reduceGE,mu36,Nat.reduceBEq,↓wrap_up,↓wrap_down,↓wrap_pred,↓wrap_sub_nat,Int.reduceToNat,hcall]
  repeat' (first|intro _|apply And.intro|(unfold dOk;kernel_rfl)|exact St.beq_refl _|(show altO _ _ _ _=true;kernel_rfl)|(show (_ || _)=true;kernel_rfl)|(show (_ && _)=true;kernel_rfl))
  all_goals
   refine⟨_,⟨_,m,rfl,0,0,[],rfl,?_,?_⟩,rfz _ (.tup [.agg [I 0,I 0,.sl false []],.bool false]) _ (fun H=>rfl) rfl⟩
   ·rw[hd]
   ·rw[if_neg (by omega)]
 ·have hd:decide (0≤e)=true:=by simp[hn]
  rw[hd]at hcall
  have hpl:=plain_pair l
  simp +contextual (disch:=omega) only[Try.f36,dd36,go_sem,↓reduceIte,List.reduceReplicate,Nat.reduceAdd,Nat.reduceSub,reduceCtorEq,Nat.reduceLeDiff,Nat.reduceMul,Nat.reduceLT,Nat.reduceEqDiff,Int.reduceBNe,Int.reduceBEq,Int.reduceEq,Int.reduceLT,Int.reduceLE,Int.reduceGT,Int.reduceGE,mu36,Nat.reduceBEq,↓wrap_up,↓wrap_down,↓wrap_pred,↓wrap_sub_nat,Int.reduceToNat,hcall]
  repeat' (first|intro _|apply And.intro|(unfold dOk;kernel_rfl)|exact St.beq_refl _|(show altO _ _ _ _=true;kernel_rfl)|(show (_ || _)=true;kernel_rfl)|(show (_ && _)=true;kernel_rfl))
  all_goals
   refine⟨_,⟨_,m,rfl,a,e,l.map pairAV,plain_pair l,?_,?_⟩,rfz _ (.tup [.agg [NV a,NV n,.sl false (l.map pairAV)],.bool true]) _ (fun H=>fz_plain H (by simp[AV.plain,AV.plainL,hpl])) (by simp[AV.under,AV.underL,underL_plain _ _ hpl])⟩
   ·rw[hd,hn]
   ·rw[hn];simp
theorem f35s (g:Prg) (hb:PrgB g) (hv:validG g=0) (xs:List Int) (hx:xs.length≤65536) :
  call Try.prog pol1 35 [prgAV g,.sl false (xs.map I)] [.row 3 [prgAV g] 0,m0]=some (.tup [.rf 4 1 0 0,I 0],[.row 3 [prgAV g] 0,m0,.row 3 [prgAV g] 0,.row 1 (List.replicate g.ins.length (I 0)) 0,.row 5 [mach g xs] 0]):=by
 have hf:=f30 g hb
 rw[hv]at hf
 have hl:=hb.1
 have rp:∀ H1 r H,retPol pol1 35 H1 r H=some (r,H):=fun H1 r H=>rfl
 refine call_run2 (pol:=pol1) Try.func35 rfl rfl rfl rfl (frzArgs_mix _ _ _ (by have h:=plain_prg g;have h2:AV.plain (.sl false (xs.map I))=true:=by { simp[AV.plain,plain_ints] };simp only[mixOk,h,h2,Bool.or_true,Bool.true_and])) ?_
 simp +contextual (disch:=omega) only[Try.f35,dd35,go_sem,↓reduceIte,List.reduceReplicate,Nat.reduceAdd,Nat.reduceSub,reduceCtorEq,Nat.reduceLeDiff,Nat.reduceMul,Nat.reduceLT,Nat.reduceEqDiff,Int.reduceBNe,Int.reduceBEq,Int.reduceEq,Int.reduceLT,Int.reduceLE,Int.reduceGT,Int.reduceGE,mu35,Nat.reduceBEq,↓wrap_up,↓wrap_down,↓wrap_pred,↓wrap_sub_nat,Int.reduceToNat,hf]
 repeat' (first|intro _|apply And.intro|(unfold dOk;kernel_rfl)|exact St.beq_refl _|(show altO _ _ _ _=true;kernel_rfl)|(show (_ || _)=true;kernel_rfl)|(show (_ && _)=true;kernel_rfl))
 all_goals exact rp _ _ _
theorem f20 (g:Prg) (hb:PrgB g) (hv:validG g=0) (hl:g.ins.length≤8192) (hw:Leads g.ins) (hN:0 < g.ins.length) (c:Nat) (hc:g.caps=c) (hc9:c≤9) (hsv:∀ i∈g.ins,(i.op=4→0≤i.n∧i.n.toNat < 2 * c)∧i.op≠5)
  (xs:List Int) (hx:xs.length≤65536) (a:Nat) (ha:a≤xs.length) :
  ∃ r,(∃(s t:Int) (l:List AV),AV.plainL l=true∧r=.tup [.agg [I s,I t,.sl false l],.bool (decide (0≤runL g.ins (xs.drop a) a (stateL g.ins [0]) (-1))),I 0]∧t=(if 0≤runL g.ins (xs.drop a) a (stateL g.ins [0]) (-1) then runL g.ins (xs.drop a) a (stateL g.ins [0]) (-1) else 0)) ∧
    ∀ H,call Try.prog pol1 20 [prgAV g,.sl false (xs.map I),NV a] H=some (r,H):=by
 obtain⟨r,⟨v,m,rfl,s,t,l,hpl,rfl,ht⟩,h36⟩:=f36 g hl hw hN c hc hc9 hsv hb.2 xs hx a ha
 have h35:=f35s g hb hv xs hx
 have hpi:=plain_ins g.ins
 have hpx:=plain_ints xs
 generalize runL g.ins (xs.drop a) a (stateL g.ins [0]) (-1)=e at *
 refine call_runA Try.func20 rfl rfl rfl rfl rfl rfl (fun _=>rfl) (by simp[AV.plain,AV.plainL,hpi,hpx]) (by rintro _ ⟨s,t,l,hpl,rfl,_⟩;simp[AV.plain,AV.plainL,hpl]) ?_
 simp +contextual (disch:=omega) only[Try.f20,dd20,go_sem,↓reduceIte,List.reduceReplicate,Nat.reduceAdd,Nat.reduceSub,reduceCtorEq,Nat.reduceLeDiff,Nat.reduceMul,Nat.reduceLT,Nat.reduceEqDiff,Int.reduceBNe,Int.reduceBEq,Int.reduceEq,Int.reduceLT,Int.reduceLE,Int.reduceGT,Int.reduceGE,mu20,Nat.reduceBEq,↓wrap_up,↓wrap_down,↓wrap_pred,↓wrap_sub_nat,Int.reduceToNat,h35,h36]
 refine⟨_,⟨s,t,l,hpl,rfl,ht⟩,_,fz_plain _ (by simp[AV.plain,AV.plainL,hpl])⟩
end
section
attribute [local go_sem] W_block evAppend tySzE List.head?_drop Nat.mul_one sameAt_zero sameAt_two sameAt_three sameAt_four sameAt_five room_ok ty22 ty23 ty34 ty39 ty42 ty44 ty51 ty78 ty80
open Go.Proofs Go.RowKit Go.IntWalk
set_option maxRecDepth 100000
set_option maxHeartbeats 8000000
theorem f29n (l:List (Int×Int)) (hl:l.length≤1000000) (K:List MB) (x:MB):call Try.prog pol1 29 [.sl false (l.map spanAV)] (K++[x])=some (.sl false (l.map spanAV),K++[x]):=by
 rw[call_eq]
 unfold evStep
 rw[if_neg (show ¬ pol1.pure 29=true by decide)]
 show cloneExt 2 16 [.sl false (l.map spanAV)] (K++[x])=_
 have h1:((l.map spanAV).all fun y=>decide (y.cells.length=2) && y.cells.all AV.ok)=true:=by
  rw[List.all_eq_true]
  intro y hy
  obtain⟨p,_,rfl⟩:=List.mem_map.1 hy
  rfl
 have h2:roomFor (l.map spanAV).length 16=true:=room_ok (by simp;omega) (by omega)
 unfold cloneExt
 simp only[elemsOf]
 rw[if_pos ⟨h1,h2,plain_span l⟩]
 cases K<;>rfl
theorem f28n (l:List Ins) (hl:0 < l.length∧l.length≤1000000) (K:List MB):call Try.prog pol1 28 [.sl false (l.map insAV)] K=some (.ms K.length 5 l.length 0 l.length,K++[.row 5 (l.map insAV) 0]):=by
 rw[call_eq]
 unfold evStep
 rw[if_neg (show ¬ pol1.pure 28=true by decide)]
 show cloneExtO 5 56 [.sl false (l.map insAV)] K=_
 have h1:((l.map insAV).all fun y=>decide (y.cells.length=5) && y.cells.all AV.ok)=true:=by
  rw[List.all_eq_true]
  intro y hy
  obtain⟨p,_,rfl⟩:=List.mem_map.1 hy
  rfl
 have h2:roomFor (l.map insAV).length 56=true:=room_ok (by simp;omega) (by omega)
 unfold cloneExtO
 simp only[elemsOf]
 rw[if_pos ⟨h1,h2⟩]
 cases l with
 | nil=>simp at hl
 | cons y ys=>simp
theorem call_frz2 {P:Program} {pol:Pol} {f:Nat} {args l:List AV} {H H1:List MB} (hp:pol.pure f=true) (h:frzArgs pol f 0 args H=some (l,H1)) (ha:AV.plainL l=true) :
  call P pol f args H=call P pol f l H1:=by
 have hf:∀(l:List AV) (i:Nat),AV.plainL l=true→frzArgs pol f i l H1=some (l,H1):=by
  intro l
  induction l with
  | nil=>intro i _;rfl
  | cons x l ih=>
    intro i h
    simp only[AV.plainL,Bool.and_eq_true]at h
    simp only[frzArgs,fz_plain H1 h.1,ih (i+1) h.2]
    split<;>simp_all
 rw[call_eq,call_eq]
 unfold evStep
 simp only[hp,if_true,h,hf l 0 ha]
theorem f9_bad (g:Prg) (hb:PrgB g) (cache:Int) (H:List MB) (h:acceptG g≠0):∃ H',call Try.prog pol1 9 [prgAV g,I cache] H=some (.tup [.nilp,I (acceptG g)],H')∧KeepsLow H.length H H':=by
 have hv:=f27 g hb
 have rp:∀ H1 r H,retPol pol1 9 H1 r H=some (r,H):=fun H1 r H=>rfl
 have hgl:=fun x:MB=>get_last H x
 refine⟨H++[.row 3 [prgAV g] 0],?_,by simp,fun i hi=>List.getElem?_append_left hi⟩
 refine call_run2 (pol:=pol1) Try.func9 rfl rfl rfl rfl (frzArgs_mix _ _ _ (by have h:=plain_prg g;simp only[mixOk,h,Bool.or_true,Bool.true_and];rfl)) ?_
 simp +contextual (disch:=omega) only[Try.f9,dd9,go_sem,↓reduceIte,List.reduceReplicate,Nat.reduceAdd,Nat.reduceSub,reduceCtorEq,Nat.reduceLeDiff,Nat.reduceMul,Nat.reduceLT,Nat.reduceEqDiff,Int.reduceBNe,Int.reduceBEq,frzB,Int.reduceEq,Int.reduceLT,Int.reduceLE,Int.reduceGT,Int.reduceGE,mu9,Nat.reduceBEq,↓wrap_up,↓wrap_down,↓wrap_pred,↓wrap_sub_nat,Int.reduceToNat,hv,hgl]
 rfl
theorem f9n (g:Prg) (hb:PrgB g) (hl:Leads g.ins) (h0:0 < g.ins.length) (hN:g.ins.length≤8192) (size:Nat) (hs:1≤size∧size≤1024) (H:List MB) (h:acceptG g=0) :
  ∃ r,(∃ D C H' a,r=(AV.tup [.rf D 1 0 0,I 0],H')∧DI g.ins (stateL g.ins [0]) size H.length D C a ⟨[],0,0⟩ H'∧KeepsLow H.length H H')∧call Try.prog pol1 9 [prgAV g,I size] H=some r:=by
 have hv:=f27 g hb
 rw[h]at hv
 have rp:∀ H1 r H,retPol pol1 9 H1 r H=some (r,H):=fun H1 r H=>rfl
 have hgl:=fun x:MB=>get_last H x
 have hc30:=f30l g.ins (by omega) hl [0] (by simp) (by simpa using h0)
 simp only[List.map_cons,List.map_nil]at hc30
 have hcl:=f28n g.ins ⟨h0,by omega⟩
 refine call_run2E (pol:=pol1) Try.func9 rfl rfl rfl rfl (frzArgs_mix _ _ _ (by have h:=plain_prg g;simp only[mixOk,h,Bool.or_true,Bool.true_and];rfl)) ?_
 simp +contextual (disch:=omega) only[Try.f9,dd9,go_sem,↓reduceIte,List.reduceReplicate,Nat.reduceAdd,Nat.reduceSub,reduceCtorEq,Nat.reduceLeDiff,Nat.reduceMul,Nat.reduceLT,Nat.reduceEqDiff,Int.reduceBNe,Int.reduceBEq,frzB,Int.reduceEq,Int.reduceLT,Int.reduceLE,Int.reduceGT,Int.reduceGE,mu9,Nat.reduceBEq,↓wrap_up,↓wrap_down,↓wrap_pred,↓wrap_sub_nat,Int.reduceToNat,hv,hgl,hcl]
 rw[List.append_assoc]
 simp only[List.cons_append,List.nil_append]
 have gg:∀ y z:MB,(H++[y,z])[H.length+1]?=some z:=fun y z=>by rw[List.getElem?_append_right (by omega)];simp
 have ss:∀ y z v:MB,(H++[y,z]).set (H.length+1) v=H++[y,v]:=fun y z v=>by rw[List.set_append_right _ _ (by omega)];simp
 refine W_count (M:=(mskOf (pol1.mask 9) (pol1.gc 9) (pol1.acts 9) 0 8)) rfl g.ins.length (fun i=>(⟨47,[(25,I i),(24,I g.ins.length),(7,.ms (H.length+1) 5 g.ins.length 0 g.ins.length),(1,I size)],H++[.row 3 [prgAV g] 0,.row 5 (g.ins.map insAV) 0]⟩:St)) (fun _=>True) ?_ ?_ trivial _ ?_
 ·intro i hi _
  obtain⟨p,hp⟩:∃ p,g.ins[i]?=some p:=⟨_,List.getElem?_eq_getElem hi⟩
  have hp':(g.ins.map insAV)[i]?=some (insAV p):=by simp[hp]
  have hset:(g.ins.map insAV).set i (insAV p)=g.ins.map insAV:=by
   apply List.ext_getElem?
   intro q
   by_cases e:i=q
   ·subst e;rw[List.getElem?_set_self (by simpa using hi),hp']
   ·rw[List.getElem?_set_ne e]
  have hc29:=fun x y:MB=>f29n p.set (hb.2 p (List.mem_of_getElem? hp)) (H++[x]) y
  simp only[List.append_assoc,List.cons_append,List.nil_append]at hc29
  simp +contextual (disch:=omega) only[Try.f9,dd9,go_sem,↓reduceIte,List.reduceReplicate,Nat.reduceAdd,Nat.reduceSub,reduceCtorEq,Nat.reduceLeDiff,Nat.reduceMul,Nat.reduceLT,Nat.reduceEqDiff,Int.reduceBNe,Int.reduceBEq,frzB,Int.reduceEq,Int.reduceLT,Int.reduceLE,Int.reduceGT,Int.reduceGE,mu9,Nat.reduceBEq,↓wrap_up,↓wrap_down,↓wrap_pred,↓wrap_sub_nat,Int.reduceToNat,gg,ss,hp',hc29,hset]
  rfl
 ·intro _
  have hcl30:call Try.prog pol1 30 [.ms (H.length+1) 5 g.ins.length 0 g.ins.length,.sl true [I 0]] (H++[.row 3 [prgAV g] 0,.row 5 (g.ins.map insAV) 0]) =
    some (.sl false ((stateL g.ins [0]).map NV),H++[.row 3 [prgAV g] 0,.row 5 (g.ins.map insAV) g.ins.length]):=by
   have hrow:getRow (H++[.row 3 [prgAV g] 0,.row 5 (g.ins.map insAV) 0]) (H.length+1)=some (5,g.ins.map insAV,0):=by unfold getRow;rw[gg]
   have hz:=fz_row (tot:=g.ins.length) hrow (by simp) (plain_ins g.ins)
   have hm:mark (H++[.row 3 [prgAV g] 0,.row 5 (g.ins.map insAV) 0]) (H.length+1) g.ins.length=H++[.row 3 [prgAV g] 0,.row 5 (g.ins.map insAV) g.ins.length]:=by
    unfold mark
    rw[hrow]
    simp only[ss,Nat.zero_max,Nat.max_eq_right (Nat.zero_le _)]
   rw[hm]at hz
   rw[call_frz2 (l:=[.sl false (g.ins.map insAV),.sl false [I 0]]) rfl ?_ (by simp[AV.plainL,AV.plain,plain_ins])]
   ·exact hc30 _
   ·have h1:pol1.byref 30 0=false:=rfl
    have h2:pol1.byref 30 (0+1)=false:=rfl
    simp only[frzArgs,h1,h2,Bool.false_eq_true,if_false,hz,fz_slp (l:=[I 0]) rfl]
  have hfrz:∀(n:Nat) (t:Tm),frzB ⟨n,t,H++[.row 3 [prgAV g] 0,.row 5 (g.ins.map insAV) g.ins.length]++[.mp .str []]++[.row 6 [.agg [.ms (H.length+1) 5 g.ins.length 0 g.ins.length,.sl false ((stateL g.ins [0]).map NV),I size,.mpr (H.length+2),.int .i64 0,.int .i64 0]] 0]⟩ (H.length+2+1) =
    ⟨n,t,H++[.row 3 [prgAV g] 0,.row 5 (g.ins.map insAV) g.ins.length,.mp .str [],.row 6 [dfaAV g.ins (stateL g.ins [0]) size (H.length+2) ⟨[],0,0⟩] 0]⟩:=by
   intro n t
   simp only[List.append_assoc,List.cons_append,List.nil_append]
   generalize hHH:H++[.row 3 [prgAV g] 0,.row 5 (g.ins.map insAV) g.ins.length,.mp .str [],.row 6 [.agg [.ms (H.length+1) 5 g.ins.length 0 g.ins.length,.sl false ((stateL g.ins [0]).map NV),I size,.mpr (H.length+2),.int .i64 0,.int .i64 0]] 0]=HH
   have r1:getRow HH (H.length+1)=some (5,g.ins.map insAV,g.ins.length):=by
    unfold getRow;rw[← hHH,List.getElem?_append_right (by omega)];simp
   have r3:getRow HH (H.length+2+1)=some (6,[.agg [.ms (H.length+1) 5 g.ins.length 0 g.ins.length,.sl false ((stateL g.ins [0]).map NV),I size,.mpr (H.length+2),.int .i64 0,.int .i64 0]],0):=by
    unfold getRow;rw[← hHH,List.getElem?_append_right (by omega)];simp[show H.length+2+1 - H.length=3 by omega]
   have hm:mark HH (H.length+1) g.ins.length=HH:=by
    unfold mark
    rw[r1]
    simp only[Nat.max_self]
    rw[← hHH,List.set_append_right _ _ (by omega)];simp
   have hz:=fzA_row (n:=5) (tot:=g.ins.length) r1 (by simp) (plain_ins g.ins)
   rw[hm]at hz
   have hp:=fzL_plain (fzJ 6) ((stateL g.ins [0]).map NV) HH (plain_nv _)
   have hfz:fzs [.agg [.ms (H.length+1) 5 g.ins.length 0 g.ins.length,.sl false ((stateL g.ins [0]).map NV),I size,.mpr (H.length+2),.int .i64 0,.int .i64 0]] HH=some ([dfaAV g.ins (stateL g.ins [0]) size (H.length+2) ⟨[],0,0⟩],HH):=by
    simp only[fzs,fzL,fzA_agg,hz,fzA_sl,hp,fzA_int]
    rfl
   unfold frzB
   simp only[r3,hfz,AV.beqL_refl,if_true]
   rw[← hHH,List.set_append_right _ _ (by omega)]
   simp[show H.length+2+1 - H.length=3 by omega]
  simp +contextual (disch:=omega) only[Try.f9,dd9,go_sem,↓reduceIte,List.reduceReplicate,Nat.reduceAdd,Nat.reduceSub,reduceCtorEq,Nat.reduceLeDiff,Nat.reduceMul,Nat.reduceLT,Nat.reduceEqDiff,Int.reduceBNe,Int.reduceBEq,Int.reduceEq,Int.reduceLT,Int.reduceLE,Int.reduceGT,Int.reduceGE,mu9,Nat.reduceBEq,↓wrap_up,↓wrap_down,↓wrap_pred,↓wrap_sub_nat,Int.reduceToNat,gg,ss,hcl30,hfrz]
  refine⟨_,⟨_,H.length+2,_,⟨fun _=>none,fun _=>none⟩,rfl,?_,?_⟩,rp _ _ _⟩
  ·refine⟨?_,⟨by omega,by omega,fun i x h=>(by cases h),fun i x h=>(by cases h)⟩,⟨[],?_,rfl,fun i l h=>by simp at h⟩,fun t l f h=>(by cases h),fun q l h=>(by cases h),⟨by simp,by simp,by simp,hs.1,hs.2⟩⟩
   ·rw[List.getElem?_append_right (by omega)];simp[show H.length+2+1 - H.length=3 by omega]
   ·rw[List.getElem?_append_right (by omega)];simp
  ·exact⟨by simp,fun i hi=>List.getElem?_append_left hi⟩
 ·rfl
end
section
attribute [local go_sem] W_block frzB tySzE List.head?_drop Nat.mul_one sameAt_zero sameAt_two sameAt_three sameAt_four sameAt_five room_ok ty22
open Go.Proofs Go.RowKit Go.IntWalk
set_option maxRecDepth 100000
set_option maxHeartbeats 8000000
theorem app_i {H:List MB} {i n:Nat} {rs:List Int} {c:Int} {t:Bool} (hi:getRow H i=some (1,rs.map I,0)) (hn:rs.length=n) (hr:n+1≤4000000000) :
  evAppend Try.prog H 22 22 (.ms i 1 n 0 n) (.sl t [I c])=some (.ms i 1 (n+1) 0 (n+1),H.set i (.row 1 ((rs++[c]).map I) 0)):=by
 have hs:srcElems Try.prog H 3 (.sl t [I c])=some [I c]:=rfl
 rw[evAppend_end (e:=3) (by kernel_rfl) (by kernel_rfl) (k:=1) (by kernel_rfl) (by_:=8) (by kernel_rfl) (ze:=I 0) (by kernel_rfl) rfl (by omega) hs rfl hi (by rw[List.length_map];exact hn) (Nat.zero_le _) (room_ok (by simpa using hr) (by omega))]
 rw[List.map_append]
 rfl
def textT:List Int:=[97,97,97,98,98,99,97,98,10,32,65,200]
def textAt (l:List Int) (i:Nat):Int:=textT.getD (pickI l i 12).toNat 0
def textN (l:List Int) (n:Nat):List Int:=(List.range n).map (textAt l)
theorem textN_snoc (l:List Int) (n:Nat):textN l (n+1)=textN l n++[textAt l n]:=by simp[textN,List.range_succ]
theorem textN_len (l:List Int) (n:Nat):(textN l n).length=n:=by simp[textN]
def textI (l:List Int) (most:Nat):List Int:=textN l (min l.length most)
theorem f17t (l:List Int) (hl:∀ x∈l,In64 x) (most:Nat) (hm:most≤1000000) (H:List MB):call Try.prog pol1 17 [.sl false (l.map I),I most] H=some (.sl false ((textI l most).map I),H):=by
 have hpl:=plain_ints l
 refine call_run Try.func17 rfl rfl rfl rfl rfl rfl (fun _=>rfl) (by simp[AV.plain,AV.plainL,hpl]) (by simp[AV.plain,plain_ints]) ?_ H
 have hP:=fun i=>f57 l i 12 hl (by omega)
 simp +contextual (disch:=omega) only[Try.f17,dd17,go_sem,↓reduceIte,evAppend,List.reduceReplicate,Nat.reduceAdd,Nat.reduceSub,reduceCtorEq,Nat.reduceLeDiff,Nat.reduceMul,Nat.reduceLT,Nat.reduceEqDiff,Int.reduceBNe,Int.reduceBEq,Int.reduceEq,Int.reduceLT,Int.reduceLE,Int.reduceGT,Int.reduceGE,mu17,Nat.reduceBEq,↓wrap_up,↓wrap_down,↓wrap_pred,↓wrap_sub_nat,Int.reduceToNat]
 refine W_count (M:=(mskOf (pol1.mask 17) (pol1.gc 17) (pol1.acts 17) 0 3)) rfl (min l.length most) (fun i=>(⟨28,[(6,I i),(5,.ms 0 1 i 0 i),(1,I most),(0,.sl false (l.map I))],[.row 1 ((textN l i).map I) 0]⟩:St)) (fun _=>True) ?_ ?_ trivial _ ?_
 ·intro i hi _
  have h1:i < l.length:=by omega
  have h2:i < most:=by omega
  have hp:=pick_lt (l:=l) (i:=i) (m:=12) (by omega)
  have ht:textAt l i=textT.getD (pickI l i 12).toNat 0:=rfl
  have hP:=hP i
  generalize pickI l i 12=p at *
  obtain⟨n,rfl⟩:∃ n:Nat,p=n:=⟨p.toNat,by omega⟩
  have hg:([I 97,I 97,I 97,I 98,I 98,I 99,I 97,I 98,I 10,I 32,I 65,I 200]:List AV)[n]?=some (I (textAt l i)):=by
   rw[ht,Int.toNat_natCast]
   have h12:∀ n,n < 12→textT[n]?=some (textT.getD n 0):=by decide
   have e:([I 97,I 97,I 97,I 98,I 98,I 99,I 97,I 98,I 10,I 32,I 65,I 200]:List AV)=textT.map I:=rfl
   rw[e,List.getElem?_map,h12 n (by omega)];rfl
  have happ:=fun(K:List MB) (t:Bool)=>app_i (H:=.row 1 ((textN l i).map I) 0::K) (i:=0) (c:=textAt l i) (t:=t) rfl (textN_len l i) (by omega)
  simp +contextual (disch:=omega) only[Try.f17,dd17,go_sem,↓reduceIte,List.reduceReplicate,Nat.reduceAdd,Nat.reduceSub,reduceCtorEq,Nat.reduceLeDiff,Nat.reduceMul,Nat.reduceLT,Nat.reduceEqDiff,Int.reduceBNe,Int.reduceBEq,Int.reduceEq,Int.reduceLT,Int.reduceLE,Int.reduceGT,Int.reduceGE,mu17,Nat.reduceBEq,↓wrap_up,↓wrap_down,↓wrap_pred,↓wrap_sub_nat,Int.reduceToNat,hP,hg,happ]
  rw[textN_snoc]
  exact(by first|rfl|(refine prep_to (n:=1) (m:=⟨some [6,5,1,0],some 1,[]⟩) rfl rfl ?_ ?_ ?_<;>first|rfl|(simp[keepT,AV.underL,AV.under,MB.under,underL_plain,under_plain,underL_append,plain_ints,plain_span,plain_ins,plain_prg,-List.map_take,-List.map_replicate,-List.map_set];done)|(simp[keepT,AV.underL,AV.under,MB.under,underL_plain,under_plain,underL_append,plain_ints,plain_span,plain_ins,plain_prg,-List.map_take,-List.map_replicate,-List.map_set];omega)))
 ·intro _
  have hx:(min l.length most=l.length∨min l.length most=most)∧min l.length most≤l.length:=by omega
  have hlen:=textN_len l (min l.length most)
  unfold textI
  generalize min l.length most=m at *
  by_cases h1:m < l.length
  ·have h2:m=most:=by omega
   subst h2
   simp +contextual (disch:=omega) only[Try.f17,dd17,go_sem,↓reduceIte,evAppend,List.reduceReplicate,Nat.reduceAdd,Nat.reduceSub,reduceCtorEq,Nat.reduceLeDiff,Nat.reduceMul,Nat.reduceLT,Nat.reduceEqDiff,Int.reduceBNe,Int.reduceBEq,Int.reduceEq,Int.reduceLT,Int.reduceLE,Int.reduceGT,Int.reduceGE,mu17,Nat.reduceBEq,↓wrap_up,↓wrap_down,↓wrap_pred,↓wrap_sub_nat,Int.reduceToNat]
   exact⟨_,fz_row (k:=1) rfl (by simpa using hlen) (plain_ints _)⟩
  ·have h2:m=l.length:=by omega
   subst h2
   simp +contextual (disch:=omega) only[Try.f17,dd17,go_sem,↓reduceIte,evAppend,List.reduceReplicate,Nat.reduceAdd,Nat.reduceSub,reduceCtorEq,Nat.reduceLeDiff,Nat.reduceMul,Nat.reduceLT,Nat.reduceEqDiff,Int.reduceBNe,Int.reduceBEq,Int.reduceEq,Int.reduceLT,Int.reduceLE,Int.reduceGT,Int.reduceGE,mu17,Nat.reduceBEq,↓wrap_up,↓wrap_down,↓wrap_pred,↓wrap_sub_nat,Int.reduceToNat]
   exact⟨_,fz_row (k:=1) rfl (by simpa using hlen) (plain_ints _)⟩
 ·exact(by first|rfl|(refine prep_to (n:=1) (m:=⟨some [6,5,1,0],some 1,[]⟩) rfl rfl ?_ ?_ ?_<;>first|rfl|(simp[keepT,AV.underL,AV.under,MB.under,underL_plain,under_plain,underL_append,plain_ints,plain_span,plain_ins,plain_prg,-List.map_take,-List.map_replicate,-List.map_set];done)|(simp[keepT,AV.underL,AV.under,MB.under,underL_plain,under_plain,underL_append,plain_ints,plain_span,plain_ins,plain_prg,-List.map_take,-List.map_replicate,-List.map_set];omega)))
end
section
attribute [local go_sem] W_block evAppend frzB ty23 ty31 ty33 ty42 ty44 ty51 ty72
open Go.Proofs Go.RowKit Go.IntWalk
set_option maxRecDepth 100000
set_option maxHeartbeats 4000000
def T24 (caps:Int) (runes:Bool) (g:AV):List Ins→St
 | []=>(⟨40,[(4,I 0),(3,.rf 2 1 0 0),(2,.rf 1 1 0 0),(1,.rf 0 1 0 0)],[.row 3 [g] 0,.row 3 [.agg [.sl true [],I 0,.bool false]] 0,.row 3 [.agg [.sl true [],I caps,.bool runes]] 0]⟩:St)
 | x::xs=>(⟨40,[(4,I ((xs.length+1:Nat):Int)),(3,.rf 2 1 0 0),(2,.rf 1 1 0 0),(1,.rf 0 1 0 0)],[.row 3 [g] 0,.row 3 [.agg [.sl true [],I 0,.bool false]] 0,.row 3 [.agg [.ms 4 5 (xs.length+1) 0 (xs.length+1),I caps,.bool runes]] 0,.row 5 [insAV x] 0,.row 5 (insAV x::xs.map insAV) 0]⟩:St)
theorem f24 (g:Prg) (hl:g.ins.length≤1000000) (H:List MB):call Try.prog pol1 10 [prgAV g] H=some (prgAV g,H):=by
 refine call_run Try.func10 rfl rfl rfl rfl rfl rfl (fun _=>rfl) (by simp[AV.plain,AV.plainL,plain_ints,plain_span,plain_ins,plain_prg]) (by simp[AV.plain,AV.plainL,plain_ints,plain_span,plain_ins,plain_prg]) ?_ H
 simp +contextual (disch:=omega) only[Try.f10,dd10,go_sem,↓reduceIte,List.reduceReplicate,Nat.reduceAdd,Nat.reduceSub,reduceCtorEq,Nat.reduceLeDiff,Nat.reduceMul,Nat.reduceLT,Nat.reduceEqDiff,Int.reduceBNe,Int.reduceBEq,Int.reduceEq,Int.reduceLT,Int.reduceLE,Int.reduceGT,Int.reduceGE,mu10,Nat.reduceBEq,↓wrap_up,↓wrap_down,↓wrap_pred,↓wrap_sub_nat,Int.reduceToNat]
 refine W_count (M:=(mskOf (pol1.mask 10) (pol1.gc 10) (pol1.acts 10) 0 3)) rfl g.ins.length (fun i=>T24 g.caps g.runes (prgAV g) (g.ins.take i)) (fun i=>True) ?_ ?_ trivial _ (by first|rfl|(refine prep_cut rfl (by rfl) (by rfl) (by rfl) ?_ ?_<;>simp[AV.underL,AV.under,MB.under,underL_plain,under_plain,plain_ints,plain_span,plain_ins,plain_prg,-List.map_take]))
 ·intro i hi _
  obtain⟨p,hp⟩:∃ p,g.ins[i]?=some p:=⟨_,List.getElem?_eq_getElem hi⟩
  have hlen:(g.ins.take i).length=i:=by simp;omega
  rw[List.take_add_one,hp]
  generalize g.ins.take i=xs at *
  cases xs with
  | nil=>
    simp only[List.length_nil]at hlen
    subst hlen
    simp only[T24]
    simp +contextual (disch:=omega) only[Try.f10,dd10,go_sem,↓reduceIte,List.reduceReplicate,Nat.reduceAdd,Nat.reduceSub,reduceCtorEq,Nat.reduceLeDiff,Nat.reduceMul,Nat.reduceLT,Nat.reduceEqDiff,Int.reduceBNe,Int.reduceBEq,Int.reduceEq,Int.reduceLT,Int.reduceLE,Int.reduceGT,Int.reduceGE,mu10,Nat.reduceBEq,↓wrap_up,↓wrap_down,↓wrap_pred,↓wrap_sub_nat,Int.reduceToNat,hp]
    exact⟨by simp[roomFor],(by first|rfl|(refine prep_cut rfl (by rfl) (by rfl) (by rfl) ?_ ?_<;>simp[AV.underL,AV.under,MB.under,underL_plain,under_plain,plain_ints,plain_span,plain_ins,plain_prg,-List.map_take]))⟩
  | cons x xs=>
    simp only[List.length_cons]at hlen
    subst hlen
    simp only[T24]
    simp +contextual (disch:=omega) only[Try.f10,dd10,go_sem,↓reduceIte,List.reduceReplicate,Nat.reduceAdd,Nat.reduceSub,reduceCtorEq,Nat.reduceLeDiff,Nat.reduceMul,Nat.reduceLT,Nat.reduceEqDiff,Int.reduceBNe,Int.reduceBEq,Int.reduceEq,Int.reduceLT,Int.reduceLE,Int.reduceGT,Int.reduceGE,mu10,Nat.reduceBEq,↓wrap_up,↓wrap_down,↓wrap_pred,↓wrap_sub_nat,Int.reduceToNat,hp]
    refine⟨by simp[roomFor];omega,?_⟩
    refine prep_cut (n:=5) rfl (by rfl) rfl ?_ ?_ ?_
    ·simp[List.take_of_length_le]
    ·simp[AV.underL,AV.under]
    ·simp[AV.underL,AV.under,MB.under,underL_plain,under_plain,plain_span,plain_ins,plain_prg,underL_append]
 ·intro _
  rw[List.take_length]
  rcases g with ⟨ins,caps,runes⟩
  cases ins with
  | nil=>
    simp only[T24]
    simp +contextual (disch:=omega) only[Try.f10,dd10,go_sem,↓reduceIte,List.reduceReplicate,Nat.reduceAdd,Nat.reduceSub,reduceCtorEq,Nat.reduceLeDiff,Nat.reduceMul,Nat.reduceLT,Nat.reduceEqDiff,Int.reduceBNe,Int.reduceBEq,Int.reduceEq,Int.reduceLT,Int.reduceLE,Int.reduceGT,Int.reduceGE,mu10,Nat.reduceBEq,↓wrap_up,↓wrap_down,↓wrap_pred,↓wrap_sub_nat,Int.reduceToNat]
    exact⟨_,rfl⟩
  | cons x xs=>
    simp only[T24]
    simp +contextual (disch:=omega) only[Try.f10,dd10,go_sem,↓reduceIte,List.reduceReplicate,Nat.reduceAdd,Nat.reduceSub,reduceCtorEq,Nat.reduceLeDiff,Nat.reduceMul,Nat.reduceLT,Nat.reduceEqDiff,Int.reduceBNe,Int.reduceBEq,Int.reduceEq,Int.reduceLT,Int.reduceLE,Int.reduceGT,Int.reduceGE,mu10,Nat.reduceBEq,↓wrap_up,↓wrap_down,↓wrap_pred,↓wrap_sub_nat,Int.reduceToNat]
    simp only[fz,fzA_agg,fzL]
    rw[fzA_ms (n:=5) (els:=insAV x::xs.map insAV) (k:=5) (z:=0) rfl (by simp) (by simp)
     (by rw[List.drop_zero,List.take_of_length_le (by simp)];exact fzL_plain _ _ _ (plain_ins (x::xs)))]
    exact⟨_,rfl⟩
end
section
attribute [local go_sem] evAppend frzB ty22 ty23 ty31 ty33 ty72 ty74
open Go.Proofs Go.RowKit Go.IntWalk
set_option maxRecDepth 100000
set_option maxHeartbeats 4000000
abbrev insAVt (i:Ins):AV:=.agg [I i.op,I i.x,I i.y,I i.n,.sl true (i.set.map spanAV)]
def T21 (l:List Int) (n caps:Int) (runes:Bool):List Ins→St
 | []=>(⟨119,[(5,I ((0:Nat):Int)),(4,.rf 1 1 0 0),(3,I n),(2,.rf 0 1 0 0),(0,.sl false (l.map I))],[.row 3 [.agg [.sl true [],I 0,.bool false]] 0,.row 3 [.agg [.sl true [],I caps,.bool runes]] 0]⟩:St)
 | x::xs=>(⟨119,[(5,I ((xs.length+1:Nat):Int)),(4,.rf 1 1 0 0),(3,I n),(2,.rf 0 1 0 0),(0,.sl false (l.map I))],[.row 3 [.agg [.sl true [],I 0,.bool false]] 0,.row 3 [.agg [.ms 3 5 (xs.length+1) 0 (xs.length+1),I caps,.bool runes]] 0,.row 5 [insAVt x] 0,.row 5 (insAVt x::xs.map insAVt) 0]⟩:St)
structure SomeOk (g:Prg):Prop where
 len:1≤g.ins.length∧g.ins.length≤12
 caps:0≤g.caps∧g.caps≤2
 ok:∀ i∈g.ins,okIns g.ins.length g.caps g.runes i=true
 last:lastGood g=true
 sets:∀ i∈g.ins,i.set.length≤1
theorem underL_insT (n:Nat) (l:List Ins):AV.underL n (l.map insAVt)=true:=by
 induction l with
 | nil=>rfl
 | cons a l ih=>simp[AV.underL,AV.under,underL_plain,plain_span,ih]
theorem fzT_one (j:List AV→List MB→Option (List AV×List MB)) (i:Ins) (H:List MB):fzA j (insAVt i) H=some (insAV i,H):=by
 simp only[fzA_agg,fzL,fzA_int,fzA_sl,fzL_plain _ _ _ (plain_span i.set)]
theorem fz_allT {id tot:Nat} {ins:List Ins} {caps:Int} {runes:Bool} {H:List MB} (hr:getRow H id=some (5,ins.map insAVt,0)) (hn:tot=ins.length) :
  ∃ H',fz (.agg [.ms id 5 tot 0 tot,I caps,.bool runes]) H=some (prgAV ⟨ins,caps,runes⟩,H'):=by
 subst hn
 simp only[fz,fzA_agg,fzL]
 rw[fzA_ms (n:=5) (k:=5) (ys:=ins.map insAV) hr (by simp) (by simp) (by
  rw[List.drop_zero,List.take_of_length_le (by simp)];exact fzL_map (fun i H=>fzT_one _ i H) _ _)]
 exact⟨_,rfl⟩
theorem lastGood_app (xs:List Ins) (x:Ins) (c:Int) (r:Bool) (h:x.op=0∨x.op=2∨x.op=3):lastGood ⟨xs++[x],c,r⟩=true:=by
 simp[lastGood];omega
theorem ok_zero (n:Nat) (c:Int) (r:Bool):okIns n c r ⟨0,0,0,0,[]⟩=true:=by simp[okIns]
theorem next21 {n:Nat} {caps:Int} {runes:Bool} {xs:List Ins} {x:Ins} (h1:xs.length < n) (h2:∀ i∈xs,okIns n caps runes i=true∧i.set.length≤1) (hx:okIns n caps runes x=true∧x.set.length≤1)
  (hl:xs.length+1=n→x.op=0∨x.op=2∨x.op=3) :
  (xs++[x]).length≤n∧(∀ i∈xs++[x],okIns n caps runes i=true∧i.set.length≤1)∧((xs++[x]).length=n→lastGood ⟨xs++[x],caps,runes⟩=true):=
 ⟨by simp;omega,fun i hi=>by
   rcases List.mem_append.1 hi with h|h
   ·exact h2 i h
   ·rw[List.mem_singleton.1 h];exact hx,fun h=>lastGood_app _ _ _ _ (hl (by simpa using h))⟩
theorem f21 (l:List Int) (hl:∀ x∈l,In64 x):∃ r,(∃ g,SomeOk g∧r=prgAV g)∧∀ H,call Try.prog pol1 16 [.sl false (l.map I)] H=some (r,H):=by
 obtain⟨n,hn1,hn2,hn3⟩:∃ n:Nat,(n:Int)=1+pickI l 0 12∧1≤n∧n≤12:=by
  have:=pick_lt (l:=l) (i:=0) (m:=12) (by omega)
  exact⟨(1+pickI l 0 12).toNat,by omega,by omega,by omega⟩
 have hw:IntKind.i64.wrap (1+pickI l 0 12)=n:=by rw[i64_in]<;>omega
 have hcaps:=pick_lt (l:=l) (i:=1) (m:=3) (by omega)
 refine call_runA Try.func16 rfl rfl rfl rfl rfl rfl (fun _=>rfl) (by simp[AV.plain,AV.plainL,plain_ints,plain_span,plain_ins,plain_prg]) ?_ ?_
 ·rintro _ ⟨g,_,rfl⟩;exact plain_prg g
 have hP:=fun i m h=>f57 l i m hl h
 simp +contextual (disch:=omega) only[Try.f16,dd16,go_sem,↓reduceIte,W_block,List.reduceReplicate,Nat.reduceAdd,Nat.reduceSub,reduceCtorEq,Nat.reduceLeDiff,Nat.reduceMul,Nat.reduceLT,Nat.reduceEqDiff,Int.reduceBNe,Int.reduceBEq,Int.reduceEq,Int.reduceLT,Int.reduceLE,Int.reduceGT,Int.reduceGE,mu16,Nat.reduceBEq,↓wrap_up,↓wrap_down,↓wrap_pred,↓wrap_sub_nat,Int.reduceToNat,hP 0 12 (by omega),hP 1 3 (by omega),hP 2 3 (by omega),hw]
 generalize pickI l 1 3=caps at *
 generalize (pickI l 2 3 == 0)=runes at *
 refine W_for (M:=(mskOf (pol1.mask 16) (pol1.gc 16) (pol1.acts 16) 0 4)) rfl (T21 l n caps runes) (fun xs=>xs.length≤n∧(∀ i∈xs,okIns n caps runes i=true∧i.set.length≤1)∧(xs.length=n→lastGood ⟨xs,caps,runes⟩=true)) (fun xs=>n - xs.length) [] ?_ ⟨by simp,by simp,by simp;omega⟩ _ (by first|rfl|(refine prep_cut rfl (by rfl) (by rfl) (by rfl) ?_ ?_<;>simp[AV.underL,AV.under,MB.under,underL_plain,under_plain,plain_ints,plain_span,plain_ins,plain_prg,-List.map_take]))
 rintro xs ⟨h1,h2,h3⟩
 by_cases hlt:xs.length < n
 ·have hk:=pick_lt (l:=l) (i:=3+xs.length) (m:=1048576) (by omega)
  have hPk:=hP (3+xs.length) 1048576 (by omega)
  generalize pickI l (3+xs.length) 1048576=k at *
  have hm3:∀ z:Int,0 < caps→0≤z % (2 * caps)∧z % (2 * caps) < 2 * caps:=fun z h=>⟨Int.emod_nonneg _ (by omega),Int.emod_lt_of_pos _ (by omega)⟩
  have hmod:∀ z:Int,0≤z % n∧z % n < n:=fun z=>⟨Int.emod_nonneg _ (by omega),Int.emod_lt_of_pos _ (by omega)⟩
  have hm1:=fun z=>(hmod z).1
  have hm2:=fun z=>(hmod z).2
  cases xs with
  | nil=>
    simp only[T21]
    simp only[List.length_nil]at hPk hlt
    simp +contextual (disch:=omega) only[Try.f16,dd16,go_sem,↓reduceIte,List.reduceReplicate,Nat.reduceAdd,Nat.reduceSub,reduceCtorEq,Nat.reduceLeDiff,Nat.reduceMul,Nat.reduceLT,Nat.reduceEqDiff,Int.reduceBNe,Int.reduceBEq,Int.reduceEq,Int.reduceLT,Int.reduceLE,Int.reduceGT,Int.reduceGE,mu16,Nat.reduceBEq,↓wrap_up,↓wrap_down,↓wrap_pred,↓wrap_sub_nat,Int.reduceToNat,W_block (id:=1),hPk]
    refine W_cut (fun s=>∃ x:Ins,x.set.length≤1∧okIns n caps runes x=true∧s=⟨119,[(7,.rf 2 1 0 0),(5,I ((0:Nat):Int)),(4,.rf 1 1 0 0),(3,I n),(2,.rf 0 1 0 0),(0,.sl false (l.map I))],
     [.row 3 [.agg [.sl true [],I 0,.bool false]] 0,.row 3 [.agg [.sl true [],I caps,.bool runes]] 0,.row 5 [insAVt x] 0]⟩) ?_ ?_
    ·simp +contextual (disch:=omega) only[Try.f16,dd16,go_sem,↓reduceIte,W_block,List.reduceReplicate,Nat.reduceAdd,Nat.reduceSub,reduceCtorEq,Nat.reduceLeDiff,Nat.reduceMul,Nat.reduceLT,Nat.reduceEqDiff,Int.reduceBNe,Int.reduceBEq,Int.reduceEq,Int.reduceLT,Int.reduceLE,Int.reduceGT,Int.reduceGE,mu16,Nat.reduceBEq,↓wrap_up,↓wrap_down,↓wrap_pred,↓wrap_sub_nat,Int.reduceToNat,cut_norm]
     repeat' (first|intro _|apply And.intro)
     all_goals first
      | omega
      | (unfold dOk;kernel_rfl)
      | kernel_rfl
      | (refine⟨⟨_,_,_,_,[]⟩,?_,?_,rfl⟩<;>simp[okIns,refSpans,badAt,lastOk,hm1,hm2]<;>done)
      | (refine⟨⟨_,_,_,_,[]⟩,?_,?_,rfl⟩<;>simp[okIns,refSpans,badAt,lastOk,hm1,hm2]<;>omega)
      | (refine⟨⟨_,_,_,_,[]⟩,?_,?_,rfl⟩
         ·simp
         ·have q:=hm3 (k / 8) (by omega)
          simp[okIns,refSpans,badAt,lastOk]
          omega)
      | (refine⟨⟨_,_,_,_,[(97,_)]⟩,?_,?_,rfl⟩
         ·simp
         ·simp[okIns,refSpans,badAt,lastOk]
          (try split)<;>omega)
    ·rintro _ ⟨z,hz1,hz2,rfl⟩
     have hop:=okIns_op hz2
     by_cases h1n:0+1=n
     ·by_cases ha:z.op=1
      ·simp +contextual (disch:=omega) only[Try.f16,dd16,go_sem,↓reduceIte,W_block,List.reduceReplicate,Nat.reduceAdd,Nat.reduceSub,reduceCtorEq,Nat.reduceLeDiff,Nat.reduceMul,Nat.reduceLT,Nat.reduceEqDiff,Int.reduceBNe,Int.reduceBEq,Int.reduceEq,Int.reduceLT,Int.reduceLE,Int.reduceGT,Int.reduceGE,mu16,Nat.reduceBEq,↓wrap_up,↓wrap_down,↓wrap_pred,↓wrap_sub_nat,Int.reduceToNat]
       refine⟨by simp[roomFor],[]++[⟨0,0,0,0,[]⟩],next21 (by simpa using hlt) h2 ⟨ok_zero _ _ _,by simp⟩ (fun h=>by simp only[List.length_nil,List.length_cons]at h;first|exact Or.inl rfl|omega),by simp;omega,?_⟩
       exact(by first|rfl|(refine prep_cut rfl (by rfl) (by rfl) (by rfl) ?_ ?_<;>simp[AV.underL,AV.under,MB.under,underL_plain,under_plain,plain_ints,plain_span,plain_ins,plain_prg,-List.map_take,underL_insT]))
      ·by_cases hb:4≤z.op
       ·simp +contextual (disch:=omega) only[Try.f16,dd16,go_sem,↓reduceIte,W_block,List.reduceReplicate,Nat.reduceAdd,Nat.reduceSub,reduceCtorEq,Nat.reduceLeDiff,Nat.reduceMul,Nat.reduceLT,Nat.reduceEqDiff,Int.reduceBNe,Int.reduceBEq,Int.reduceEq,Int.reduceLT,Int.reduceLE,Int.reduceGT,Int.reduceGE,mu16,Nat.reduceBEq,↓wrap_up,↓wrap_down,↓wrap_pred,↓wrap_sub_nat,Int.reduceToNat]
        refine⟨by simp[roomFor],[]++[⟨0,0,0,0,[]⟩],next21 (by simpa using hlt) h2 ⟨ok_zero _ _ _,by simp⟩ (fun h=>by simp only[List.length_nil,List.length_cons]at h;first|exact Or.inl rfl|omega),by simp;omega,?_⟩
        exact(by first|rfl|(refine prep_cut rfl (by rfl) (by rfl) (by rfl) ?_ ?_<;>simp[AV.underL,AV.under,MB.under,underL_plain,under_plain,plain_ints,plain_span,plain_ins,plain_prg,-List.map_take,underL_insT]))
       ·simp +contextual (disch:=omega) only[Try.f16,dd16,go_sem,↓reduceIte,W_block,List.reduceReplicate,Nat.reduceAdd,Nat.reduceSub,reduceCtorEq,Nat.reduceLeDiff,Nat.reduceMul,Nat.reduceLT,Nat.reduceEqDiff,Int.reduceBNe,Int.reduceBEq,Int.reduceEq,Int.reduceLT,Int.reduceLE,Int.reduceGT,Int.reduceGE,mu16,Nat.reduceBEq,↓wrap_up,↓wrap_down,↓wrap_pred,↓wrap_sub_nat,Int.reduceToNat]
        refine⟨by simp[roomFor],[]++[z],next21 (by simpa using hlt) h2 ⟨hz2,hz1⟩ (fun h=>by simp only[List.length_nil,List.length_cons]at h;first|exact Or.inl rfl|omega),by simp;omega,?_⟩
        exact(by first|rfl|(refine prep_cut rfl (by rfl) (by rfl) (by rfl) ?_ ?_<;>simp[AV.underL,AV.under,MB.under,underL_plain,under_plain,plain_ints,plain_span,plain_ins,plain_prg,-List.map_take,underL_insT]))
     ·simp +contextual (disch:=omega) only[Try.f16,dd16,go_sem,↓reduceIte,W_block,List.reduceReplicate,Nat.reduceAdd,Nat.reduceSub,reduceCtorEq,Nat.reduceLeDiff,Nat.reduceMul,Nat.reduceLT,Nat.reduceEqDiff,Int.reduceBNe,Int.reduceBEq,Int.reduceEq,Int.reduceLT,Int.reduceLE,Int.reduceGT,Int.reduceGE,mu16,Nat.reduceBEq,↓wrap_up,↓wrap_down,↓wrap_pred,↓wrap_sub_nat,Int.reduceToNat]
      refine⟨by simp[roomFor],[]++[z],next21 (by simpa using hlt) h2 ⟨hz2,hz1⟩ (fun h=>by simp only[List.length_nil,List.length_cons]at h;first|exact Or.inl rfl|omega),by simp;omega,?_⟩
      exact(by first|rfl|(refine prep_cut rfl (by rfl) (by rfl) (by rfl) ?_ ?_<;>simp[AV.underL,AV.under,MB.under,underL_plain,under_plain,plain_ints,plain_span,plain_ins,plain_prg,-List.map_take,underL_insT]))
  | cons x xs=>
    simp only[T21]
    simp only[List.length_cons]at hPk hlt
    simp +contextual (disch:=omega) only[Try.f16,dd16,go_sem,↓reduceIte,List.reduceReplicate,Nat.reduceAdd,Nat.reduceSub,reduceCtorEq,Nat.reduceLeDiff,Nat.reduceMul,Nat.reduceLT,Nat.reduceEqDiff,Int.reduceBNe,Int.reduceBEq,Int.reduceEq,Int.reduceLT,Int.reduceLE,Int.reduceGT,Int.reduceGE,mu16,Nat.reduceBEq,↓wrap_up,↓wrap_down,↓wrap_pred,↓wrap_sub_nat,Int.reduceToNat,W_block (id:=1),hPk]
    refine W_cut (fun s=>∃ z:Ins,z.set.length≤1∧okIns n caps runes z=true∧s=⟨119,[(7,.rf 4 1 0 0),(5,I ((xs.length+1:Nat):Int)),(4,.rf 1 1 0 0),(3,I n),(2,.rf 0 1 0 0),(0,.sl false (l.map I))],
     [.row 3 [.agg [.sl true [],I 0,.bool false]] 0,.row 3 [.agg [.ms 3 5 (xs.length+1) 0 (xs.length+1),I caps,.bool runes]] 0,.row 5 [insAVt x] 0,.row 5 (insAVt x::xs.map insAVt) 0,.row 5 [insAVt z] 0]⟩) ?_ ?_
    ·simp +contextual (disch:=omega) only[Try.f16,dd16,go_sem,↓reduceIte,W_block,List.reduceReplicate,Nat.reduceAdd,Nat.reduceSub,reduceCtorEq,Nat.reduceLeDiff,Nat.reduceMul,Nat.reduceLT,Nat.reduceEqDiff,Int.reduceBNe,Int.reduceBEq,Int.reduceEq,Int.reduceLT,Int.reduceLE,Int.reduceGT,Int.reduceGE,mu16,Nat.reduceBEq,↓wrap_up,↓wrap_down,↓wrap_pred,↓wrap_sub_nat,Int.reduceToNat,cut_norm]
     repeat' (first|intro _|apply And.intro)
     all_goals first
      | omega
      | (unfold dOk;kernel_rfl)
      | kernel_rfl
      | (refine⟨⟨_,_,_,_,[]⟩,?_,?_,rfl⟩<;>simp[okIns,refSpans,badAt,lastOk,hm1,hm2]<;>done)
      | (refine⟨⟨_,_,_,_,[]⟩,?_,?_,rfl⟩<;>simp[okIns,refSpans,badAt,lastOk,hm1,hm2]<;>omega)
      | (refine⟨⟨_,_,_,_,[]⟩,?_,?_,rfl⟩
         ·simp
         ·have q:=hm3 (k / 8) (by omega)
          simp[okIns,refSpans,badAt,lastOk]
          omega)
      | (refine⟨⟨_,_,_,_,[(97,_)]⟩,?_,?_,rfl⟩
         ·simp
         ·simp[okIns,refSpans,badAt,lastOk]
          (try split)<;>omega)
    ·rintro _ ⟨z,hz1,hz2,rfl⟩
     have hop:=okIns_op hz2
     by_cases h1n:xs.length+1+1=n
     ·by_cases ha:z.op=1
      ·simp +contextual (disch:=omega) only[Try.f16,dd16,go_sem,↓reduceIte,W_block,List.reduceReplicate,Nat.reduceAdd,Nat.reduceSub,reduceCtorEq,Nat.reduceLeDiff,Nat.reduceMul,Nat.reduceLT,Nat.reduceEqDiff,Int.reduceBNe,Int.reduceBEq,Int.reduceEq,Int.reduceLT,Int.reduceLE,Int.reduceGT,Int.reduceGE,mu16,Nat.reduceBEq,↓wrap_up,↓wrap_down,↓wrap_pred,↓wrap_sub_nat,Int.reduceToNat]
       refine⟨by simp[roomFor];omega,(x::xs)++[⟨0,0,0,0,[]⟩],next21 (by simpa using hlt) h2 ⟨ok_zero _ _ _,by simp⟩ (fun h=>by simp only[List.length_nil,List.length_cons]at h;first|exact Or.inl rfl|omega),by simp;omega,?_⟩
       simp only[List.cons_append,T21,List.length_append,List.length_cons,List.length_nil,Nat.zero_add]
       refine prep_cut (n:=4) rfl (by rfl) rfl ?_ ?_ ?_
       ·simp[List.take_of_length_le]
       ·simp[AV.underL,AV.under,underL_plain,plain_ints]
       ·simp[AV.underL,AV.under,MB.under,underL_plain,plain_span,underL_insT,underL_append]
      ·by_cases hb:4≤z.op
       ·simp +contextual (disch:=omega) only[Try.f16,dd16,go_sem,↓reduceIte,W_block,List.reduceReplicate,Nat.reduceAdd,Nat.reduceSub,reduceCtorEq,Nat.reduceLeDiff,Nat.reduceMul,Nat.reduceLT,Nat.reduceEqDiff,Int.reduceBNe,Int.reduceBEq,Int.reduceEq,Int.reduceLT,Int.reduceLE,Int.reduceGT,Int.reduceGE,mu16,Nat.reduceBEq,↓wrap_up,↓wrap_down,↓wrap_pred,↓wrap_sub_nat,Int.reduceToNat]
        refine⟨by simp[roomFor];omega,(x::xs)++[⟨0,0,0,0,[]⟩],next21 (by simpa using hlt) h2 ⟨ok_zero _ _ _,by simp⟩ (fun h=>by simp only[List.length_nil,List.length_cons]at h;first|exact Or.inl rfl|omega),by simp;omega,?_⟩
        simp only[List.cons_append,T21,List.length_append,List.length_cons,List.length_nil,Nat.zero_add]
        refine prep_cut (n:=4) rfl (by rfl) rfl ?_ ?_ ?_
        ·simp[List.take_of_length_le]
        ·simp[AV.underL,AV.under,underL_plain,plain_ints]
        ·simp[AV.underL,AV.under,MB.under,underL_plain,plain_span,underL_insT,underL_append]
       ·simp +contextual (disch:=omega) only[Try.f16,dd16,go_sem,↓reduceIte,W_block,List.reduceReplicate,Nat.reduceAdd,Nat.reduceSub,reduceCtorEq,Nat.reduceLeDiff,Nat.reduceMul,Nat.reduceLT,Nat.reduceEqDiff,Int.reduceBNe,Int.reduceBEq,Int.reduceEq,Int.reduceLT,Int.reduceLE,Int.reduceGT,Int.reduceGE,mu16,Nat.reduceBEq,↓wrap_up,↓wrap_down,↓wrap_pred,↓wrap_sub_nat,Int.reduceToNat]
        refine⟨by simp[roomFor];omega,(x::xs)++[z],next21 (by simpa using hlt) h2 ⟨hz2,hz1⟩ (fun h=>by simp only[List.length_nil,List.length_cons]at h;first|exact Or.inl rfl|omega),by simp;omega,?_⟩
        simp only[List.cons_append,T21,List.length_append,List.length_cons,List.length_nil,Nat.zero_add]
        refine prep_cut (n:=4) rfl (by rfl) rfl ?_ ?_ ?_
        ·simp[List.take_of_length_le]
        ·simp[AV.underL,AV.under,underL_plain,plain_ints]
        ·simp[AV.underL,AV.under,MB.under,underL_plain,plain_span,underL_insT,underL_append]
     ·simp +contextual (disch:=omega) only[Try.f16,dd16,go_sem,↓reduceIte,W_block,List.reduceReplicate,Nat.reduceAdd,Nat.reduceSub,reduceCtorEq,Nat.reduceLeDiff,Nat.reduceMul,Nat.reduceLT,Nat.reduceEqDiff,Int.reduceBNe,Int.reduceBEq,Int.reduceEq,Int.reduceLT,Int.reduceLE,Int.reduceGT,Int.reduceGE,mu16,Nat.reduceBEq,↓wrap_up,↓wrap_down,↓wrap_pred,↓wrap_sub_nat,Int.reduceToNat]
      refine⟨by simp[roomFor];omega,(x::xs)++[z],next21 (by simpa using hlt) h2 ⟨hz2,hz1⟩ (fun h=>by simp only[List.length_nil,List.length_cons]at h;first|exact Or.inl rfl|omega),by simp;omega,?_⟩
      simp only[List.cons_append,T21,List.length_append,List.length_cons,List.length_nil,Nat.zero_add]
      refine prep_cut (n:=4) rfl (by rfl) rfl ?_ ?_ ?_
      ·simp[List.take_of_length_le]
      ·simp[AV.underL,AV.under,underL_plain,plain_ints]
      ·simp[AV.underL,AV.under,MB.under,underL_plain,plain_span,underL_insT,underL_append]
 ·have hn':xs.length=n:=by omega
  cases xs with
  | nil=>simp at hn';omega
  | cons x xs=>
    simp only[T21]
    simp only[List.length_cons]at hn'
    simp +contextual (disch:=omega) only[Try.f16,dd16,go_sem,↓reduceIte,W_block,List.reduceReplicate,Nat.reduceAdd,Nat.reduceSub,reduceCtorEq,Nat.reduceLeDiff,Nat.reduceMul,Nat.reduceLT,Nat.reduceEqDiff,Int.reduceBNe,Int.reduceBEq,Int.reduceEq,Int.reduceLT,Int.reduceLE,Int.reduceGT,Int.reduceGE,mu16,Nat.reduceBEq,↓wrap_up,↓wrap_down,↓wrap_pred,↓wrap_sub_nat,Int.reduceToNat]
    exact⟨_,⟨⟨x::xs,caps,runes⟩,⟨by simp;omega,by simp only[];omega,fun i hi=>by simp only[List.length_cons,hn'];exact(h2 i hi).1,h3 hn',fun i hi=>(h2 i hi).2⟩,rfl⟩,fz_allT (ins:=x::xs) rfl (by simp)⟩
end
end Go.Ev
namespace Go.Ev
open Go.Proofs Go.RowKit
theorem ext1:ExtOk Try.prog pol1:=by
 intro f g hg args H r H' h
 have hf:(f=29∧g=cloneExt 2 16)∨(f=28∧g=cloneExtO 5 56):=by
  by_cases e:f=29
  ·subst e
   have:pol1.ext 29=some (cloneExt 2 16):=rfl
   rw[this]at hg
   exact .inl ⟨rfl,(Option.some.inj hg).symm⟩
  ·by_cases e2:f=28
   ·subst e2
    have:pol1.ext 28=some (cloneExtO 5 56):=rfl
    rw[this]at hg
    exact .inr ⟨rfl,(Option.some.inj hg).symm⟩
   ·have:pol1.ext f=none:=by
     show (if f=29 then some (cloneExt 2 16) else if f=28 then some (cloneExtO 5 56) else none)=none
     rw[if_neg e,if_neg e2]
    rw[this]at hg
    cases hg
 rcases hf with ⟨rfl,rfl⟩|⟨rfl,rfl⟩
 ·exact clone_sound (T:=23) (B:=4) (e:=74) (k:=2) (by_:=16) (ze:=.agg [.int .i64 0,.int .i64 0])
   Try.func29 rfl rfl rfl rfl (by kernel_rfl) (by kernel_rfl) (by omega) (by kernel_rfl) (by kernel_rfl) rfl rfl h
 ·exact cloneO_sound (T:=42) (B:=4) (e:=51) (k:=5) (by_:=56) (ze:=.agg [.int .i64 0,.int .i64 0,.int .i64 0,.int .i64 0,.sl true []])
   Try.func28 rfl rfl rfl rfl (by kernel_rfl) (by kernel_rfl) (by omega) (by kernel_rfl) (by kernel_rfl) rfl rfl h
theorem follows1:Try.prog.follows .mixedOrders=true:=by kernel_rfl
theorem ok1:CfOk Try.prog (call Try.prog pol1):=call_ok ext1 follows1
end Go.Ev
namespace Go.Ev
attribute [local go_sem] eq_self bindW_some bindW_map bindW_ite bindW_iteN W_seq W_region W_draw W_cond W_condK W_ret W_skip W_exit W_scope W_label blockK_norm blockK_ret blockK_exit WO_nil WO_cons WO_guard WD_nil WD_cons WD_guard guardV guardW_boolT guardW_boolF guardW_tup fpL_some fpL_none footprint footprint0 fineF thenK_norm thenK_ret thenK_exit put_some put_none ev_tmp ev_con ev_func ofK_int ofK_bool ofK_str ofK_nil ofK_agg ofC_int ofC_bool ofC_str ofC_nil ofC_nilp one_int one_bool one_str one_nil one_nilp evOp evBuiltin evCall evLen getElem_16 getElem_4 List.length_cons List.length_nil List.cons_append List.nil_append List.append_nil if_false if_true Bool.false_eq_true Bool.true_eq_false Option.map_some Option.map_none List.map_cons List.map_nil evBinOp evBin evUn asB_bool splitB_decide splitB_true splitB_false splitB_beq splitB_bne splitB_not endK_ret endK_norm List.getElem?_cons_zero List.getElem?_cons_succ evResults evResult packRes retK_norm retK_ret cellsAt mkVal evFieldAddr evField evIndexAddr evPart evStore evBuild evBuildSlice fillC fillE evSlice evMakeSlice evConvert getRow AV.cells List.head?_cons List.drop_zero List.drop_succ_cons List.take_zero List.take_succ_cons List.drop_nil List.take_nil List.all_cons List.all_nil AV.ok Bool.and_self Bool.and_true Bool.true_and and_self and_true true_and Nat.zero_add Nat.add_zero setCells splice pairsOk pairsX altW_none altW_some cfg_al WI_nil WI_cons FP.apart heapEq_refl sameAt_refl Bool.or_true Bool.true_or Bool.or_false srcElems elemsOf mutDst indDst evLenH evMapUpd evLookup getMp keyOk resOk strOf roundK_norm roundK_exit roundK_ret List.length_map List.getElem?_map Int.toNat_natCast decide_true decide_false Bool.not_true Bool.not_false List.set set_0 set_1 set_2 set_3 set_4 look_hit look lookD_hit lookD_cons lookD_nil ins_hit ins upd_hit upd rem1_hit rem1 dropT dropSt_eq initT cfg_dd cfg_bd cfg_ra actL_nil actL_cons act1 updT_hit updT retE_norm retE_ret bndO bnd evEq eqCells not_false_eq_true not_true_eq_false toList_some Array.size_empty List.length_append List.map_append endE_norm endE_ret head_take1 List.contains_nil List.contains_cons Bool.or_self dlt_t dlt_f dle_t dle_f dgt_t dgt_f dge_t dge_f beq_t beq_f bne_t bne_f lt_T le_T nle_T nle_F Go.IntWalk.i64_in Go.IntWalk.i64_quo Go.IntWalk.rem_in ty0 ty3 ty4
section
attribute [local go_sem] W_block evAppend frzB tySzE List.head?_drop Nat.mul_one sameAt_zero sameAt_two sameAt_three sameAt_four sameAt_five room_ok ty22 ty33 ty34 ty39 ty40 ty44 ty52 ty63 ty64
open Go.Proofs Go.RowKit Go.IntWalk
set_option maxRecDepth 100000
set_option maxHeartbeats 4000000
theorem ofK_nilp:ofK (.pointer none)=.nilp:=rfl
theorem f15e (H:List MB):evF Try.prog pol1 40 14 15 [] H=some (.bool true,H):=by kernel_rfl
theorem f15 (H:List MB):call Try.prog pol1 15 [] H=some (.bool true,H):=call_of_evF (n:=40) 14 15 _ _ _ (f15e H)
theorem valid_facts {g:Prg} (h:validG g=0):Leads g.ins∧0 < g.ins.length∧g.ins.length≤8192∧(0≤g.caps∧g.caps≤9)∧∀ i∈g.ins,i.op=4→0≤i.n∧i.n < 2 * g.caps:=by
 unfold validG at h
 split at h
 ·cases h
 rename_i h1
 split at h
 ·cases h
 rename_i h2
 split at h
 ·rename_i h3
  rw[Bool.and_eq_true,List.all_eq_true]at h3
  obtain⟨h3,h4⟩:=h3
  refine⟨fun n i hi=>?_,by omega,by omega,by omega,fun i hi h5=>?_⟩
  ·have hm:=h3 i (List.mem_of_getElem? hi)
   have hlt:=(List.getElem?_eq_some_iff.1 hi).1
   simp only[okIns,Bool.and_eq_true,Bool.or_eq_true,beq_iff_eq,decide_eq_true_eq]at hm
   refine⟨by omega,fun h=>by omega,fun h=>by omega,fun h=>?_⟩
   rcases Nat.lt_or_ge (n+1) g.ins.length with h6|h6
   ·exact h6
   ·exfalso
    obtain rfl:n=g.ins.length - 1:=by omega
    simp only[lastGood,hi,Bool.or_eq_true,beq_iff_eq]at h4
    omega
  ·have hm:=h3 i hi
   simp only[okIns,Bool.and_eq_true,Bool.or_eq_true,beq_iff_eq,decide_eq_true_eq]at hm
   omega
 ·cases h
theorem accept_facts {g:Prg} (h:acceptG g=0):validG g=0∧∀ i∈g.ins,i.op≠5:=by
 unfold acceptG at h
 split at h
 ·rename_i h1;exact absurd h h1
 ·rename_i h1
  split at h
  ·cases h
  ·rename_i h2
   refine⟨by omega,fun i hi h5=>h2 (List.any_eq_true.2 ⟨i,hi,by simp[h5]⟩)⟩
theorem runC_made (ins:List Ins) (size:Nat):∀(xs:List Int) (l:List Nat) (c:CS),(runC ins size xs l c).made≤c.made+xs.length
 | xs,l,c=>by
   by_cases hl:l=[]
   ·subst hl;rw[runC_nil];omega
   ·cases xs with
    | nil=>simp[runC,hl]
    | cons x xs=>
      simp only[runC,if_neg hl]
      have h1:=runC_made ins size xs (nextL ins l x) (c.need size (nextL ins l x))
      have h2:=CS.need_made c size (nextL ins l x)
      simp only[List.length_cons]
      omega
theorem DI.push {ins:List Ins} {first:List Nat} {size n0 D C:Nat} {a:Lay2} {c:CS} {H:List MB} (h:DI ins first size n0 D C a c H) (K:List MB):DI ins first size n0 D C a c (H++K):=by
 have old:∀ {i:Nat} {x:MB},H[i]?=some x→(H++K)[i]?=some x:=fun {i x} hx=>by rw[List.getElem?_append_left (List.getElem?_eq_some_iff.1 hx).1];exact hx
 obtain⟨es,hC,hes,hce⟩:=h.cache
 refine⟨old h.d,h.lo,⟨es,old hC,hes,hce⟩,fun t l f ht=>?_,fun q l hq=>?_,h.small⟩
 ·obtain⟨b,m,c1,c2⟩:=h.st t l f ht
  exact⟨b,m,old c1,c2⟩
 ·obtain⟨es',d1,d2⟩:=h.nx q l hq
  exact⟨es',old d1,d2⟩
structure PW where
 i:Nat
 H:List MB
 a:Lay2
 c:CS
theorem f4 (l m:List Int) (cache:Int) (hl:∀ x∈l,In64 x) (hm:∀ x∈m,In64 x) (hc:In64 cache) (H:List MB):call Try.prog pol1 4 [.sl false (l.map I),.sl false (m.map I),I cache] H=some (.bool true,H):=by
 obtain⟨_,⟨g,hg,rfl⟩,h16⟩:=f21 l hl
 have hb:PrgB g:=⟨by have:=hg.len;omega,fun i hi=>by have:=hg.sets i hi;omega⟩
 have h10:=f24 g hb.1
 have h17:∀ H,call Try.prog pol1 17 [.sl false (m.map I),I 14] H=some (.sl false ((textI m 14).map I),H):=f17t m hm 14 (by omega)
 have hxl:(textI m 14).length≤14:=by rw[textI,textN_len];omega
 generalize textI m 14=xs at *
 have h18:=f12 cache 9 hc (by omega)
 have har:=around_lt (n:=cache) (m:=9) (by omega)
 obtain⟨k,hk⟩:∃ k:Nat,aroundI cache 9=k:=⟨(aroundI cache 9).toNat,by omega⟩
 rw[hk]at h18 har
 have hw:IntKind.i64.wrap (1+(k:Int))=((k+1:Nat):Int):=by rw[i64_in]<;>omega
 have hpl:=plain_ints l
 have hpm:=plain_ints m
 have h15:=f15
 refine call_run Try.func4 rfl rfl rfl rfl rfl rfl (fun _=>rfl) (by simp[AV.plain,AV.plainL,hpl,hpm]) (by simp[AV.plain]) ?_ H
 by_cases hacc:acceptG g=0
 ·obtain⟨hv,h5⟩:=accept_facts hacc
  obtain⟨hw1,hN,hl1,hcap,hsv⟩:=valid_facts hv
  obtain⟨c,hcc⟩:∃ c:Nat,g.caps=c:=⟨g.caps.toNat,by omega⟩
  obtain⟨_,⟨D,C,H1,a1,rfl,di1,low1⟩,h9⟩:=f9n g hb hw1 hN hl1 (k+1) ⟨by omega,by omega⟩ [.row 3 [prgAV g] 0] hacc
  have hH1:H1[0]?=some (.row 3 [prgAV g] 0):=by rw[low1.2 0 (by simp)];rfl
  simp +contextual (disch:=omega) only[Try.f4,dd4,go_sem,↓reduceIte,List.reduceReplicate,Nat.reduceAdd,Nat.reduceSub,reduceCtorEq,Nat.reduceLeDiff,Nat.reduceMul,Nat.reduceLT,Nat.reduceEqDiff,Int.reduceBNe,Int.reduceBEq,Int.reduceEq,Int.reduceLT,Int.reduceLE,Int.reduceGT,Int.reduceGE,mu4,Nat.reduceBEq,↓wrap_up,↓wrap_down,↓wrap_pred,↓wrap_sub_nat,Int.reduceToNat,h16,h10,h17,h18,hw,h9,ofK_nilp,evEq]
  repeat' (first|intro _|apply And.intro|(unfold dOk;kernel_rfl)|exact St.beq_refl _|(show altO _ _ _ _=true;kernel_rfl)|(show (_ || _)=true;kernel_rfl)|(show (_ && _)=true;kernel_rfl))
  refine W_for (σ:=PW) (M:=(mskOf (pol1.mask 4) (pol1.gc 4) (pol1.acts 4) 0 7)) rfl (fun x=>(⟨92,[(11,I x.i),(9,.rf D 1 0 0),(8,.sl false (xs.map I)),(7,.rf 0 1 0 0)],x.H⟩:St)) (fun x=>x.i≤xs.length+1∧DI g.ins (stateL g.ins [0]) (k+1) 1 D C x.a x.c x.H∧x.H[0]?=some (.row 3 [prgAV g] 0)∧x.c.made≤100 * x.i) (fun x=>xs.length+1 - x.i) ⟨0,H1,a1,⟨[],0,0⟩⟩ ?_ ⟨by simp,di1,hH1,by simp⟩ _ ?_
  ·rintro⟨i,H2,a2,c2⟩ ⟨q1,q2,q3,q4⟩
   simp only at q1 q2 q3 q4 ⊢
   by_cases hi:i≤xs.length
   ·obtain⟨r20,⟨s,t,cl,hcl,rfl,ht⟩,h20⟩:=f20 g hb hv hl1 hw1 hN c hcc (by omega) (fun i hi=>⟨fun h=>by have:=hsv i hi h;omega,h5 i hi⟩) xs (by omega) i hi
    obtain⟨hso,hss⟩:=stateL_ok g.ins [0]
    have q5:=q2.push [.row 3 [.agg [I s,I t,.sl false cl]] 1]
    obtain⟨_,⟨H3,a3,rfl,di3,le3,low3⟩,h13⟩:=f13e q5 ⟨by omega,hw1,hb.2⟩ hso hss xs (by omega) i hi (by omega)
    have hmade:=runC_made g.ins (k+1) (xs.drop i) (stateL g.ins [0]) (c2.need (k+1) (stateL g.ins [0]))
    have hmade2:=CS.need_made c2 (k+1) (stateL g.ins [0])
    rw[List.length_drop]at hmade
    have hH3:H3[0]?=some (.row 3 [prgAV g] 0):=by rw[low3.2 0 (by omega),List.getElem?_append_left (List.getElem?_eq_some_iff.1 q3).1,q3]
    have hgl:=fun x:MB=>get_last H2 x
    have hsl:=fun x y:MB=>set_last H2 x y
    have hfz:fz (.rf H2.length 1 0 0) (H2++[.row 3 [.agg [I s,I t,.sl false cl]] 0])=some (.pt [I s,I t,.sl false cl],H2++[.row 3 [.agg [I s,I t,.sl false cl]] 1]):=by
     have hr:getRow (H2++[MB.row 3 [.agg [I s,I t,.sl false cl]] 0]) H2.length=some (3,[.agg [I s,I t,.sl false cl]],0):=by unfold getRow;rw[get_last]
     have:=fz_rf (tot:=1) (i:=0) (j:=0) hr rfl rfl (by simp[AV.cells,AV.plainL,AV.plain,hcl])
     rw[this]
     unfold mark
     rw[hr]
     simp only[set_last]
     rfl
    by_cases he:0≤runL g.ins (xs.drop i) i (stateL g.ins [0]) (-1)
    ·have hd:decide (0≤runL g.ins (xs.drop i) i (stateL g.ins [0]) (-1))=true:=decide_eq_true he
     rw[hd]at h20 h13
     rw[if_pos he]at h13 ht
     subst ht
     simp +contextual (disch:=omega) only[Try.f4,dd4,go_sem,↓reduceIte,List.reduceReplicate,Nat.reduceAdd,Nat.reduceSub,reduceCtorEq,Nat.reduceLeDiff,Nat.reduceMul,Nat.reduceLT,Nat.reduceEqDiff,Int.reduceBNe,Int.reduceBEq,Int.reduceEq,Int.reduceLT,Int.reduceLE,Int.reduceGT,Int.reduceGE,mu4,Nat.reduceBEq,↓wrap_up,↓wrap_down,↓wrap_pred,↓wrap_sub_nat,Int.reduceToNat,q3,h20,hgl,hsl,hfz,h13,evEq,beq_self_eq_true]
     repeat' intro _
     exact⟨⟨i+1,H3,a3,_⟩,⟨by simp only;omega,di3,hH3,by simp only;omega⟩,by simp only;omega,rfl⟩
    ·have hd:decide (0≤runL g.ins (xs.drop i) i (stateL g.ins [0]) (-1))=false:=decide_eq_false he
     rw[hd]at h20 h13
     rw[if_neg he]at h13 ht
     subst ht
     simp +contextual (disch:=omega) only[Try.f4,dd4,go_sem,↓reduceIte,List.reduceReplicate,Nat.reduceAdd,Nat.reduceSub,reduceCtorEq,Nat.reduceLeDiff,Nat.reduceMul,Nat.reduceLT,Nat.reduceEqDiff,Int.reduceBNe,Int.reduceBEq,Int.reduceEq,Int.reduceLT,Int.reduceLE,Int.reduceGT,Int.reduceGE,mu4,Nat.reduceBEq,↓wrap_up,↓wrap_down,↓wrap_pred,↓wrap_sub_nat,Int.reduceToNat,q3,h20,hgl,hsl,hfz,h13,evEq,beq_self_eq_true]
     repeat' intro _
     exact⟨⟨i+1,H3,a3,_⟩,⟨by simp only;omega,di3,hH3,by simp only;omega⟩,by simp only;omega,rfl⟩
   ·simp +contextual (disch:=omega) only[Try.f4,dd4,go_sem,↓reduceIte,List.reduceReplicate,Nat.reduceAdd,Nat.reduceSub,reduceCtorEq,Nat.reduceLeDiff,Nat.reduceMul,Nat.reduceLT,Nat.reduceEqDiff,Int.reduceBNe,Int.reduceBEq,Int.reduceEq,Int.reduceLT,Int.reduceLE,Int.reduceGT,Int.reduceGE,mu4,Nat.reduceBEq,↓wrap_up,↓wrap_down,↓wrap_pred,↓wrap_sub_nat,Int.reduceToNat,h15]
    exact fzEq rfl rfl
  ·rfl
 ·obtain⟨H1,h9,low⟩:=f9_bad g hb ((k+1:Nat):Int) [.row 3 [prgAV g] 0] hacc
  have hH1:H1[0]?=some (.row 3 [prgAV g] 0):=by rw[low.2 0 (by simp)];rfl
  have h19:=f30 g hb
  have hcase:acceptG g=10∨acceptG g=validG g:=by
   unfold acceptG
   split
   ·exact .inr rfl
   ·split
    ·exact .inl rfl
    ·rename_i h1 h2
     exact absurd (by unfold acceptG;rw[if_neg h1,if_neg h2]) hacc
  generalize acceptG g=e at *
  by_cases h10e:e=10
  ·subst h10e
   simp +contextual (disch:=omega) only[Try.f4,dd4,go_sem,↓reduceIte,List.reduceReplicate,Nat.reduceAdd,Nat.reduceSub,reduceCtorEq,Nat.reduceLeDiff,Nat.reduceMul,Nat.reduceLT,Nat.reduceEqDiff,Int.reduceBNe,Int.reduceBEq,Int.reduceEq,Int.reduceLT,Int.reduceLE,Int.reduceGT,Int.reduceGE,mu4,Nat.reduceBEq,↓wrap_up,↓wrap_down,↓wrap_pred,↓wrap_sub_nat,Int.reduceToNat,h16,h10,h17,h18,hw,h9,hH1,h19,h15,evEq,ofK_nilp]
   repeat' (first|intro _|apply And.intro|(unfold dOk;kernel_rfl)|exact St.beq_refl _|(show altO _ _ _ _=true;kernel_rfl)|(show (_ || _)=true;kernel_rfl)|(show (_ && _)=true;kernel_rfl))
   all_goals exact fzEq rfl rfl
  ·have hve:e=validG g:=by omega
   rw[← hve]at h19
   simp +contextual (disch:=omega) only[Try.f4,dd4,go_sem,↓reduceIte,List.reduceReplicate,Nat.reduceAdd,Nat.reduceSub,reduceCtorEq,Nat.reduceLeDiff,Nat.reduceMul,Nat.reduceLT,Nat.reduceEqDiff,Int.reduceBNe,Int.reduceBEq,Int.reduceEq,Int.reduceLT,Int.reduceLE,Int.reduceGT,Int.reduceGE,mu4,Nat.reduceBEq,↓wrap_up,↓wrap_down,↓wrap_pred,↓wrap_sub_nat,Int.reduceToNat,h16,h10,h17,h18,hw,h9,hH1,h19,h15,evEq,ofK_nilp]
   repeat' (first|intro _|apply And.intro|(unfold dOk;kernel_rfl)|exact St.beq_refl _|(show altO _ _ _ _=true;kernel_rfl)|(show (_ || _)=true;kernel_rfl)|(show (_ && _)=true;kernel_rfl))
   all_goals exact fzEq rfl rfl
end
end Go.Ev
