/- Functions of the program, each with what it computes; no further conditions. -/
import Derived.Test.YtpbobopcmhpbbaaE05
import Derived.Test.YtpbobopcmhpbbaaE09
import Derived.Test.YtpbobopcmhpbbaaE17
import Derived.Test.YtpbobopcmhpbbaaE10
import Derived.Test.YtpbobopcmhpbbaaE13
import Derived.Test.YtpbobopcmhpbbaaE15
import Derived.Test.YtpbobopcmhpbbaaE14
import Derived.Test.YtpbobopcmhpbbaaE16
set_option linter.unusedVariables false
set_option linter.unusedSimpArgs false
namespace Go.Ev
open Go.Proofs Go.RowKit
theorem ext1:ExtOk Try.prog pol1:=by
 intro f g hg args H r H' h
 have hf:(f=92∧g=cloneExt 2 16)∨(f=49∧g=ext49)∨(f=74∧g=ext74):=by
  by_cases e:f=92
  ·subst e
   have:pol1.ext 92=some (cloneExt 2 16):=rfl
   rw[this]at hg
   exact .inl ⟨rfl,(Option.some.inj hg).symm⟩
  ·by_cases e2:f=49
   ·subst e2
    have:pol1.ext 49=some ext49:=rfl
    rw[this]at hg
    exact .inr (.inl ⟨rfl,(Option.some.inj hg).symm⟩)
   ·by_cases e3:f=74
    ·subst e3
     have:pol1.ext 74=some ext74:=rfl
     rw[this]at hg
     exact .inr (.inr ⟨rfl,(Option.some.inj hg).symm⟩)
    ·have:pol1.ext f=none:=by
      show (if f=92 then some (cloneExt 2 16) else if f=49 then some ext49 else if f=74 then some ext74 else none)=none
      rw[if_neg e,if_neg e2,if_neg e3]
     rw[this]at hg
     cases hg
 rcases hf with ⟨rfl,rfl⟩|⟨rfl,rfl⟩|⟨rfl,rfl⟩
 ·exact clone_sound (T:=23) (B:=4) (e:=86) (k:=2) (by_:=16) (ze:=.agg [.int .i64 0,.int .i64 0])
   Try.func92 rfl rfl rfl rfl (by kernel_rfl) (by kernel_rfl) (by omega) (by kernel_rfl) (by kernel_rfl) rfl rfl h
 ·exact ext49_sound h
 ·exact ext74_sound h
theorem follows1:Try.prog.follows .mixedOrders=true:=by kernel_rfl
theorem ok1:CfOk Try.prog (call Try.prog pol1):=call_ok ext1 follows1
end Go.Ev
namespace Go.Ev
attribute [local go_sem] eq_self bindW_some bindW_map bindW_ite bindW_iteN W_seq W_region W_draw W_cond W_condK W_ret W_skip W_exit W_scope W_label W_block blockK_norm blockK_ret blockK_exit WO_nil WO_cons WO_guard WD_nil WD_cons WD_guard guardV guardW_boolT guardW_boolF guardW_tup fpL_some fpL_none footprint thenK_norm thenK_ret thenK_exit put_some put_none ev_tmp ev_con ev_func ofK_int ofK_bool ofK_str ofK_nil evOp evBuiltin evCall evLen getElem_16 getElem_4 List.length_cons List.length_nil List.cons_append List.nil_append List.append_nil if_false if_true Bool.false_eq_true Bool.true_eq_false Option.map_some Option.map_none List.map_cons List.map_nil evBinOp evBin evUn asB_bool splitB_decide splitB_true splitB_false splitB_beq splitB_bne splitB_not endK_ret endK_norm List.getElem?_cons_zero List.getElem?_cons_succ evResults evResult packRes retK_norm retK_ret cellsAt mkVal evFieldAddr evField evIndexAddr evPart evStore evBuild evBuildSlice fillC fillE evSlice evMakeSlice evConvert getRow AV.cells List.head?_cons List.drop_zero List.drop_succ_cons List.take_zero List.take_succ_cons List.drop_nil List.take_nil List.all_cons List.all_nil AV.ok Bool.and_self Bool.and_true Bool.true_and and_self and_true true_and Nat.zero_add Nat.add_zero setCells splice pairsOk pairsX altW_none altW_some cfg_al WI_nil WI_cons FP.apart heapEq_refl sameAt_refl Bool.or_true Bool.true_or Bool.or_false srcElems elemsOf mutDst indDst roundK_norm roundK_exit roundK_ret List.length_map List.getElem?_map Int.toNat_natCast decide_true decide_false Bool.not_true Bool.not_false List.set set_0 set_1 set_2 set_3 set_4 look_hit look lookD_hit lookD_cons lookD_nil ins_hit ins upd_hit upd rem1_hit rem1 dropT dropSt_eq initT cfg_dd cfg_bd cfg_ra actL_nil actL_cons act1 updT_hit updT frzB retE_norm retE_ret bndO bnd evEq eqCells not_false_eq_true not_true_eq_false toList_some Array.size_empty List.length_append List.map_append tySzE List.head?_drop Nat.mul_one sameAt_zero sameAt_two sameAt_three sameAt_four sameAt_five endE_norm endE_ret head_take1 List.contains_nil List.contains_cons Bool.or_self dlt_t dlt_f dle_t dle_f dgt_t dgt_f dge_t dge_f beq_t beq_f bne_t bne_f lt_T le_T nle_T nle_F Go.IntWalk.i64_in Go.IntWalk.i64_quo Go.IntWalk.rem_in room_ok ty0 ty3 ty4
section
attribute [local go_sem] evAppend ty22 ty24 ty26 ty100
open Go.Proofs Go.RowKit Go.IntWalk
set_option maxRecDepth 100000
set_option linter.unusedSimpArgs false
set_option linter.unusedVariables false
set_option maxHeartbeats 8000000
theorem en49 (vs:Array Value) (w:World):(callFunc 49 vs).run Try.prog w=.ok (.enter 49 vs) w:=callFunc_enter Try.func49 rfl rfl vs w
abbrev Law49 (ins:List Int) (s:Value) (re:Re):Prop:=
 ∀ I w vs,Val I w→SliceOk I w s ins→RepL I [] [.pt (reC re),pinOf s] vs→Calls Try.prog 49 vs w (fun e w'=>e=.returned (.bool (compG ins re))∧Fr (spOf s) w w')
theorem f49a (caps top:Int):∀(N:Nat) (re:Re) (ins:List Int),re.wt≤N→re.wt≤1000000→ins.length+re.wt≤2000000→wholeG caps top re=true→∀ s,Law49 ins s re
 | 0,r,_,h,_,_,_,_=>by have:=r.wt_pos;omega
 | N+1,.mk op set kids mn mx md n neg,ins,h,hN,hI,hw,s=>by
   intro I w vs hv hs hr
   have hkl:=Re.wtL_len kids
   have hwt:1+set.length+Re.wtL kids=(Re.mk op set kids mn mx md n neg).wt:=by simp[Re.wt]
   obtain⟨hwk,hkd,hrp,_,ho1,ho2⟩:=whole_facts hw
   have ih:=fun k (hk:k∈kids) (ins':List Int) (hi:ins'.length≤ins.length+1)=>f49a caps top N k ins' (by have:=Re.wtL_mem hk;omega) (by have:=Re.wtL_mem hk;omega) (by have:=Re.wtL_mem hk;omega) (hwk k hk)
   have h105:=fun k (hk:k∈kids)=>f105 k (by have:=Re.wtL_mem hk;omega) caps top (hwk k hk)
   have h106:=f106 ins n (by omega)
   refine calls_of_wp Try.func49 rfl ?_
   rw[show reC (.mk op set kids mn mx md n neg)=nodeL op set kids mn mx md n neg from reC_mk]at hr
   have h0:HSt I w (spOf s) 65 [(1,pinOf s),(0,.pt (nodeL op set kids mn mx md n neg))] _ w:=HSt.init (m:=65) hv hs.has hr
   have hsp:∀ k o,spOf s=some (k,o)→k < w.heap.size:=fun k o e=>by
    obtain⟨cs,T,e⟩:=hs.has k o e
    exact(Array.getElem?_eq_some_iff.1 e).1
   have hpin:=(hs.pin (J:=I) (L:=[])).2.1
   have hret:∀ a' w',Fr (spOf s) w w'→a'.defers=[]→a'.tmps.getD 4 undef=.bool (compG ins (.mk op set kids mn mx md n neg))→bodyPost Try.prog Try.f49 (fun e w'=>e=.returned (.bool (compG ins (.mk op set kids mn mx md n neg)))∧Fr (spOf s) w w') .ret a' w':=by
    intro a' w' g1 g2 g3
    exact⟨g2,_,by rw[results_one (d:=4) rfl,g3],rfl,g1⟩
   generalize bodyPost Try.prog Try.f49 (fun e w'=>e=.returned (.bool (compG ins (.mk op set kids mn mx md n neg)))∧Fr (spOf s) w w')=Q at hret ⊢
   have hu1:AV.underL 0 (set.map spanAV)=true:=underL_plain 0 _ (plain_span set)
   have hu2:AV.underL 0 (kids.map reAV)=true:=underL_plain 0 _ (plain_kids kids)
   refine wp_seq_k fun K hK=>?_
   refine h0.W ok1 itL_ok follows1 hsp (mu:=pol1.muts 49) (m:=cfgOf pol1 49 0) ?_
   simp +contextual (disch:=omega) only[Try.f49,dd49,go_sem,↓reduceIte,List.reduceReplicate,Nat.reduceAdd,Nat.reduceSub,reduceCtorEq,Nat.reduceLeDiff,Nat.reduceMul,Nat.reduceLT,Nat.reduceEqDiff,Int.reduceBNe,Int.reduceBEq,Int.reduceEq,Int.reduceLT,Int.reduceLE,Int.reduceGT,Int.reduceGE,mu49,Nat.reduceBEq,↓wrap_up,↓wrap_down,↓wrap_pred,↓wrap_sub_nat,Int.reduceToNat,AV.underL,AV.under,hpin,hu1,hu2,exOf]
   refine fun a1 w1 h1=>hK _ _ ?_
   clear hK K
   refine wp_seq_k fun K hK=>?_
   have hrest:∀ I1 w1 s1 ins1 a2 w2 t,SliceOk I1 w1 s1 ins1→Fr (spOf s) w w1→SpLe w.heap.size (spOf s) (spOf s1)→HSt I1 w1 (spOf s1) 65 t a2 w2→List.Sublist [(1,pinOf s1),(0,.pt (nodeL op set kids mn mx md n neg))] t →
    ins1.length≤ins.length+1→compG ins (.mk op set kids mn mx md n neg)=compL ins1 kids→K a2 w2:=by
    intro I1 w1 s1 ins1 a2 w2 t hs1 hfr hle h2 hsub hlen hcomp
    refine hK a2 w2 ?_
    replace h2:=h2.sub hsub
    clear hK hsub
    have hsp1:∀ k o,spOf s1=some (k,o)→k < w1.heap.size:=fun k o e=>by
     obtain⟨cs,T,e⟩:=hs1.has k o e
     exact(Array.getElem?_eq_some_iff.1 e).1
    have hpin1:=(hs1.pin (J:=I) (L:=[])).2.1
    refine wp_seq_k fun K hK=>?_
    refine wp_seq_k fun K2 hK2=>?_
    refine h2.W ok1 itL_ok follows1 hsp1 (mu:=pol1.muts 49) (m:=cfgOf pol1 49 0) ?_
    simp +contextual (disch:=omega) only[Try.f49,dd49,go_sem,↓reduceIte,List.reduceReplicate,Nat.reduceAdd,Nat.reduceSub,reduceCtorEq,Nat.reduceLeDiff,Nat.reduceMul,Nat.reduceLT,Nat.reduceEqDiff,Int.reduceBNe,Int.reduceBEq,Int.reduceEq,Int.reduceLT,Int.reduceLE,Int.reduceGT,Int.reduceGE,mu49,Nat.reduceBEq,↓wrap_up,↓wrap_down,↓wrap_pred,↓wrap_sub_nat,Int.reduceToNat,AV.underL,AV.under,hpin1,hu1,hu2,exOf]
    refine fun a3 w3 h3=>hK2 _ _ ?_
    clear hK2 K2
    refine wp_block ?_
    refine wp_loop_count (fun i a w=>(∀ j k,j < i→kids[j]?=some k→compG ins1 k=true)∧HSt I1 w1 (spOf s1) 65 [(52,Go.Ev.I i),(51,Go.Ev.I kids.length),(1,pinOf s1),(0,.pt (nodeL op set kids mn mx md n neg))] a w) kids.length ?_ ?_ ⟨fun j k h=>by omega,h3⟩
    ·rintro i a4 w4 hi ⟨hall,h4⟩
     obtain⟨k,hk⟩:∃ k,kids[i]?=some k:=⟨_,List.getElem?_eq_getElem hi⟩
     have hkm:=List.mem_of_getElem? hk
     refine wp_seq_k fun K3 hK3=>?_
     refine h4.W ok1 itL_ok follows1 hsp1 (mu:=pol1.muts 49) (m:=cfgOf pol1 49 0) ?_
     simp +contextual (disch:=omega) only[Try.f49,dd49,go_sem,↓reduceIte,List.reduceReplicate,Nat.reduceAdd,Nat.reduceSub,reduceCtorEq,Nat.reduceLeDiff,Nat.reduceMul,Nat.reduceLT,Nat.reduceEqDiff,Int.reduceBNe,Int.reduceBEq,Int.reduceEq,Int.reduceLT,Int.reduceLE,Int.reduceGT,Int.reduceGE,mu49,Nat.reduceBEq,↓wrap_up,↓wrap_down,↓wrap_pred,↓wrap_sub_nat,Int.reduceToNat,AV.underL,AV.under,hpin1,hu1,hu2,exOf]
     refine fun a5 w5 h5=>hK3 _ _ ?_
     clear hK3 K3
     refine wp_seq_k fun K3 hK3=>?_
     refine h5.W ok1 itL_ok follows1 hsp1 (mu:=pol1.muts 49) (m:=cfgOf pol1 49 0) ?_
     simp +contextual (disch:=omega) only[Try.f49,dd49,go_sem,↓reduceIte,List.reduceReplicate,Nat.reduceAdd,Nat.reduceSub,reduceCtorEq,Nat.reduceLeDiff,Nat.reduceMul,Nat.reduceLT,Nat.reduceEqDiff,Int.reduceBNe,Int.reduceBEq,Int.reduceEq,Int.reduceLT,Int.reduceLE,Int.reduceGT,Int.reduceGE,mu49,Nat.reduceBEq,↓wrap_up,↓wrap_down,↓wrap_pred,↓wrap_sub_nat,Int.reduceToNat,AV.underL,AV.under,hpin1,hu1,hu2,exOf]
     refine fun a6 w6 h6=>hK3 _ _ ?_
     clear hK3 K3
     refine wp_seq_k fun K3 hK3=>?_
     refine wp_block ?_
     refine wp_seq_k fun K4 hK4=>?_
     refine h6.W ok1 itL_ok follows1 hsp1 (mu:=pol1.muts 49) (m:=cfgOf pol1 49 0) ?_
     simp +contextual (disch:=omega) only[Try.f49,dd49,go_sem,↓reduceIte,List.reduceReplicate,Nat.reduceAdd,Nat.reduceSub,reduceCtorEq,Nat.reduceLeDiff,Nat.reduceMul,Nat.reduceLT,Nat.reduceEqDiff,Int.reduceBNe,Int.reduceBEq,Int.reduceEq,Int.reduceLT,Int.reduceLE,Int.reduceGT,Int.reduceGE,mu49,Nat.reduceBEq,↓wrap_up,↓wrap_down,↓wrap_pred,↓wrap_sub_nat,Int.reduceToNat,AV.underL,AV.under,hpin1,hu1,hu2,exOf]
     refine fun a7 w7 h7=>hK4 _ _ ?_
     clear hK4 K4
     refine wp_seq_k fun K4 hK4=>?_
     refine wp_region_list ?_
     refine h7.ops ok1 hsp1 (mu:=pol1.muts 49) 7 ?_
     have hl8:=reC_len k
     simp +contextual (disch:=omega) only[Try.f49,dd49,go_sem,↓reduceIte,List.reduceReplicate,Nat.reduceAdd,Nat.reduceSub,reduceCtorEq,Nat.reduceLeDiff,Nat.reduceMul,Nat.reduceLT,Nat.reduceEqDiff,Int.reduceBNe,Int.reduceBEq,Int.reduceEq,Int.reduceLT,Int.reduceLE,Int.reduceGT,Int.reduceGE,mu49,Nat.reduceBEq,↓wrap_up,↓wrap_down,↓wrap_pred,↓wrap_sub_nat,Int.reduceToNat,AV.underL,AV.under,hpin1,hu1,hu2,exOf,hk,hl8]
     have huk:AV.underL 0 (reC k)=true:=underL_plain 0 _ (plain_reC k)
     refine⟨huk,fun a8 w8 h8=>?_⟩
     refine h8.callB hs1 en49 (l:=[.pt (reC k),pinOf s1]) rfl (ih k hkm ins1 hlen s1) (fun a9 w9 h9=>?_)
     cases hck:compG ins1 k with
     | true=>
       rw[hck]at h9
       refine h9.ops ok1 hsp1 (mu:=pol1.muts 49) 1 ?_
       simp +contextual (disch:=omega) only[Try.f49,dd49,go_sem,↓reduceIte,List.reduceReplicate,Nat.reduceAdd,Nat.reduceSub,reduceCtorEq,Nat.reduceLeDiff,Nat.reduceMul,Nat.reduceLT,Nat.reduceEqDiff,Int.reduceBNe,Int.reduceBEq,Int.reduceEq,Int.reduceLT,Int.reduceLE,Int.reduceGT,Int.reduceGE,mu49,Nat.reduceBEq,↓wrap_up,↓wrap_down,↓wrap_pred,↓wrap_sub_nat,Int.reduceToNat,AV.underL,AV.under,hpin1,hu1,hu2,huk,exOf,hk,hl8]
       refine fun a10 w10 h10=>hK4 _ _ ?_
       clear hK4 K4
       refine h10.W ok1 itL_ok follows1 hsp1 (mu:=pol1.muts 49) (m:=cfgOf pol1 49 0) ?_
       simp +contextual (disch:=omega) only[Try.f49,dd49,go_sem,↓reduceIte,List.reduceReplicate,Nat.reduceAdd,Nat.reduceSub,reduceCtorEq,Nat.reduceLeDiff,Nat.reduceMul,Nat.reduceLT,Nat.reduceEqDiff,Int.reduceBNe,Int.reduceBEq,Int.reduceEq,Int.reduceLT,Int.reduceLE,Int.reduceGT,Int.reduceGE,mu49,Nat.reduceBEq,↓wrap_up,↓wrap_down,↓wrap_pred,↓wrap_sub_nat,Int.reduceToNat,AV.underL,AV.under,hpin1,hu1,hu2,huk,exOf]
       refine fun a11 w11 h11=>hK3 _ _ ?_
       clear hK3 K3
       refine h11.W ok1 itL_ok follows1 hsp1 (mu:=pol1.muts 49) (m:=cfgOf pol1 49 0) ?_
       have hJ:∀(j:Nat) (k:Re),j < i+1→kids[j]?=some k→compG ins1 k=true:=fun j k2 h1 h2=>by
        rcases Nat.lt_or_ge j i with h|h
        ·exact hall j k2 h h2
        ·obtain rfl:j=i:=by omega
         rw[hk]at h2;obtain rfl:=Option.some.inj h2
         exact hck
       generalize hJd:(∀(j:Nat) (k:Re),j < i+1→kids[j]?=some k→compG ins1 k=true)=J at hJ ⊢
       simp +contextual (disch:=omega) only[Try.f49,dd49,go_sem,↓reduceIte,List.reduceReplicate,Nat.reduceAdd,Nat.reduceSub,reduceCtorEq,Nat.reduceLeDiff,Nat.reduceMul,Nat.reduceLT,Nat.reduceEqDiff,Int.reduceBNe,Int.reduceBEq,Int.reduceEq,Int.reduceLT,Int.reduceLE,Int.reduceGT,Int.reduceGE,mu49,Nat.reduceBEq,↓wrap_up,↓wrap_down,↓wrap_pred,↓wrap_sub_nat,Int.reduceToNat,AV.underL,AV.under,hpin1,hu1,hu2,huk,exOf]
       exact fun a12 w12 h12=>⟨hJ,h12.sub (by iterate 9 refine .cons _ ?_
                                              exact .cons_cons _ (.cons_cons _ (.cons _ (.refl _))))⟩
     | false=>
       rw[hck]at h9
       refine h9.ops ok1 hsp1 (mu:=pol1.muts 49) 1 ?_
       simp +contextual (disch:=omega) only[Try.f49,dd49,go_sem,↓reduceIte,List.reduceReplicate,Nat.reduceAdd,Nat.reduceSub,reduceCtorEq,Nat.reduceLeDiff,Nat.reduceMul,Nat.reduceLT,Nat.reduceEqDiff,Int.reduceBNe,Int.reduceBEq,Int.reduceEq,Int.reduceLT,Int.reduceLE,Int.reduceGT,Int.reduceGE,mu49,Nat.reduceBEq,↓wrap_up,↓wrap_down,↓wrap_pred,↓wrap_sub_nat,Int.reduceToNat,AV.underL,AV.under,hpin1,hu1,hu2,huk,exOf,hk,hl8]
       refine fun a10 w10 h10=>hK4 _ _ ?_
       clear hK4 K4
       refine h10.W ok1 itL_ok follows1 hsp1 (mu:=pol1.muts 49) (m:=cfgOf pol1 49 0) ?_
       simp +contextual (disch:=omega) only[Try.f49,dd49,go_sem,↓reduceIte,List.reduceReplicate,Nat.reduceAdd,Nat.reduceSub,reduceCtorEq,Nat.reduceLeDiff,Nat.reduceMul,Nat.reduceLT,Nat.reduceEqDiff,Int.reduceBNe,Int.reduceBEq,Int.reduceEq,Int.reduceLT,Int.reduceLE,Int.reduceGT,Int.reduceGE,mu49,Nat.reduceBEq,↓wrap_up,↓wrap_down,↓wrap_pred,↓wrap_sub_nat,Int.reduceToNat,AV.underL,AV.under,hpin1,hu1,hu2,huk,exOf]
       refine fun a11 w11 h11=>?_
       obtain⟨g1,g2,g3⟩:=h11.done (d:=4) rfl
       exact hret a11 w11 (hfr.thenS g1 hle) g2 (by rw[g3,hcomp,compL_false hkm hck])
    ·rintro a4 w4 ⟨hall,h4⟩
     refine wp_seq_k fun K3 hK3=>?_
     refine h4.W ok1 itL_ok follows1 hsp1 (mu:=pol1.muts 49) (m:=cfgOf pol1 49 0) ?_
     simp +contextual (disch:=omega) only[Try.f49,dd49,go_sem,↓reduceIte,List.reduceReplicate,Nat.reduceAdd,Nat.reduceSub,reduceCtorEq,Nat.reduceLeDiff,Nat.reduceMul,Nat.reduceLT,Nat.reduceEqDiff,Int.reduceBNe,Int.reduceBEq,Int.reduceEq,Int.reduceLT,Int.reduceLE,Int.reduceGT,Int.reduceGE,mu49,Nat.reduceBEq,↓wrap_up,↓wrap_down,↓wrap_pred,↓wrap_sub_nat,Int.reduceToNat,AV.underL,AV.under,hpin1,hu1,hu2,exOf]
     refine fun a5 w5 h5=>hK3 _ _ ?_
     clear hK3 K3
     refine wp_seq_k fun K3 hK3=>?_
     refine h5.W ok1 itL_ok follows1 hsp1 (mu:=pol1.muts 49) (m:=cfgOf pol1 49 0) ?_
     simp +contextual (disch:=omega) only[Try.f49,dd49,go_sem,↓reduceIte,List.reduceReplicate,Nat.reduceAdd,Nat.reduceSub,reduceCtorEq,Nat.reduceLeDiff,Nat.reduceMul,Nat.reduceLT,Nat.reduceEqDiff,Int.reduceBNe,Int.reduceBEq,Int.reduceEq,Int.reduceLT,Int.reduceLE,Int.reduceGT,Int.reduceGE,mu49,Nat.reduceBEq,↓wrap_up,↓wrap_down,↓wrap_pred,↓wrap_sub_nat,Int.reduceToNat,AV.underL,AV.under,hpin1,hu1,hu2,exOf]
     refine fun a6 w6 h6=>hK _ _ ?_
     clear hK3 K3 hK
     refine h6.W ok1 itL_ok follows1 hsp1 (mu:=pol1.muts 49) (m:=cfgOf pol1 49 0) ?_
     simp +contextual (disch:=omega) only[Try.f49,dd49,go_sem,↓reduceIte,List.reduceReplicate,Nat.reduceAdd,Nat.reduceSub,reduceCtorEq,Nat.reduceLeDiff,Nat.reduceMul,Nat.reduceLT,Nat.reduceEqDiff,Int.reduceBNe,Int.reduceBEq,Int.reduceEq,Int.reduceLT,Int.reduceLE,Int.reduceGT,Int.reduceGE,mu49,Nat.reduceBEq,↓wrap_up,↓wrap_down,↓wrap_pred,↓wrap_sub_nat,Int.reduceToNat,AV.underL,AV.under,hpin1,hu1,hu2,exOf]
     refine fun a7 w7 h7=>?_
     obtain⟨g1,g2,g3⟩:=h7.done (d:=4) rfl
     exact hret a7 w7 (hfr.thenS g1 hle) g2 (by rw[g3,hcomp,compL_true (fun i k h1 h2=>hall i k h1 h2)])
   clear hK
   refine wp_seq_k fun K2 hK2=>?_
   refine h1.W ok1 itL_ok follows1 hsp (mu:=pol1.muts 49) (m:=cfgOf pol1 49 0) ?_
   simp +contextual (disch:=omega) only[Try.f49,dd49,go_sem,↓reduceIte,List.reduceReplicate,Nat.reduceAdd,Nat.reduceSub,reduceCtorEq,Nat.reduceLeDiff,Nat.reduceMul,Nat.reduceLT,Nat.reduceEqDiff,Int.reduceBNe,Int.reduceBEq,Int.reduceEq,Int.reduceLT,Int.reduceLE,Int.reduceGT,Int.reduceGE,mu49,Nat.reduceBEq,↓wrap_up,↓wrap_down,↓wrap_pred,↓wrap_sub_nat,Int.reduceToNat,AV.underL,AV.under,hpin,hu1,hu2,exOf]
   refine fun a2 w2 h2=>hK2 _ _ ?_
   clear hK2 K2
   refine wp_block ?_
   by_cases h5:op=5
   ·subst h5
    refine wp_seq_k fun K2 hK2=>?_
    refine h2.W ok1 itL_ok follows1 hsp (mu:=pol1.muts 49) (m:=cfgOf pol1 49 0) ?_
    simp +contextual (disch:=omega) only[Try.f49,dd49,go_sem,↓reduceIte,List.reduceReplicate,Nat.reduceAdd,Nat.reduceSub,reduceCtorEq,Nat.reduceLeDiff,Nat.reduceMul,Nat.reduceLT,Nat.reduceEqDiff,Int.reduceBNe,Int.reduceBEq,Int.reduceEq,Int.reduceLT,Int.reduceLE,Int.reduceGT,Int.reduceGE,mu49,Nat.reduceBEq,↓wrap_up,↓wrap_down,↓wrap_pred,↓wrap_sub_nat,Int.reduceToNat,AV.underL,AV.under,hpin,hu1,hu2,exOf]
    refine fun a3 w3 h3=>hK2 _ _ ?_
    clear hK2 K2
    refine h3.cond (b:=false) rfl ?_
    rw[if_neg Bool.false_ne_true]
    refine wp_seq_k fun K2 hK2=>?_
    refine h3.W ok1 itL_ok follows1 hsp (mu:=pol1.muts 49) (m:=cfgOf pol1 49 0) ?_
    simp +contextual (disch:=omega) only[Try.f49,dd49,go_sem,↓reduceIte,List.reduceReplicate,Nat.reduceAdd,Nat.reduceSub,reduceCtorEq,Nat.reduceLeDiff,Nat.reduceMul,Nat.reduceLT,Nat.reduceEqDiff,Int.reduceBNe,Int.reduceBEq,Int.reduceEq,Int.reduceLT,Int.reduceLE,Int.reduceGT,Int.reduceGE,mu49,Nat.reduceBEq,↓wrap_up,↓wrap_down,↓wrap_pred,↓wrap_sub_nat,Int.reduceToNat,AV.underL,AV.under,hpin,hu1,hu2,exOf]
    refine fun a4 w4 h4=>hK2 _ _ ?_
    clear hK2 K2
    refine h4.cond (b:=false) rfl ?_
    rw[if_neg Bool.false_ne_true]
    refine wp_seq_k fun K2 hK2=>?_
    refine h4.W ok1 itL_ok follows1 hsp (mu:=pol1.muts 49) (m:=cfgOf pol1 49 0) ?_
    simp +contextual (disch:=omega) only[Try.f49,dd49,go_sem,↓reduceIte,List.reduceReplicate,Nat.reduceAdd,Nat.reduceSub,reduceCtorEq,Nat.reduceLeDiff,Nat.reduceMul,Nat.reduceLT,Nat.reduceEqDiff,Int.reduceBNe,Int.reduceBEq,Int.reduceEq,Int.reduceLT,Int.reduceLE,Int.reduceGT,Int.reduceGE,mu49,Nat.reduceBEq,↓wrap_up,↓wrap_down,↓wrap_pred,↓wrap_sub_nat,Int.reduceToNat,AV.underL,AV.under,hpin,hu1,hu2,exOf]
    refine fun a5 w5 h5=>hK2 _ _ ?_
    clear hK2 K2
    refine h5.cond (b:=true) rfl ?_
    rw[if_pos rfl]
    refine wp_seq_k fun K2 hK2=>?_
    refine wp_seq_k fun K3 hK3=>?_
    refine wp_region_list ?_
    refine h5.ops ok1 hsp (mu:=pol1.muts 49) 1 ?_
    simp +contextual (disch:=omega) only[Try.f49,dd49,go_sem,↓reduceIte,List.reduceReplicate,Nat.reduceAdd,Nat.reduceSub,reduceCtorEq,Nat.reduceLeDiff,Nat.reduceMul,Nat.reduceLT,Nat.reduceEqDiff,Int.reduceBNe,Int.reduceBEq,Int.reduceEq,Int.reduceLT,Int.reduceLE,Int.reduceGT,Int.reduceGE,mu49,Nat.reduceBEq,↓wrap_up,↓wrap_down,↓wrap_pred,↓wrap_sub_nat,Int.reduceToNat,AV.underL,AV.under,hpin,hu1,hu2,exOf]
    refine fun a6 w6 h6=>?_
    have h6':HSt I w (spOf s) 65 [(34,.sl false (ins.map Go.Ev.I)),(32,.bool true),(1,pinOf s),(0,.pt (nodeL 5 set kids mn mx md n neg))] a6 w6:=h6.seen hs (d:=34) rfl
    clear h6
    have hu3:AV.underL 0 (ins.map Go.Ev.I)=true:=underL_plain 0 _ (plain_ints ins)
    refine h6'.ops ok1 hsp (mu:=pol1.muts 49) 5 ?_
    by_cases hm:n∈ins
    ·rw[decide_eq_true hm]at h106
     simp +contextual (disch:=omega) only[Try.f49,dd49,go_sem,↓reduceIte,List.reduceReplicate,Nat.reduceAdd,Nat.reduceSub,reduceCtorEq,Nat.reduceLeDiff,Nat.reduceMul,Nat.reduceLT,Nat.reduceEqDiff,Int.reduceBNe,Int.reduceBEq,Int.reduceEq,Int.reduceLT,Int.reduceLE,Int.reduceGT,Int.reduceGE,mu49,Nat.reduceBEq,↓wrap_up,↓wrap_down,↓wrap_pred,↓wrap_sub_nat,Int.reduceToNat,AV.underL,AV.under,hpin,hu1,hu2,hu3,h106,exOf]
     refine fun a7 w7 h7=>hK3 _ _ ?_
     clear hK3 K3
     refine h7.W ok1 itL_ok follows1 hsp (mu:=pol1.muts 49) (m:=cfgOf pol1 49 0) ?_
     simp +contextual (disch:=omega) only[Try.f49,dd49,go_sem,↓reduceIte,List.reduceReplicate,Nat.reduceAdd,Nat.reduceSub,reduceCtorEq,Nat.reduceLeDiff,Nat.reduceMul,Nat.reduceLT,Nat.reduceEqDiff,Int.reduceBNe,Int.reduceBEq,Int.reduceEq,Int.reduceLT,Int.reduceLE,Int.reduceGT,Int.reduceGE,mu49,Nat.reduceBEq,↓wrap_up,↓wrap_down,↓wrap_pred,↓wrap_sub_nat,Int.reduceToNat,AV.underL,AV.under,hpin,hu1,hu2,hu3,exOf]
     refine fun a8 w8 h8=>?_
     obtain⟨g1,g2,g3⟩:=h8.done (d:=4) rfl
     exact hret a8 w8 g1 g2 (by rw[g3,compG,if_neg (by omega),if_pos rfl,if_pos hm])
    ·rw[decide_eq_false hm]at h106
     simp +contextual (disch:=omega) only[Try.f49,dd49,go_sem,↓reduceIte,List.reduceReplicate,Nat.reduceAdd,Nat.reduceSub,reduceCtorEq,Nat.reduceLeDiff,Nat.reduceMul,Nat.reduceLT,Nat.reduceEqDiff,Int.reduceBNe,Int.reduceBEq,Int.reduceEq,Int.reduceLT,Int.reduceLE,Int.reduceGT,Int.reduceGE,mu49,Nat.reduceBEq,↓wrap_up,↓wrap_down,↓wrap_pred,↓wrap_sub_nat,Int.reduceToNat,AV.underL,AV.under,hpin,hu1,hu2,hu3,h106,exOf]
     refine fun a7 w7 h7=>hK3 _ _ ?_
     clear hK3 K3
     refine h7.W ok1 itL_ok follows1 hsp (mu:=pol1.muts 49) (m:=cfgOf pol1 49 0) ?_
     simp +contextual (disch:=omega) only[Try.f49,dd49,go_sem,↓reduceIte,List.reduceReplicate,Nat.reduceAdd,Nat.reduceSub,reduceCtorEq,Nat.reduceLeDiff,Nat.reduceMul,Nat.reduceLT,Nat.reduceEqDiff,Int.reduceBNe,Int.reduceBEq,Int.reduceEq,Int.reduceLT,Int.reduceLE,Int.reduceGT,Int.reduceGE,mu49,Nat.reduceBEq,↓wrap_up,↓wrap_down,↓wrap_pred,↓wrap_sub_nat,Int.reduceToNat,AV.underL,AV.under,hpin,hu1,hu2,hu3,exOf]
     refine fun a8 w8 h8=>hK2 _ _ ?_
     clear hK2 K2
     refine wp_region_list ?_
     refine h8.ops ok1 hsp (mu:=pol1.muts 49) 6 ?_
     simp +contextual (disch:=omega) only[Try.f49,dd49,go_sem,↓reduceIte,List.reduceReplicate,Nat.reduceAdd,Nat.reduceSub,reduceCtorEq,Nat.reduceLeDiff,Nat.reduceMul,Nat.reduceLT,Nat.reduceEqDiff,Int.reduceBNe,Int.reduceBEq,Int.reduceEq,Int.reduceLT,Int.reduceLE,Int.reduceGT,Int.reduceGE,mu49,Nat.reduceBEq,↓wrap_up,↓wrap_down,↓wrap_pred,↓wrap_sub_nat,Int.reduceToNat,AV.underL,AV.under,hpin,hu1,hu2,hu3,exOf]
     refine fun a9 w9 h9=>?_
     refine h9.append1 (e:=3) (by_:=8) (ze:=.int .i64 0) (tt:=true) (m:=n) (by kernel_rfl) (by kernel_rfl) (by kernel_rfl) (by kernel_rfl) (by kernel_rfl) rfl hs rfl rfl (room_ok (by omega) (by omega)) ?_
     intro I1 w1 u a10 hs1 hfr hle hgr h10
     have hpin1:=(hs1.pin (J:=I) (L:=[])).2.1
     have hsp1:∀ k o,spOf u=some (k,o)→k < w1.heap.size:=fun k o e=>by
      obtain⟨cs,T,e⟩:=hs1.has k o e
      exact(Array.getElem?_eq_some_iff.1 e).1
     refine h10.ops ok1 hsp1 (mu:=pol1.muts 49) 1 ?_
     simp +contextual (disch:=omega) only[Try.f49,dd49,go_sem,↓reduceIte,List.reduceReplicate,Nat.reduceAdd,Nat.reduceSub,reduceCtorEq,Nat.reduceLeDiff,Nat.reduceMul,Nat.reduceLT,Nat.reduceEqDiff,Int.reduceBNe,Int.reduceBEq,Int.reduceEq,Int.reduceLT,Int.reduceLE,Int.reduceGT,Int.reduceGE,mu49,Nat.reduceBEq,↓wrap_up,↓wrap_down,↓wrap_pred,↓wrap_sub_nat,Int.reduceToNat,AV.underL,AV.under,hpin,hpin1,hu1,hu2,hu3,exOf]
     refine fun a11 w11 h11=>hrest I1 w1 u (ins++[n]) a11 w11 _ hs1 hfr hle h11 ?_ (by simp) (by rw[compG,if_neg (by omega),if_pos rfl,if_neg hm])
     iterate 14 refine .cons _ ?_
     exact .refl _
   ·have hgo:¬(op=4∧(md=2∨nullHd kids=true))→¬(5 < op∧op≠11)→∀ t,List.Sublist [(1,pinOf s),(0,AV.pt (nodeL op set kids mn mx md n neg))] t→∀ a' w',HSt I w (spOf s) 65 t a' w'→K a' w':=fun e1 e2 t ht a' w' h=>
     hrest I w s ins a' w' t hs (.refl hs.has) (SpLe.self _ _) h ht (by omega) (by rw[compG,if_neg e1,if_neg h5,if_neg e2])
    have hno:(op=4∧(md=2∨nullHd kids=true))∨(5 < op∧op≠11)→∀ t,look t 4=some (.bool false)→∀ a' w',HSt I w (spOf s) 65 t a' w'→Q .ret a' w':=fun e t ht a' w' h=>by
     obtain⟨g1,g2,g3⟩:=h.done ht
     refine hret a' w' g1 g2 ?_
     rw[g3,compG]
     rcases e with e|e
     ·rw[if_pos e]
     ·rw[if_neg (by omega),if_neg h5,if_pos e]
    have sub1:∀ x y:Nat×AV,List.Sublist [(1,pinOf s),(0,AV.pt (nodeL op set kids mn mx md n neg))] [x,y,(1,pinOf s),(0,.pt (nodeL op set kids mn mx md n neg))]:=fun x y=>.cons _ (.cons _ (.refl _))
    by_cases h4:op=4
    ·subst h4
     have hk1:kids.length=1:=by simpa [kidsG] using hkd
     match kids,hk1 with
     | [k],_=>
       have h105k:=h105 k (List.mem_singleton.2 rfl)
       have hl8:=reC_len k
       have ht8:=reC_take k
       cases hn:nullG k with
       | true=>
         rw[hn]at h105k
         have hnn:nullHd [k]=true:=hn
         refine h2.W ok1 itL_ok follows1 hsp (mu:=pol1.muts 49) (m:=cfgOf pol1 49 0) ?_
         simp +contextual (disch:=omega) only[Try.f49,dd49,go_sem,↓reduceIte,List.reduceReplicate,Nat.reduceAdd,Nat.reduceSub,reduceCtorEq,Nat.reduceLeDiff,Nat.reduceMul,Nat.reduceLT,Nat.reduceEqDiff,Int.reduceBNe,Int.reduceBEq,Int.reduceEq,Int.reduceLT,Int.reduceLE,Int.reduceGT,Int.reduceGE,mu49,Nat.reduceBEq,↓wrap_up,↓wrap_down,↓wrap_pred,↓wrap_sub_nat,Int.reduceToNat,AV.underL,AV.under,hpin,hu1,hu2,exOf,h105k,hl8,ht8]
         exact⟨fun _=>hno (.inl ⟨rfl,.inr hnn⟩) _ rfl,fun _=>hno (.inl ⟨rfl,.inr hnn⟩) _ rfl⟩
       | false=>
         rw[hn]at h105k
         have hnn:¬ nullHd [k]=true:=by rw[show nullHd [k]=false from hn];exact Bool.false_ne_true
         refine h2.W ok1 itL_ok follows1 hsp (mu:=pol1.muts 49) (m:=cfgOf pol1 49 0) ?_
         simp +contextual (disch:=omega) only[Try.f49,dd49,go_sem,↓reduceIte,List.reduceReplicate,Nat.reduceAdd,Nat.reduceSub,reduceCtorEq,Nat.reduceLeDiff,Nat.reduceMul,Nat.reduceLT,Nat.reduceEqDiff,Int.reduceBNe,Int.reduceBEq,Int.reduceEq,Int.reduceLT,Int.reduceLE,Int.reduceGT,Int.reduceGE,mu49,Nat.reduceBEq,↓wrap_up,↓wrap_down,↓wrap_pred,↓wrap_sub_nat,Int.reduceToNat,AV.underL,AV.under,hpin,hu1,hu2,exOf,h105k,hl8,ht8]
         refine⟨fun e=>hno (.inl ⟨rfl,.inl e⟩) _ rfl,fun e=>⟨underL_plain 0 _ (plain_reC k),hgo (fun h=>h.2.elim e hnn) (by omega) _ (.cons _ (.refl _))⟩⟩
    ·refine h2.W ok1 itL_ok follows1 hsp (mu:=pol1.muts 49) (m:=cfgOf pol1 49 0) ?_
     simp +contextual (disch:=omega) only[Try.f49,dd49,go_sem,↓reduceIte,List.reduceReplicate,Nat.reduceAdd,Nat.reduceSub,reduceCtorEq,Nat.reduceLeDiff,Nat.reduceMul,Nat.reduceLT,Nat.reduceEqDiff,Int.reduceBNe,Int.reduceBEq,Int.reduceEq,Int.reduceLT,Int.reduceLE,Int.reduceGT,Int.reduceGE,mu49,Nat.reduceBEq,↓wrap_up,↓wrap_down,↓wrap_pred,↓wrap_sub_nat,Int.reduceToNat,AV.underL,AV.under,hpin,hu1,hu2,exOf,h4,h5]
     have sub1:∀ x y:Nat×AV,List.Sublist [(1,pinOf s),(0,AV.pt (nodeL op set kids mn mx md n neg))] [x,y,(1,pinOf s),(0,.pt (nodeL op set kids mn mx md n neg))]:=fun x y=>.cons _ (.cons _ (.refl _))
     refine⟨fun e=>?_,fun e0=>⟨fun e=>?_,fun e1=>⟨fun e=>?_,fun e11=>⟨fun e=>?_,fun e2=>⟨fun e=>?_,fun e3=>hno (.inr ⟨by omega,e11⟩) _ rfl⟩⟩⟩⟩⟩
     all_goals subst e;exact hgo (by omega) (by omega) _ (.cons _ (.cons _ (.refl _)))
theorem sound49 (caps top:Int) (re:Re) (hN:re.wt≤1000000) (hw:wholeG caps top re=true):CallSound Try.prog 49 [.pt (reC re),.sl true []] [] (.bool (compG [] re)) []:=by
 refine⟨en49,fun B0 w0 w I L vs hi hus=>?_⟩
 have hL:L=[]:=List.length_eq_zero_iff.1 hi.len
 subst hL
 have h0:=hus.2 0 _ rfl
 have h1:=hus.2 1 _ rfl
 generalize hs:vs.getD 1 undef=s at h1
 have hsl:SliceOk I w s []∧spOf s=none:=by
  cases h1 with
  | nilsl t=>exact⟨.inl ⟨rfl,rfl⟩,rfl⟩
  | sl t xs b o c k f hc ht hk hI hR=>
    have:c=0:=ht rfl
    subst this
    exact⟨.inr ⟨b,o,0,rfl,Nat.le_refl _,fun h=>absurd h (by simp),fun i x h=>by simp at h,fun h=>absurd h (by simp)⟩,rfl⟩
 obtain⟨hs1,hs2⟩:=hsl
 have hr:RepL I [] [.pt (reC re),pinOf s] vs:=by
  refine⟨hus.1,fun i y hy=>?_⟩
  match i,hy with
  | 0,hy=>simp at hy;subst hy;exact h0
  | 1,hy=>simp at hy;subst hy;rw[hs];exact(hs1.pin (J:=I) (L:=[])).1
 refine(f49a caps top re.wt re [] (Nat.le_refl _) hN (by simp;omega) hw s I w vs hi.imm hs1 hr).mono ?_
 rintro e w' ⟨rfl,hf⟩
 have hv:=hf.val hs1.free hi.imm
 rw[hs2]at hf
 refine⟨.bool _,I,[],rfl,⟨hi.below.trans ⟨hf.os,hf.tape,hf.output,hf.size,fun k hk=>hf.same k (Nat.lt_of_lt_of_le hk hi.base) (fun o h=>by cases h)⟩,Nat.le_trans hi.base hf.size,rfl,fun _ _ _ h=>by simp at h,fun _ _ _ _ h=>by simp at h,hv,hi.old⟩,.refl _ _,.bool _⟩
theorem f49 (caps top:Int) (re:Re) (hN:re.wt≤1000000) (hw:wholeG caps top re=true) (H:List MB):call Try.prog pol1 49 [.pt (reC re),.sl true []] H=some (.bool (compG [] re),H):=by
 have he:=ext49_eq (sound49 caps top re hN hw)
 have hfz:frzArgs pol1 49 0 [.pt (reC re),.sl true []] H=some ([.pt (reC re),.sl true []],H):=frzArgs_mix H _ 0 (by
  have:AV.plain (.pt (reC re))=true:=by simp[AV.plain,plain_reC]
  simp only[mixOk,this,Bool.or_true,Bool.true_and];rfl)
 have hu:AV.underL 0 [.pt (reC re),.sl true []]=true:=by simp[AV.underL,AV.under,underL_plain,plain_reC]
 rw[call_eq]
 unfold evStep
 rw[if_pos (show pol1.pure 49=true from rfl),hfz]
 simp only[hu,if_true]
 unfold evBody
 rw[show pol1.ext 49=some ext49 from rfl]
 simp only[he]
 rfl
end
section
attribute [local go_sem] ty28 ty33 ty35 ty36 ty104
open Go.Proofs Go.RowKit Go.IntWalk
set_option maxRecDepth 100000
set_option linter.unusedSimpArgs false
set_option linter.unusedVariables false
set_option maxHeartbeats 8000000
theorem f14 (p:Pat) (hw:p.re.wt≤1000000) (H:List MB):call Try.prog pol1 14 [patAV p] H=some (.tup [prgAV (compP p).1,I (compP p).2],H):=by
 have h48:=f48 p hw
 obtain⟨re,caps,runes⟩:=p
 simp only at hw
 have hl8:=reC_len re
 have hpl:=plain_patC ⟨re,caps,runes⟩
 have hget8:(reC re++[I caps,.bool runes])[8]?=some (I caps):=by rw[List.getElem?_append_right (by omega),hl8];rfl
 have hget9:(reC re++[I caps,.bool runes])[9]?=some (.bool runes):=by rw[List.getElem?_append_right (by omega),hl8];rfl
 have hdr:∀ l,(reC re++l).drop 8=l:=fun l=>by rw[List.drop_append_of_le_length (by omega),List.drop_of_length_le (by omega)];rfl
 have hdr9:(reC re++[I caps,.bool runes]).drop 9=[.bool runes]:=by rw[show (9:Nat)=8+1 from rfl,← List.drop_drop,hdr];rfl
 have htk8:∀ l,List.take 8 (reC re++l)=reC re:=fun l=>by
  rw[List.take_append_of_le_length (by omega)];exact List.take_of_length_le (by omega)
 have hall:=reC_ok re
 have hz:∀ b,fz (.rf 0 1 0 0) [.row 10 [.agg (reC re++[I caps,.bool runes])] 0,b]=some (.pt (reC re++[I caps,.bool runes]),[.row 10 [.agg (reC re++[I caps,.bool runes])] 1,b]):=fun b=>
  fz_rf (x:=.agg (reC re++[I caps,.bool runes])) (k:=10) (z:=0) rfl rfl rfl hpl
 have ht10:List.take 10 (patC ⟨re,caps,runes⟩)=patC ⟨re,caps,runes⟩:=List.take_of_length_le (by simp[hl8])
 have hlen:(reC re).length+(0+1+1)=10:=by omega
 have hpl2:∀ x:Prg×Int,AV.plain (.tup [prgAV x.1,I x.2])=true:=fun x=>by simp[AV.plain,AV.plainL,plain_ins]
 refine call_run Try.func14 rfl rfl rfl rfl rfl rfl (fun _=>rfl) (by simp[AV.plainL,AV.plain];exact plain_patC _) (hpl2 _) ?_ H
 unfold compP
 by_cases hv:validP ⟨re,caps,runes⟩=0
 ·rw[if_pos hv]
  obtain⟨hsz,hdp,hc0,hc9,hwg⟩:=valid_facts hv
  simp only at hc0 hc9 hwg
  rw[hv]at h48
  have h49:=f49 _ _ re hw hwg
  have h50:=f50 _ _ re.wt re (Nat.le_refl _) hw hwg
  cases hc:compG [] re with
  | false=>
    rw[hc]at h49
    rw[if_neg Bool.false_ne_true]
    simp +contextual (disch:=omega) only[Try.f14,dd14,go_sem,↓reduceIte,evAppend,List.reduceReplicate,Nat.reduceAdd,Nat.reduceSub,reduceCtorEq,Nat.reduceLeDiff,Nat.reduceMul,Nat.reduceLT,Nat.reduceEqDiff,Int.reduceBNe,Int.reduceBEq,Int.reduceEq,Int.reduceLT,Int.reduceLE,Int.reduceGT,Int.reduceGE,mu14,Nat.reduceBEq,↓wrap_up,↓wrap_down,↓wrap_pred,↓wrap_sub_nat,Int.reduceToNat,h48,h49,hz,ht10,hl8,hlen,hget8,hget9,hall,htk8,List.all_append,lookD,look]
    exact⟨_,rfl⟩
  | true=>
    rw[hc]at h49
    rw[if_pos rfl]
    by_cases hL:lenG re+1≤8192
    ·rw[if_pos hL]
     have hg:GoodC caps (topI runes) re:=⟨hwg,codable_of re [] hc⟩
     have h51:=f51 caps (topI runes) (by omega) re hw hg (by omega)
     have hlc:=codeG_len caps (topI runes) re 0 hg
     rw[Nat.min_eq_left (by omega)]at h50
     generalize codeG re 0=C at *
     have hap:=fun b0 b1 x=>app_oneP (H:=[b0,b1,.row 5 (C.map insAV) 0]) (i:=2) (n:=lenG re) (t:=true) (y:=.agg [I 0,I 0,I 0,I 0,.sl true x]) rfl (by rw[List.length_map];exact hlc) rfl (Nat.zero_le _) (by omega)
     simp +contextual (disch:=omega) only[Try.f14,dd14,go_sem,↓reduceIte,List.reduceReplicate,Nat.reduceAdd,Nat.reduceSub,reduceCtorEq,Nat.reduceLeDiff,Nat.reduceMul,Nat.reduceLT,Nat.reduceEqDiff,Int.reduceBNe,Int.reduceBEq,Int.reduceEq,Int.reduceLT,Int.reduceLE,Int.reduceGT,Int.reduceGE,mu14,Nat.reduceBEq,↓wrap_up,↓wrap_down,↓wrap_pred,↓wrap_sub_nat,Int.reduceToNat,h48,h49,h50,h51,hz,ht10,hl8,hlen,hget8,hget9,hall,htk8,hap,List.all_append,lookD,look]
     repeat' (first|intro _|apply And.intro|(unfold dOk;kernel_rfl)|exact St.beq_refl _|(show altO _ _ _ _=true;kernel_rfl)|(show (_ || _)=true;kernel_rfl)|(show (_ && _)=true;kernel_rfl))
     have hk:∀ j H,fzL j (C.map insAV++[.agg [I 0,I 0,I 0,I 0,.sl true []]]) H=some ((C++[(⟨0,0,0,0,[]⟩:Ins)]).map insAV,H):=fun j H=>by
      rw[List.map_append]
      exact((keep_ins C).append (.one fun H=>rfl)).fz H
     exact fin_prg caps runes (by simp[hlc]) hk rfl
    ·rw[if_neg hL]
     simp +contextual (disch:=omega) only[Try.f14,dd14,go_sem,↓reduceIte,evAppend,List.reduceReplicate,Nat.reduceAdd,Nat.reduceSub,reduceCtorEq,Nat.reduceLeDiff,Nat.reduceMul,Nat.reduceLT,Nat.reduceEqDiff,Int.reduceBNe,Int.reduceBEq,Int.reduceEq,Int.reduceLT,Int.reduceLE,Int.reduceGT,Int.reduceGE,mu14,Nat.reduceBEq,↓wrap_up,↓wrap_down,↓wrap_pred,↓wrap_sub_nat,Int.reduceToNat,h48,h49,h50,hz,ht10,hl8,hlen,hget8,hget9,hall,htk8,List.all_append,lookD,look]
     exact⟨_,rfl⟩
 ·rw[if_neg hv]
  simp +contextual (disch:=omega) only[Try.f14,dd14,go_sem,↓reduceIte,evAppend,List.reduceReplicate,Nat.reduceAdd,Nat.reduceSub,reduceCtorEq,Nat.reduceLeDiff,Nat.reduceMul,Nat.reduceLT,Nat.reduceEqDiff,Int.reduceBNe,Int.reduceBEq,Int.reduceEq,Int.reduceLT,Int.reduceLE,Int.reduceGT,Int.reduceGE,mu14,Nat.reduceBEq,↓wrap_up,↓wrap_down,↓wrap_pred,↓wrap_sub_nat,Int.reduceToNat,h48,hv,hz,ht10,hl8,hlen,hget8,hget9,hall,htk8,List.all_append,lookD,look]
  exact⟨_,rfl⟩
end
section
attribute [local go_sem] evAppend ty22 ty23 ty24 ty26 ty28 ty33 ty35 ty36 ty37 ty53 ty54 ty86 ty104 ty112
open Go.Proofs Go.RowKit Go.IntWalk
set_option maxRecDepth 100000
set_option linter.unusedSimpArgs false
set_option linter.unusedVariables false
set_option maxHeartbeats 8000000
abbrev setRe (n:Int):Re:=.mk 1 [(n,n)] [] 0 0 0 0 false
theorem f19 (n:Int) (H:List MB):call Try.prog pol1 19 [I n] H=some (reAV (setRe n),H):=by
 refine call_run Try.func19 rfl rfl rfl rfl rfl rfl (fun _=>rfl) rfl rfl ?_ H
 simp +contextual (disch:=omega) only[Try.f19,dd19,go_sem,↓reduceIte,List.reduceReplicate,Nat.reduceAdd,Nat.reduceSub,reduceCtorEq,Nat.reduceLeDiff,Nat.reduceMul,Nat.reduceLT,Nat.reduceEqDiff,Int.reduceBNe,Int.reduceBEq,Int.reduceEq,Int.reduceLT,Int.reduceLE,Int.reduceGT,Int.reduceGE,mu19,Nat.reduceBEq,↓wrap_up,↓wrap_down,↓wrap_pred,↓wrap_sub_nat,Int.reduceToNat]
 exact⟨_,rfl⟩
def re0:Re:=.mk 4 [] [.mk 3 [] [setRe 97,setRe 98] 0 0 0 0 false] 1 (-1) 0 0 false
def g0:Prg:=⟨[⟨2,1,3,0,[]⟩,⟨1,0,0,0,[(97,97)]⟩,⟨3,4,0,0,[]⟩,⟨1,0,0,0,[(98,98)]⟩,⟨2,5,10,0,[]⟩,⟨2,6,8,0,[]⟩,⟨1,0,0,0,[(97,97)]⟩,⟨3,9,0,0,[]⟩,⟨1,0,0,0,[(98,98)]⟩,⟨3,4,0,0,[]⟩,⟨0,0,0,0,[]⟩],0,false⟩
theorem comp0:compP ⟨re0,0,false⟩=(g0,0):=by kernel_rfl
theorem run0:runI (progOf g0 [97,98]) g0.ins.length (-1) 100 [⟨⟨0,0,m1s⟩,0,0⟩] []=some [⟨10,2,m1s⟩,⟨10,1,m1s⟩]:=by kernel_rfl
theorem check0:checkG g0 2 0 (-1) 100=0:=by kernel_rfl
theorem f18 (H:List MB):call Try.prog pol1 18 [] H=some (.bool true,H):=by
 have h19:=f19
 have hl8:=reC_len re0
 have h14:∀ H,call Try.prog pol1 14 [.agg (reC re0++[I 0,.bool false])] H=some (.tup [.agg [.sl false (g0.ins.map insAV),I 0,.bool false],I 0],H):=fun H=>by
  have:=f14 ⟨re0,0,false⟩ (by decide) H
  rw[comp0]at this
  exact this
 have h23:∀ H,call Try.prog pol1 23 [.agg [.sl false (g0.ins.map insAV),I 0,.bool false],.sl true [I 97,I 98],I 0,I (-1),I 100] H =
  some (.tup [.sl false [.agg [I 0,I 2,.sl false []],.agg [I 0,I 1,.sl false []]],I 0],H):=fun H=>by
  have h:=f23 g0 ⟨by decide,by decide⟩ [97,98] 0 (-1) 100 0 rfl check0 (by omega) H
  rw[show (100:Int).toNat=100 from rfl,show (0:Int).toNat=0 from rfl,run0]at h
  refine(call_frz' (H:=H) (l:=[prgAV g0,.sl false ([97,98].map I),I 0,I (-1),I 100]) (H1:=H) rfl ?_ (by simp[AV.plain,AV.plainL,plain_ins])).trans h
  have hby:∀ i,pol1.byref 23 i=false:=fun i=>rfl
  have hz:fz (prgAV g0) H=some (prgAV g0,H):=fz_plain _ (plain_prg g0)
  have hz2:fz (.sl true [I 97,I 98]) H=some (.sl false [I 97,I 98],H):=rfl
  have hz3:∀ n,fz (I n) H=some (I n,H):=fun n=>rfl
  simp only[frzArgs,hby,Bool.false_eq_true,if_false,hz,hz2,hz3]
  rfl
 have hz:∀ H,fzs [.agg [I 4,.sl true [],.sl true [.agg [I 3,.sl true [],.sl true [reAV (setRe 97),reAV (setRe 98)],I 0,I 0,I 0,I 0,.bool false]],I 1,I (-1),I 0,I 0,.bool false]] H=some ([reAV re0],H):=fun H=>rfl
 refine call_run Try.func18 rfl rfl rfl rfl rfl rfl (fun _=>rfl) rfl rfl ?_ H
 have hln:g0.ins.length=11:=rfl
 have i0:g0.ins[0]?=some ⟨2,1,3,0,[]⟩:=rfl
 have i2:g0.ins[2]?=some ⟨3,4,0,0,[]⟩:=rfl
 have i4:g0.ins[4]?=some ⟨2,5,10,0,[]⟩:=rfl
 have i5:g0.ins[5]?=some ⟨2,6,8,0,[]⟩:=rfl
 have i9:g0.ins[9]?=some ⟨3,4,0,0,[]⟩:=rfl
 have i10:g0.ins[10]?=some ⟨0,0,0,0,[]⟩:=rfl
 simp +contextual (disch:=omega) only[Try.f18,dd18,go_sem,↓reduceIte,List.reduceReplicate,Nat.reduceAdd,Nat.reduceSub,reduceCtorEq,Nat.reduceLeDiff,Nat.reduceMul,Nat.reduceLT,Nat.reduceEqDiff,Int.reduceBNe,Int.reduceBEq,Int.reduceEq,Int.reduceLT,Int.reduceLE,Int.reduceGT,Int.reduceGE,mu18,Nat.reduceBEq,↓wrap_up,↓wrap_down,↓wrap_pred,↓wrap_sub_nat,Int.reduceToNat,h19,h14,h23,hz,AV.beqL_refl,reC_len,reC_ok,reC_take,hln,i0,i2,i4,i5,i9,i10]
 exact⟨_,rfl⟩
end
section
attribute [local go_sem] evAppend ty22 ty24 ty26 ty28 ty33 ty35 ty36 ty37 ty41 ty42
open Go.Proofs Go.RowKit Go.IntWalk
set_option maxRecDepth 100000
set_option linter.unusedSimpArgs false
set_option linter.unusedVariables false
set_option maxHeartbeats 8000000
theorem in64_tdiv' {n:Int} (h:In64 n) (m:Int) (hm:1≤m):In64 (n.tdiv m):=by
 obtain⟨a,b⟩:=h
 have key:∀ k:Int,0≤k→0≤k / m∧k / m≤k:=fun k hk=>⟨Int.ediv_nonneg hk (by omega),by
  have:=Int.ediv_le_self m hk
  exact this⟩
 rcases Int.le_total 0 n with hn|hn
 ·rw[Int.tdiv_eq_ediv_of_nonneg hn]
  have:=key n hn
  exact⟨by omega,by omega⟩
 ·have e:n = -(-n):=by omega
  rw[e,Int.neg_tdiv,Int.tdiv_eq_ediv_of_nonneg (by omega)]
  have:=key (-n) (by omega)
  exact⟨by omega,by omega⟩
theorem reC_drop (r:Re):(reC r).drop 8=[]:=List.drop_of_length_le (by rw[reC_len];omega)
theorem fzA_slp (j:List AV→List MB→Option (List AV×List MB)) (a:Bool) {xs:List AV} (H:List MB) (hp:AV.plainL xs=true):fzA j (.sl a xs) H=some (.sl false xs,H):=by
 unfold fzA
 rw[fzL_plain j xs H hp]
theorem fz_node (a b:Bool) (op:Int) (set:List (Int×Int)) (kids:List Re) (mn mx md n:Int) (neg:Bool) (H:List MB) :
 fz (.agg [I op,.sl a (set.map spanAV),.sl b (kids.map reAV),I mn,I mx,I md,I n,.bool neg]) H=some (.agg [I op,.sl false (set.map spanAV),.sl false (kids.map reAV),I mn,I mx,I md,I n,.bool neg],H):=by
 simp only[fz,fzA_agg,fzL,fzA_slp _ _ _ (plain_span set),fzA_slp _ _ _ (plain_kids kids),fzA_int]
 rfl
theorem fzs_node (a b:Bool) (op:Int) (set:List (Int×Int)) (kids:List Re) (mn mx md n:Int) (neg:Bool) (H:List MB) :
 fzs [.agg [I op,.sl a (set.map spanAV),.sl b (kids.map reAV),I mn,I mx,I md,I n,.bool neg]] H=some ([.agg [I op,.sl false (set.map spanAV),.sl false (kids.map reAV),I mn,I mx,I md,I n,.bool neg]],H):=by
 have:=fz_node a b op set kids mn mx md n neg H
 unfold fz at this
 simp only[fzs,fzL,this]
def limMost (p:Int):Int:=1+aroundI p 32
def limX (mode p:Int) (r:Re):Re:=.mk 4 [] [r] (aroundI (p.tdiv 32) (limMost p+1)) (if aroundI (p.tdiv 1056) 3=0 then -1 else limMost p) (aroundI mode 2) 0 false
def limStep (mode p:Int) (r:Re):Re:=if nullG (limX mode p r)=true then .mk 2 [] [limX mode p r,setRe 98] 0 0 0 0 false else limX mode p r
def limRe (mode:Int):List Int→Re
 | []=>setRe 97
 | p::l=>limStep mode p (limRe mode l)
theorem limRe_wt (mode:Int):∀ l:List Int,(limRe mode l).wt≤4 * l.length+2
 | []=>by simp[limRe,Re.wt,Re.wtL]
 | p::l=>by
   have:=limRe_wt mode l
   simp only[limRe,limStep]
   split<;>simp only[limX,Re.wt,Re.wtL,List.length_cons,List.length_nil]<;>omega
def limN (mode a b c:Int) (i:Nat):Re:=limRe mode (([a,b,c].take i).reverse)
theorem limN_succ (mode a b c:Int) {i:Nat} {p:Int} (h:[a,b,c][i]?=some p):limN mode a b c (i+1)=limStep mode p (limN mode a b c i):=by
 have:[a,b,c].take (i+1)=[a,b,c].take i++[p]:=by rw[List.take_add_one,h];rfl
 simp[limN,this,limRe]
theorem limN_wt (mode a b c:Int) (i:Nat):(limN mode a b c i).wt≤14:=by
 have:=limRe_wt mode (([a,b,c].take i).reverse)
 simp only[List.length_reverse,List.length_take,List.length_cons,List.length_nil]at this
 unfold limN
 omega
def limAr (k m:Int):Re:=.mk 5 [] [.mk 2 [] [setRe 97,.mk 5 [] [setRe 98] 0 0 0 m false] 0 0 0 0 false] 0 0 0 k false
def limPo (r:Re):Re:=.mk 4 [] [r] 0 (-1) 2 0 false
theorem comp_err (p:Pat):(compP p).2≠0→(compP p).1.ins=[]:=by
 unfold compP
 repeat' split
 all_goals simp
theorem comp_ar (k m:Int) (hk:1≤k∧k≤9) (hm:1≤m∧m≤9):((compP ⟨limAr k m,9,false⟩).2=10)↔k=m:=by
 have hv:validP ⟨limAr k m,9,false⟩=0:=by
  simp[validP,limAr,Re.size,Re.sizeL,Re.depth,Re.depthL,topI,wholeG,wholeL,formedG,kidsG,spansG,badS]
  omega
 have hc:compG [] (limAr k m)=decide (k≠m):=by
  simp[limAr,compG,compL]
  by_cases h:k=m
  ·simp[h]
  ·simp[h,Ne.symm h,eq_comm]
 have hl:lenG (limAr k m)+1≤8192:=by simp[limAr,lenG,lenL]
 unfold compP
 rw[if_pos hv,hc]
 by_cases h:k=m
 ·simp[h]
 ·rw[if_pos (decide_eq_true h),if_pos hl]
  simp[h]
theorem f4 (a b c mode n:Int) (ha:In64 a) (hb:In64 b) (hc:In64 c) (hmd:In64 mode) (hn:In64 n) (H:List MB):call Try.prog pol1 4 [I a,I b,I c,I mode,I n] H=some (.bool true,H):=by
 have h18:=f18
 have h19:=f19
 refine call_run Try.func4 rfl rfl rfl rfl rfl rfl (fun _=>rfl) rfl rfl ?_ H
 have hz1:∀ H,fzs [reAV (setRe 97)] H=some ([reAV (setRe 97)],H):=fun H=>rfl
 simp +contextual (disch:=omega) only[Try.f4,dd4,go_sem,↓reduceIte,List.reduceReplicate,Nat.reduceAdd,Nat.reduceSub,reduceCtorEq,Nat.reduceLeDiff,Nat.reduceMul,Nat.reduceLT,Nat.reduceEqDiff,Int.reduceBNe,Int.reduceBEq,Int.reduceEq,Int.reduceLT,Int.reduceLE,Int.reduceGT,Int.reduceGE,mu4,Nat.reduceBEq,↓wrap_up,↓wrap_down,↓wrap_pred,↓wrap_sub_nat,Int.reduceToNat,h19,hz1,AV.beqL_refl,reC_len,reC_ok,reC_take]
 refine W_count (M:=(mskOf (pol1.mask 4) (pol1.gc 4) (pol1.acts 4) 0 4)) rfl 3 (fun i=>(⟨138,[(13,I i),(12,.sl true [I a,I b,I c]),(11,.rf 0 1 0 0),(4,I n),(3,I mode)],[.row 8 [reAV (limN mode a b c i)] 0]⟩:St)) (fun _=>True) ?_ ?_ trivial _ (by first|rfl|(simp[keepT,AV.underL,AV.under,MB.under,underL_plain,under_plain,underL_append,plain_ints,plain_span,plain_ins,plain_prg,-List.map_take,-List.map_replicate,-List.map_set];done))
 ·intro i hi _
  obtain⟨p,hp,hp64⟩:∃ p,[a,b,c][i]?=some p∧In64 p:=by
   have:i=0∨i=1∨i=2:=by omega
   rcases this with rfl|rfl|rfl
   ·exact⟨a,rfl,ha⟩
   ·exact⟨b,rfl,hb⟩
   ·exact⟨c,rfl,hc⟩
  have hpm:[I a,I b,I c][i]?=some (I p):=by
   have:=congrArg (Option.map I) hp
   rwa [← List.getElem?_map]at this
  have hs:=limN_succ mode a b c hp
  have hw:=limN_wt mode a b c i
  generalize limN mode a b c (i+1)=r' at hs ⊢
  generalize limN mode a b c i=r at hs hw ⊢
  have hq:∀ m:Int,2≤m→In64 (p.tdiv m):=fun m hm=>in64_tdiv' hp64 m (by omega)
  have b1:=around_lt (n:=p) (m:=32) (by omega)
  have h12a:=f12 p 32 hp64 (by omega)
  have h12b:=f12 (p.tdiv 32) (1+aroundI p 32+1) (hq 32 (by omega)) (by omega)
  have hw1:IntKind.i64.wrap (p.tdiv 32)=p.tdiv 32:=i64_in _ (hq 32 (by omega))
  have hw2:IntKind.i64.wrap (p.tdiv 1056)=p.tdiv 1056:=i64_in _ (hq 1056 (by omega))
  have h12c:=f12 mode 2 hmd (by omega)
  have h12d:=f12 (p.tdiv 1056) 3 (hq 1056 (by omega)) (by omega)
  have hwx:=limN_wt mode a b c i
  have hz1:∀ mn mx md H,fzs [.agg [I 4,.sl true [],.sl true [.agg (reC r)],I mn,I mx,I md,I 0,.bool false]] H=some ([.agg [I 4,.sl false [],.sl false [.agg (reC r)],I mn,I mx,I md,I 0,.bool false]],H):=fun mn mx md H=>fzs_node true true 4 [] [r] mn mx md 0 false H
  have hz2:∀ mn mx md H,fzs [.agg [I 2,.sl true [],.sl true [.agg [I 4,.sl false [],.sl false [.agg (reC r)],I mn,I mx,I md,I 0,.bool false],reAV (setRe 98)],I 0,I 0,I 0,I 0,.bool false]] H=some ([.agg [I 2,.sl false [],.sl false [.agg [I 4,.sl false [],.sl false [.agg (reC r)],I mn,I mx,I md,I 0,.bool false],reAV (setRe 98)],I 0,I 0,I 0,I 0,.bool false]],H):=
   fun mn mx md H=>fzs_node true true 2 [] [.mk 4 [] [r] mn mx md 0 false,setRe 98] 0 0 0 0 false H
  have h20:∀ mn mx md H,call Try.prog pol1 20 [.agg [I 4,.sl false [],.sl false [.agg (reC r)],I mn,I mx,I md,I 0,.bool false]] H=some (.bool (nullG (.mk 4 [] [r] mn mx md 0 false)),H):=fun mn mx md H=>
   f20 _ (.mk 4 [] [r] mn mx md 0 false) (Nat.le_refl _) (by simp only[Re.wt,Re.wtL,List.length_nil];omega) H
  have fin:∀ mx,(if aroundI (p.tdiv 1056) 3=0 then(-1:Int) else 1+aroundI p 32)=mx→∀ b,nullG (.mk 4 [] [r] (aroundI (p.tdiv 32) (1+aroundI p 32+1)) mx (aroundI mode 2) 0 false)=b →
   r' = if b=true then .mk 2 [] [.mk 4 [] [r] (aroundI (p.tdiv 32) (1+aroundI p 32+1)) mx (aroundI mode 2) 0 false,setRe 98] 0 0 0 0 false else .mk 4 [] [r] (aroundI (p.tdiv 32) (1+aroundI p 32+1)) mx (aroundI mode 2) 0 false:=by
   rintro mx rfl b rfl
   rw[hs]
   rfl
  by_cases hd:aroundI (p.tdiv 1056) 3=0
  ·have fin:=fin (-1) (if_pos hd)
   cases hnu:nullG (.mk 4 [] [r] (aroundI (p.tdiv 32) (1+aroundI p 32+1)) (-1) (aroundI mode 2) 0 false) with
   | true=>
     have fin:=fin true hnu
     rw[if_pos rfl]at fin
     subst fin
     simp +contextual (disch:=omega) only[Try.f4,dd4,go_sem,↓reduceIte,List.reduceReplicate,Nat.reduceAdd,Nat.reduceSub,reduceCtorEq,Nat.reduceLeDiff,Nat.reduceMul,Nat.reduceLT,Nat.reduceEqDiff,Int.reduceBNe,Int.reduceBEq,Int.reduceEq,Int.reduceLT,Int.reduceLE,Int.reduceGT,Int.reduceGE,mu4,Nat.reduceBEq,↓wrap_up,↓wrap_down,↓wrap_pred,↓wrap_sub_nat,Int.reduceToNat,hpm,h12a,h12b,h12c,h12d,hw1,hw2,h20,hnu,hd,h19,hz1,hz2,AV.beqL_refl,reC_len,reC_ok,reC_take,reC_drop]
     repeat' (first|intro _|apply And.intro|(unfold dOk;kernel_rfl)|exact St.beq_refl _|(show altO _ _ _ _=true;kernel_rfl)|(show (_ || _)=true;kernel_rfl)|(show (_ && _)=true;kernel_rfl))
     exact(by first|rfl|(simp[keepT,AV.underL,AV.under,MB.under,underL_plain,under_plain,underL_append,plain_ints,plain_span,plain_ins,plain_prg,-List.map_take,-List.map_replicate,-List.map_set];done))
   | false=>
     have fin:=fin false hnu
     rw[if_neg Bool.false_ne_true]at fin
     subst fin
     simp +contextual (disch:=omega) only[Try.f4,dd4,go_sem,↓reduceIte,List.reduceReplicate,Nat.reduceAdd,Nat.reduceSub,reduceCtorEq,Nat.reduceLeDiff,Nat.reduceMul,Nat.reduceLT,Nat.reduceEqDiff,Int.reduceBNe,Int.reduceBEq,Int.reduceEq,Int.reduceLT,Int.reduceLE,Int.reduceGT,Int.reduceGE,mu4,Nat.reduceBEq,↓wrap_up,↓wrap_down,↓wrap_pred,↓wrap_sub_nat,Int.reduceToNat,hpm,h12a,h12b,h12c,h12d,hw1,hw2,h20,hnu,hd,h19,hz1,hz2,AV.beqL_refl,reC_len,reC_ok,reC_take,reC_drop]
     repeat' (first|intro _|apply And.intro|(unfold dOk;kernel_rfl)|exact St.beq_refl _|(show altO _ _ _ _=true;kernel_rfl)|(show (_ || _)=true;kernel_rfl)|(show (_ && _)=true;kernel_rfl))
     exact(by first|rfl|(simp[keepT,AV.underL,AV.under,MB.under,underL_plain,under_plain,underL_append,plain_ints,plain_span,plain_ins,plain_prg,-List.map_take,-List.map_replicate,-List.map_set];done))
  ·have fin:=fin _ (if_neg hd)
   cases hnu:nullG (.mk 4 [] [r] (aroundI (p.tdiv 32) (1+aroundI p 32+1)) (1+aroundI p 32) (aroundI mode 2) 0 false) with
   | true=>
     have fin:=fin true hnu
     rw[if_pos rfl]at fin
     subst fin
     simp +contextual (disch:=omega) only[Try.f4,dd4,go_sem,↓reduceIte,List.reduceReplicate,Nat.reduceAdd,Nat.reduceSub,reduceCtorEq,Nat.reduceLeDiff,Nat.reduceMul,Nat.reduceLT,Nat.reduceEqDiff,Int.reduceBNe,Int.reduceBEq,Int.reduceEq,Int.reduceLT,Int.reduceLE,Int.reduceGT,Int.reduceGE,mu4,Nat.reduceBEq,↓wrap_up,↓wrap_down,↓wrap_pred,↓wrap_sub_nat,Int.reduceToNat,hpm,h12a,h12b,h12c,h12d,hw1,hw2,h20,hnu,hd,h19,hz1,hz2,AV.beqL_refl,reC_len,reC_ok,reC_take,reC_drop]
     repeat' (first|intro _|apply And.intro|(unfold dOk;kernel_rfl)|exact St.beq_refl _|(show altO _ _ _ _=true;kernel_rfl)|(show (_ || _)=true;kernel_rfl)|(show (_ && _)=true;kernel_rfl))
     exact(by first|rfl|(simp[keepT,AV.underL,AV.under,MB.under,underL_plain,under_plain,underL_append,plain_ints,plain_span,plain_ins,plain_prg,-List.map_take,-List.map_replicate,-List.map_set];done))
   | false=>
     have fin:=fin false hnu
     rw[if_neg Bool.false_ne_true]at fin
     subst fin
     simp +contextual (disch:=omega) only[Try.f4,dd4,go_sem,↓reduceIte,List.reduceReplicate,Nat.reduceAdd,Nat.reduceSub,reduceCtorEq,Nat.reduceLeDiff,Nat.reduceMul,Nat.reduceLT,Nat.reduceEqDiff,Int.reduceBNe,Int.reduceBEq,Int.reduceEq,Int.reduceLT,Int.reduceLE,Int.reduceGT,Int.reduceGE,mu4,Nat.reduceBEq,↓wrap_up,↓wrap_down,↓wrap_pred,↓wrap_sub_nat,Int.reduceToNat,hpm,h12a,h12b,h12c,h12d,hw1,hw2,h20,hnu,hd,h19,hz1,hz2,AV.beqL_refl,reC_len,reC_ok,reC_take,reC_drop]
     repeat' (first|intro _|apply And.intro|(unfold dOk;kernel_rfl)|exact St.beq_refl _|(show altO _ _ _ _=true;kernel_rfl)|(show (_ || _)=true;kernel_rfl)|(show (_ && _)=true;kernel_rfl))
     exact(by first|rfl|(simp[keepT,AV.underL,AV.under,MB.under,underL_plain,under_plain,underL_append,plain_ints,plain_span,plain_ins,plain_prg,-List.map_take,-List.map_replicate,-List.map_set];done))
 ·intro _
  have hwR:=limN_wt mode a b c 3
  generalize limN mode a b c 3=R at hwR ⊢
  have b1:=around_lt (n:=n) (m:=9) (by omega)
  have b2:=around_lt (n:=n.tdiv 9) (m:=9) (by omega)
  have h12a:=f12 n 9 hn (by omega)
  have h12b:=f12 (n.tdiv 9) 9 (in64_tdiv' hn 9 (by omega)) (by omega)
  have hw1:IntKind.i64.wrap (n.tdiv 9)=n.tdiv 9:=i64_in _ (in64_tdiv' hn 9 (by omega))
  generalize aroundI n 9=k0 at *
  generalize aroundI (n.tdiv 9) 9=m0 at *
  have hz3:∀ k m H,fzs [.agg [I 5,.sl true [],.sl true [.agg [I 2,.sl true [],.sl true [reAV (setRe 97),.agg [I 5,.sl true [],.sl true [reAV (setRe 98)],I 0,I 0,I 0,I m,.bool false]],I 0,I 0,I 0,I 0,.bool false]],I 0,I 0,I 0,I k,.bool false]] H=some ([reAV (limAr k m)],H):=fun k m H=>rfl
  have hz4:∀ k m H,fz (.sl true [.agg (reC R),.agg (reC (limAr k m)),.agg [I 4,.sl true [],.sl true [.agg (reC R)],I 0,I (-1),I 2,I 0,.bool false]]) H=some (.sl false ([R,limAr k m,limPo R].map reAV),H):=fun k m H=>by
   have e1:∀ r H,fzA (fzJ 6) (.agg (reC r)) H=some (.agg (reC r),H):=fun r H=>fz_plain H (by simp[AV.plain,plain_reC])
   have e2:fzA (fzJ 6) (.agg [I 4,.sl true [],.sl true [.agg (reC R)],I 0,I (-1),I 2,I 0,.bool false]) H=some (reAV (limPo R),H):=fz_node true true 4 [] [R] 0 (-1) 2 0 false H
   simp only[fz,fzA_sl,fzL,e1,e2]
   rfl
  have htk8:∀ r l,List.take 8 (reC r++l)=reC r:=fun r l=>by
   have:=reC_len r
   rw[List.take_append_of_le_length (by omega)];exact List.take_of_length_le (by omega)
  have hdr9:∀ r (a b:AV),List.drop 9 (reC r++[a,b])=[b]:=fun r a b=>by
   have:=reC_len r
   rw[show (9:Nat)=8+1 from rfl,← List.drop_drop,List.drop_append_of_le_length (by omega),reC_drop];rfl
  simp +contextual (disch:=omega) only[Try.f4,dd4,go_sem,↓reduceIte,List.reduceReplicate,Nat.reduceAdd,Nat.reduceSub,reduceCtorEq,Nat.reduceLeDiff,Nat.reduceMul,Nat.reduceLT,Nat.reduceEqDiff,Int.reduceBNe,Int.reduceBEq,Int.reduceEq,Int.reduceLT,Int.reduceLE,Int.reduceGT,Int.reduceGE,mu4,Nat.reduceBEq,↓wrap_up,↓wrap_down,↓wrap_pred,↓wrap_sub_nat,Int.reduceToNat,h12a,h12b,hw1,h19,hz3,hz4,AV.beqL_refl,reC_len,reC_ok,reC_take,reC_drop]
  refine W_count (M:=(mskOf (pol1.mask 4) (pol1.gc 4) (pol1.acts 4) 0 17)) rfl 3 (fun i=>(⟨138,[(19,I i),(18,.sl false [reAV R,reAV (limAr (1+k0) (1+m0)),reAV (limPo R)]),(16,I (1+m0)),(15,I (1+k0))],[.row 8 [reAV R] 0,.row 8 [reAV (limAr (1+k0) (1+m0))] 0]⟩:St)) (fun _=>True) ?_ ?_ trivial _ (by first|rfl|(refine prep_to (n:=2) (m:=⟨some [19,18,16,15],some 2,[]⟩) rfl rfl ?_ ?_ ?_<;>first|rfl|(simp[keepT,AV.underL,AV.under,MB.under,underL_plain,under_plain,underL_append,plain_ints,plain_span,plain_ins,plain_prg,-List.map_take,-List.map_replicate,-List.map_set,plain_reC];done)|(simp[keepT,AV.underL,AV.under,MB.under,underL_plain,under_plain,underL_append,plain_ints,plain_span,plain_ins,plain_prg,-List.map_take,-List.map_replicate,-List.map_set,plain_reC];omega)))
  ·intro i hi _
   obtain⟨x,hx,hwx,hx1⟩:∃ x,[reAV R,reAV (limAr (1+k0) (1+m0)),reAV (limPo R)][i]?=some (reAV x)∧x.wt≤1000000∧(i=1→x=limAr (1+k0) (1+m0)):=by
    have:i=0∨i=1∨i=2:=by omega
    rcases this with rfl|rfl|rfl
    ·exact⟨R,rfl,by omega,fun h=>by omega⟩
    ·exact⟨_,rfl,by simp[limAr,Re.wt,Re.wtL],fun _=>rfl⟩
    ·exact⟨limPo R,rfl,by simp only[limPo,Re.wt,Re.wtL,List.length_nil];omega,fun h=>by omega⟩
   have h14:∀ H,call Try.prog pol1 14 [.agg (reC x++[I 9,.bool false])] H=some (.tup [prgAV (compP ⟨x,9,false⟩).1,I (compP ⟨x,9,false⟩).2],H):=f14 ⟨x,9,false⟩ hwx
   have h15:∀ H,call Try.prog pol1 15 [.agg (reC x++[I 9,.bool false])] H=some (.tup [prgAV (compP ⟨x,9,false⟩).1,I (compP ⟨x,9,false⟩).2],H):=f15 ⟨x,9,false⟩ hwx
   have he:=comp_err ⟨x,9,false⟩
   have har:i=1→((compP ⟨x,9,false⟩).2=10↔1+k0=1+m0):=fun h=>by
    rw[hx1 h];exact comp_ar _ _ (by omega) (by omega)
   generalize compP ⟨x,9,false⟩=C at *
   obtain⟨⟨ci,cc,cr⟩,ce⟩:=C
   simp only at he har h14 h15
   by_cases h0:ce=0
   ·subst h0
    simp +contextual (disch:=omega) only[Try.f4,dd4,go_sem,↓reduceIte,List.reduceReplicate,Nat.reduceAdd,Nat.reduceSub,reduceCtorEq,Nat.reduceLeDiff,Nat.reduceMul,Nat.reduceLT,Nat.reduceEqDiff,Int.reduceBNe,Int.reduceBEq,Int.reduceEq,Int.reduceLT,Int.reduceLE,Int.reduceGT,Int.reduceGE,mu4,Nat.reduceBEq,↓wrap_up,↓wrap_down,↓wrap_pred,↓wrap_sub_nat,Int.reduceToNat,hx,h14,h15,h12a,h12b,hw1,h19,htk8,hdr9,AV.beqL_refl,reC_len,reC_ok,reC_take,reC_drop]
    refine⟨fun e=>⟨fun _=>?_,fun h=>absurd rfl h⟩,fun _=>(by first|rfl|(refine prep_to (n:=2) (m:=⟨some [19,18,16,15],some 2,[]⟩) rfl rfl ?_ ?_ ?_<;>first|rfl|(simp[keepT,AV.underL,AV.under,MB.under,underL_plain,under_plain,underL_append,plain_ints,plain_span,plain_ins,plain_prg,-List.map_take,-List.map_replicate,-List.map_set,plain_reC];done)|(simp[keepT,AV.underL,AV.under,MB.under,underL_plain,under_plain,underL_append,plain_ints,plain_span,plain_ins,plain_prg,-List.map_take,-List.map_replicate,-List.map_set,plain_reC];omega)))⟩
    obtain rfl:i=1:=by omega
    exact(by first|rfl|(refine prep_to (n:=2) (m:=⟨some [19,18,16,15],some 2,[]⟩) rfl rfl ?_ ?_ ?_<;>first|rfl|(simp[keepT,AV.underL,AV.under,MB.under,underL_plain,under_plain,underL_append,plain_ints,plain_span,plain_ins,plain_prg,-List.map_take,-List.map_replicate,-List.map_set,plain_reC];done)|(simp[keepT,AV.underL,AV.under,MB.under,underL_plain,under_plain,underL_append,plain_ints,plain_span,plain_ins,plain_prg,-List.map_take,-List.map_replicate,-List.map_set,plain_reC];omega)))
   ·have hci:=he h0
    subst hci
    simp +contextual (disch:=omega) only[Try.f4,dd4,go_sem,↓reduceIte,List.reduceReplicate,Nat.reduceAdd,Nat.reduceSub,reduceCtorEq,Nat.reduceLeDiff,Nat.reduceMul,Nat.reduceLT,Nat.reduceEqDiff,Int.reduceBNe,Int.reduceBEq,Int.reduceEq,Int.reduceLT,Int.reduceLE,Int.reduceGT,Int.reduceGE,mu4,Nat.reduceBEq,↓wrap_up,↓wrap_down,↓wrap_pred,↓wrap_sub_nat,Int.reduceToNat,hx,h0,h14,h15,h12a,h12b,hw1,h19,htk8,hdr9,AV.beqL_refl,reC_len,reC_ok,reC_take,reC_drop]
    refine⟨fun e=>⟨fun _=>?_,fun h=>absurd ?_ h⟩,fun _=>(by first|rfl|(refine prep_to (n:=2) (m:=⟨some [19,18,16,15],some 2,[]⟩) rfl rfl ?_ ?_ ?_<;>first|rfl|(simp[keepT,AV.underL,AV.under,MB.under,underL_plain,under_plain,underL_append,plain_ints,plain_span,plain_ins,plain_prg,-List.map_take,-List.map_replicate,-List.map_set,plain_reC];done)|(simp[keepT,AV.underL,AV.under,MB.under,underL_plain,under_plain,underL_append,plain_ints,plain_span,plain_ins,plain_prg,-List.map_take,-List.map_replicate,-List.map_set,plain_reC];omega)))⟩
    ·obtain rfl:i=1:=by omega
     exact(by first|rfl|(refine prep_to (n:=2) (m:=⟨some [19,18,16,15],some 2,[]⟩) rfl rfl ?_ ?_ ?_<;>first|rfl|(simp[keepT,AV.underL,AV.under,MB.under,underL_plain,under_plain,underL_append,plain_ints,plain_span,plain_ins,plain_prg,-List.map_take,-List.map_replicate,-List.map_set,plain_reC];done)|(simp[keepT,AV.underL,AV.under,MB.under,underL_plain,under_plain,underL_append,plain_ints,plain_span,plain_ins,plain_prg,-List.map_take,-List.map_replicate,-List.map_set,plain_reC];omega)))
    ·have h1:=har (by omega)
     by_cases hce:ce=10
     ·rw[beq_iff_eq.2 hce,beq_iff_eq.2 (h1.1 hce)]
     ·rw[beq_eq_false_iff_ne.2 hce,beq_eq_false_iff_ne.2 (fun h=>hce (h1.2 h))]
  ·intro _
   simp +contextual (disch:=omega) only[Try.f4,dd4,go_sem,↓reduceIte,List.reduceReplicate,Nat.reduceAdd,Nat.reduceSub,reduceCtorEq,Nat.reduceLeDiff,Nat.reduceMul,Nat.reduceLT,Nat.reduceEqDiff,Int.reduceBNe,Int.reduceBEq,Int.reduceEq,Int.reduceLT,Int.reduceLE,Int.reduceGT,Int.reduceGE,mu4,Nat.reduceBEq,↓wrap_up,↓wrap_down,↓wrap_pred,↓wrap_sub_nat,Int.reduceToNat,h18]
   exact⟨_,rfl⟩
end
end Go.Ev
