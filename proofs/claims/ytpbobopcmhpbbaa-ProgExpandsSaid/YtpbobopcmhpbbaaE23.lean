/- Functions of the program, each with what it computes; no further conditions. -/
import Derived.Test.YtpbobopcmhpbbaaE05
import Derived.Test.YtpbobopcmhpbbaaE22
import Derived.Test.YtpbobopcmhpbbaaE20
import Derived.Test.YtpbobopcmhpbbaaE15
import Derived.Test.YtpbobopcmhpbbaaE10
import Derived.Test.YtpbobopcmhpbbaaE11
import Derived.Test.YtpbobopcmhpbbaaE19
set_option linter.unusedVariables false
set_option linter.unusedSimpArgs false
namespace Go.Ev
attribute [local go_sem] eq_self bindW_some bindW_map bindW_ite bindW_iteN W_seq W_region W_draw W_cond W_condK W_ret W_skip W_exit W_scope W_label W_block blockK_norm blockK_ret blockK_exit WO_nil WO_cons WO_guard WD_nil WD_cons WD_guard guardV guardW_boolT guardW_boolF guardW_tup fpL_some fpL_none footprint thenK_norm thenK_ret thenK_exit put_some put_none ev_tmp ev_con ev_func ofK_int ofK_bool ofK_str ofK_nil evOp evBuiltin evCall evLen evAppend getElem_16 getElem_4 List.length_cons List.length_nil List.cons_append List.nil_append List.append_nil if_false if_true Bool.false_eq_true Bool.true_eq_false Option.map_some Option.map_none List.map_cons List.map_nil evBinOp evBin evUn asB_bool splitB_decide splitB_true splitB_false splitB_beq splitB_bne splitB_not endK_ret endK_norm List.getElem?_cons_zero List.getElem?_cons_succ evResults evResult packRes retK_norm retK_ret cellsAt mkVal evFieldAddr evField evIndexAddr evPart evStore evBuild evBuildSlice fillC fillE evSlice evMakeSlice evConvert getRow AV.cells List.head?_cons List.drop_zero List.drop_succ_cons List.take_zero List.take_succ_cons List.drop_nil List.take_nil List.all_cons List.all_nil AV.ok Bool.and_self Bool.and_true Bool.true_and and_self and_true true_and Nat.zero_add Nat.add_zero setCells splice pairsOk pairsX altW_none altW_some cfg_al WI_nil WI_cons FP.apart heapEq_refl sameAt_refl Bool.or_true Bool.true_or Bool.or_false srcElems elemsOf mutDst indDst roundK_norm roundK_exit roundK_ret List.length_map List.getElem?_map Int.toNat_natCast decide_true decide_false Bool.not_true Bool.not_false List.set set_0 set_1 set_2 set_3 set_4 look_hit look lookD_hit lookD_cons lookD_nil ins_hit ins upd_hit upd rem1_hit rem1 dropT dropSt_eq initT cfg_dd cfg_bd cfg_ra actL_nil actL_cons act1 updT_hit updT frzB retE_norm retE_ret bndO bnd evEq eqCells not_false_eq_true not_true_eq_false toList_some Array.size_empty List.length_append List.map_append tySzE List.head?_drop Nat.mul_one sameAt_zero sameAt_two sameAt_three sameAt_four sameAt_five endE_norm endE_ret head_take1 List.contains_nil List.contains_cons Bool.or_self dlt_t dlt_f dle_t dle_f dgt_t dgt_f dge_t dge_f beq_t beq_f bne_t bne_f lt_T le_T nle_T nle_F Go.IntWalk.i64_in Go.IntWalk.i64_quo Go.IntWalk.rem_in room_ok ty0 ty3 ty4 ty22 ty28 ty36 ty110
section
attribute [local go_sem] ty174
open Go.Proofs Go.RowKit Go.IntWalk
set_option maxRecDepth 100000
set_option maxHeartbeats 8000000
theorem f137 (re:Re) (caps:Int) (t:List Int) (fuel:Int) (hw:re.wt≤1000000) (hv:validP ⟨re,caps,false⟩=0) (hl:t.length≤65536) (ht:∀ x∈t,0≤x∧x≤255) (hf:0≤fuel∧fuel≤1000000) (H:List MB) :
  call Try.prog pol1 137 [patAV ⟨re,caps,false⟩,.sl false (t.map I),I fuel] H=some (I 0,H):=by
 have h52:=f52 ⟨re,caps,false⟩ hw
 rw[hv]at h52
 have hpl:=plain_patC ⟨re,caps,false⟩
 refine call_run Try.func137 rfl rfl rfl rfl rfl rfl (fun _=>rfl) (by simp[AV.plainL,AV.plain,plain_ints];exact hpl) rfl ?_ H
 have hl8:=reC_len re
 have hget9:(reC re++[I caps,.bool false])[9]?=some (.bool false):=by rw[List.getElem?_append_right (by omega),hl8];rfl
 have htk:List.take 10 (reC re++[I caps,.bool false])=reC re++[I caps,.bool false]:=List.take_of_length_le (by simp[reC_len])
 have hall:=reC_ok re
 simp +contextual (disch:=omega) only[Try.f137,dd137,go_sem,↓reduceIte,List.reduceReplicate,Nat.reduceAdd,Nat.reduceSub,reduceCtorEq,Nat.reduceLeDiff,Nat.reduceMul,Nat.reduceLT,Nat.reduceEqDiff,Int.reduceBNe,Int.reduceBEq,Int.reduceEq,Int.reduceLT,Int.reduceLE,Int.reduceGT,Int.reduceGE,mu137,Nat.reduceBEq,↓wrap_up,↓wrap_down,↓wrap_pred,↓wrap_sub_nat,Int.reduceToNat,h52,hl8,hget9,htk,hall,List.all_append]
 repeat' (first|intro _|apply And.intro|(unfold dOk;kernel_rfl)|exact St.beq_refl _|(show altO _ _ _ _=true;kernel_rfl)|(show (_ || _)=true;kernel_rfl)|(show (_ && _)=true;kernel_rfl))
 refine W_count (M:=(mskOf (pol1.mask 137) (pol1.gc 137) (pol1.acts 137) 0 10)) rfl t.length (fun i=>(⟨45,[(9,I i),(8,I 255),(2,I fuel),(1,.sl false (t.map I))],[.row 10 [patAV ⟨re,caps,false⟩] 0]⟩:St)) (fun _=>True) ?_ ?_ trivial _ (by first|rfl|(refine prep_cut rfl (by rfl) (by rfl) (by rfl) ?_ ?_<;>simp[AV.underL,AV.under,MB.under,underL_plain,under_plain,plain_ints,plain_span,plain_ins,plain_prg,-List.map_take]))
 ·intro i hi _
  obtain⟨x,hx⟩:∃ x,t[i]?=some x:=⟨_,List.getElem?_eq_getElem hi⟩
  have hb:=ht x (List.mem_of_getElem? hx)
  simp +contextual (disch:=omega) only[Try.f137,dd137,go_sem,↓reduceIte,List.reduceReplicate,Nat.reduceAdd,Nat.reduceSub,reduceCtorEq,Nat.reduceLeDiff,Nat.reduceMul,Nat.reduceLT,Nat.reduceEqDiff,Int.reduceBNe,Int.reduceBEq,Int.reduceEq,Int.reduceLT,Int.reduceLE,Int.reduceGT,Int.reduceGE,mu137,Nat.reduceBEq,↓wrap_up,↓wrap_down,↓wrap_pred,↓wrap_sub_nat,Int.reduceToNat,hx]
  repeat' (first|intro _|apply And.intro|(unfold dOk;kernel_rfl)|exact St.beq_refl _|(show altO _ _ _ _=true;kernel_rfl)|(show (_ || _)=true;kernel_rfl)|(show (_ && _)=true;kernel_rfl))
  all_goals exact(by first|rfl|(simp[keepT,AV.underL,AV.under,MB.under,underL_plain,under_plain,underL_append,plain_ints,plain_span,plain_ins,plain_prg,-List.map_take,-List.map_replicate,-List.map_set, *];done))
 ·intro _
  simp +contextual (disch:=omega) only[Try.f137,dd137,go_sem,↓reduceIte,List.reduceReplicate,Nat.reduceAdd,Nat.reduceSub,reduceCtorEq,Nat.reduceLeDiff,Nat.reduceMul,Nat.reduceLT,Nat.reduceEqDiff,Int.reduceBNe,Int.reduceBEq,Int.reduceEq,Int.reduceLT,Int.reduceLE,Int.reduceGT,Int.reduceGE,mu137,Nat.reduceBEq,↓wrap_up,↓wrap_down,↓wrap_pred,↓wrap_sub_nat,Int.reduceToNat]
  repeat' (first|intro _|apply And.intro|(unfold dOk;kernel_rfl)|exact St.beq_refl _|(show altO _ _ _ _=true;kernel_rfl)|(show (_ || _)=true;kernel_rfl)|(show (_ && _)=true;kernel_rfl))
  all_goals exact fzEq rfl rfl
abbrev bare (n:Nat):Caps:=List.replicate n (-1,-1)
theorem f139 (n:Nat) (hn:n≤1000) (H:List MB):call Try.prog pol1 139 [I n] H=some (capA (bare n),H):=by
 refine call_run Try.func139 rfl rfl rfl rfl rfl rfl (fun _=>rfl) (by simp[AV.plain,AV.plainL]) (show AV.plain (.sl false _)=true from plain_span (bare n)) ?_ H
 simp +contextual (disch:=omega) only[Try.f139,dd139,go_sem,↓reduceIte,List.reduceReplicate,Nat.reduceAdd,Nat.reduceSub,reduceCtorEq,Nat.reduceLeDiff,Nat.reduceMul,Nat.reduceLT,Nat.reduceEqDiff,Int.reduceBNe,Int.reduceBEq,Int.reduceEq,Int.reduceLT,Int.reduceLE,Int.reduceGT,Int.reduceGE,mu139,Nat.reduceBEq,↓wrap_up,↓wrap_down,↓wrap_pred,↓wrap_sub_nat,Int.reduceToNat]
 refine W_count (M:=(mskOf (pol1.mask 139) (pol1.gc 139) (pol1.acts 139) 0 3)) rfl n (fun j=>(⟨15,[(4,I j),(3,.ms 0 2 j 0 j),(0,I n)],[.row 2 ((bare j).map spanAV) 0]⟩:St)) (fun _=>True) ?_ ?_ trivial _ (by first|rfl|(refine prep_cut rfl (by rfl) (by rfl) (by rfl) ?_ ?_<;>simp[AV.underL,AV.under,MB.under,underL_plain,under_plain,plain_ints,plain_span,plain_ins,plain_prg,-List.map_take]))
 ·intro j hj _
  have hl:(bare j).length=j:=by simp
  have hs:bare (j+1)=bare j++[(-1,-1)]:=List.replicate_succ'
  rw[hs]
  generalize bare j=cs at *
  have htk:=take_map_len (f:=spanAV) hl
  simp +contextual (disch:=omega) only[Try.f139,dd139,go_sem,↓reduceIte,List.reduceReplicate,Nat.reduceAdd,Nat.reduceSub,reduceCtorEq,Nat.reduceLeDiff,Nat.reduceMul,Nat.reduceLT,Nat.reduceEqDiff,Int.reduceBNe,Int.reduceBEq,Int.reduceEq,Int.reduceLT,Int.reduceLE,Int.reduceGT,Int.reduceGE,mu139,Nat.reduceBEq,↓wrap_up,↓wrap_down,↓wrap_pred,↓wrap_sub_nat,Int.reduceToNat,hl,htk]
  repeat' (first|intro _|apply And.intro|(unfold dOk;kernel_rfl)|exact St.beq_refl _|(show altO _ _ _ _=true;kernel_rfl)|(show (_ || _)=true;kernel_rfl)|(show (_ && _)=true;kernel_rfl))
  all_goals exact(by first|rfl|(refine prep_to (n:=1) (m:=⟨some [4,3,0],some 1,[]⟩) rfl rfl ?_ ?_ ?_<;>first|rfl|(simp[keepT,AV.underL,AV.under,MB.under,underL_plain,under_plain,underL_append,plain_ints,plain_span,plain_ins,plain_prg,-List.map_take,-List.map_replicate,-List.map_set, *];done)|(simp[keepT,AV.underL,AV.under,MB.under,underL_plain,under_plain,underL_append,plain_ints,plain_span,plain_ins,plain_prg,-List.map_take,-List.map_replicate,-List.map_set, *];omega)))
 ·intro _
  have hl:(bare n).length=n:=by simp
  generalize bare n=cs at *
  simp +contextual (disch:=omega) only[Try.f139,dd139,go_sem,↓reduceIte,List.reduceReplicate,Nat.reduceAdd,Nat.reduceSub,reduceCtorEq,Nat.reduceLeDiff,Nat.reduceMul,Nat.reduceLT,Nat.reduceEqDiff,Int.reduceBNe,Int.reduceBEq,Int.reduceEq,Int.reduceLT,Int.reduceLE,Int.reduceGT,Int.reduceGE,mu139,Nat.reduceBEq,↓wrap_up,↓wrap_down,↓wrap_pred,↓wrap_sub_nat,Int.reduceToNat,hl]
  simp only[fz]
  rw[fzA_row (els:=cs.map spanAV) (k:=2) (z:=0) rfl (by simp[hl]) (plain_span cs)]
  exact⟨_,rfl⟩
def symJ:List Int:=[97,97,97,98,98,99,97,98,10,32,65,200]
def textT (l:List Int) (n:Nat):List Int:=(List.range n).map fun(i:Nat)=>symJ.getD (pickI l i 12).toNat 0
theorem textT_succ (l:List Int) (n:Nat):textT l (n+1)=textT l n++[symJ.getD (pickI l n 12).toNat 0]:=by simp[textT,List.range_succ]
theorem textT_len (l:List Int) (n:Nat):(textT l n).length=n:=by simp[textT]
theorem textT_in (l:List Int) (n:Nat):∀ x∈textT l n,0≤x∧x≤255:=by
 intro x hx
 obtain⟨i,_,rfl⟩:=List.mem_map.1 hx
 have hp:=pick_lt (l:=l) (i:=i) (m:=12) (by omega)
 generalize (pickI l i 12)=k at hp
 have:k=0∨k=1∨k=2∨k=3∨k=4∨k=5∨k=6∨k=7∨k=8∨k=9∨k=10∨k=11:=by omega
 rcases this with rfl|rfl|rfl|rfl|rfl|rfl|rfl|rfl|rfl|rfl|rfl|rfl<;>decide
theorem f122 (l:List Int) (hl:∀ x∈l,In64 x) (H:List MB):call Try.prog pol1 122 [.sl false (l.map I),I 12] H=some (.sl false ((textT l (min l.length 12)).map I),H):=by
 refine call_run Try.func122 rfl rfl rfl rfl rfl rfl (fun _=>rfl) (by simp[AV.plain,AV.plainL,plain_ints]) (by simp[AV.plain,plain_ints]) ?_ H
 simp +contextual (disch:=omega) only[Try.f122,dd122,go_sem,↓reduceIte,List.reduceReplicate,Nat.reduceAdd,Nat.reduceSub,reduceCtorEq,Nat.reduceLeDiff,Nat.reduceMul,Nat.reduceLT,Nat.reduceEqDiff,Int.reduceBNe,Int.reduceBEq,Int.reduceEq,Int.reduceLT,Int.reduceLE,Int.reduceGT,Int.reduceGE,mu122,Nat.reduceBEq,↓wrap_up,↓wrap_down,↓wrap_pred,↓wrap_sub_nat,Int.reduceToNat]
 refine W_count (M:=(mskOf (pol1.mask 122) (pol1.gc 122) (pol1.acts 122) 0 3)) rfl (min l.length 12) (fun j=>(⟨28,[(6,I j),(5,.ms 0 1 j 0 j),(1,I 12),(0,.sl false (l.map I))],[.row 1 ((textT l j).map I) 0]⟩:St)) (fun _=>True) ?_ ?_ trivial _ (by first|rfl|(refine prep_cut rfl (by rfl) (by rfl) (by rfl) ?_ ?_<;>simp[AV.underL,AV.under,MB.under,underL_plain,under_plain,plain_ints,plain_span,plain_ins,plain_prg,-List.map_take]))
 ·intro j hj _
  have ht:=textT_len l j
  have h57:=f57 l j 12 hl (by omega)
  have hp:=pick_lt (l:=l) (i:=j) (m:=12) (by omega)
  rw[textT_succ]
  generalize textT l j=cs at *
  have htk:=take_map_len (f:=I) ht
  generalize pickI l j 12=k at *
  obtain⟨v,hv⟩:∃ v,symJ[k.toNat]?=some v:=⟨_,List.getElem?_eq_getElem (by simp[symJ];omega)⟩
  rw[List.getD_eq_getElem?_getD,hv,Option.getD_some]
  obtain⟨k,rfl⟩:∃ n:Nat,k=n:=⟨k.toNat,by omega⟩
  have hv2:[I 97,I 97,I 97,I 98,I 98,I 99,I 97,I 98,I 10,I 32,I 65,I 200][k]?=some (I v):=by
   have:symJ.map I=[I 97,I 97,I 97,I 98,I 98,I 99,I 97,I 98,I 10,I 32,I 65,I 200]:=rfl
   rw[← this,List.getElem?_map]
   simpa using congrArg (Option.map I) hv
  have c1:j < l.length:=by omega
  have c2:j < 12:=by omega
  simp +contextual (disch:=omega) only[Try.f122,dd122,go_sem,↓reduceIte,List.reduceReplicate,Nat.reduceAdd,Nat.reduceSub,reduceCtorEq,Nat.reduceLeDiff,Nat.reduceMul,Nat.reduceLT,Nat.reduceEqDiff,Int.reduceBNe,Int.reduceBEq,Int.reduceEq,Int.reduceLT,Int.reduceLE,Int.reduceGT,Int.reduceGE,mu122,Nat.reduceBEq,↓wrap_up,↓wrap_down,↓wrap_pred,↓wrap_sub_nat,Int.reduceToNat,ht,htk,h57,hv2]
  repeat' (first|intro _|apply And.intro|(unfold dOk;kernel_rfl)|exact St.beq_refl _|(show altO _ _ _ _=true;kernel_rfl)|(show (_ || _)=true;kernel_rfl)|(show (_ && _)=true;kernel_rfl))
  all_goals exact(by first|rfl|(refine prep_to (n:=1) (m:=⟨some [6,5,1,0],some 1,[]⟩) rfl rfl ?_ ?_ ?_<;>first|rfl|(simp[keepT,AV.underL,AV.under,MB.under,underL_plain,under_plain,underL_append,plain_ints,plain_span,plain_ins,plain_prg,-List.map_take,-List.map_replicate,-List.map_set, *];done)|(simp[keepT,AV.underL,AV.under,MB.under,underL_plain,under_plain,underL_append,plain_ints,plain_span,plain_ins,plain_prg,-List.map_take,-List.map_replicate,-List.map_set, *];omega)))
 ·intro _
  have ht:=textT_len l (min l.length 12)
  generalize textT l (min l.length 12)=cs at *
  by_cases c:l.length < 12
  ·rw[Nat.min_eq_left (by omega)]at *
   simp +contextual (disch:=omega) only[Try.f122,dd122,go_sem,↓reduceIte,List.reduceReplicate,Nat.reduceAdd,Nat.reduceSub,reduceCtorEq,Nat.reduceLeDiff,Nat.reduceMul,Nat.reduceLT,Nat.reduceEqDiff,Int.reduceBNe,Int.reduceBEq,Int.reduceEq,Int.reduceLT,Int.reduceLE,Int.reduceGT,Int.reduceGE,mu122,Nat.reduceBEq,↓wrap_up,↓wrap_down,↓wrap_pred,↓wrap_sub_nat,Int.reduceToNat,ht]
   simp only[fz]
   rw[fzA_row (els:=cs.map I) (k:=1) (z:=0) rfl (by simp[ht]) (plain_ints cs)]
   exact⟨_,rfl⟩
  ·rw[Nat.min_eq_right (by omega)]at *
   by_cases c2:12=l.length
   ·simp +contextual (disch:=omega) only[Try.f122,dd122,go_sem,↓reduceIte,List.reduceReplicate,Nat.reduceAdd,Nat.reduceSub,reduceCtorEq,Nat.reduceLeDiff,Nat.reduceMul,Nat.reduceLT,Nat.reduceEqDiff,Int.reduceBNe,Int.reduceBEq,Int.reduceEq,Int.reduceLT,Int.reduceLE,Int.reduceGT,Int.reduceGE,mu122,Nat.reduceBEq,↓wrap_up,↓wrap_down,↓wrap_pred,↓wrap_sub_nat,Int.reduceToNat,ht]
    repeat' (first|intro _|apply And.intro|(unfold dOk;kernel_rfl)|exact St.beq_refl _|(show altO _ _ _ _=true;kernel_rfl)|(show (_ || _)=true;kernel_rfl)|(show (_ && _)=true;kernel_rfl))
    all_goals simp only[fz]
    all_goals rw[fzA_row (els:=cs.map I) (k:=1) (z:=0) rfl (by simp[ht]) (plain_ints cs)]
    all_goals exact⟨_,rfl⟩
   ·simp +contextual (disch:=omega) only[Try.f122,dd122,go_sem,↓reduceIte,List.reduceReplicate,Nat.reduceAdd,Nat.reduceSub,reduceCtorEq,Nat.reduceLeDiff,Nat.reduceMul,Nat.reduceLT,Nat.reduceEqDiff,Int.reduceBNe,Int.reduceBEq,Int.reduceEq,Int.reduceLT,Int.reduceLE,Int.reduceGT,Int.reduceGE,mu122,Nat.reduceBEq,↓wrap_up,↓wrap_down,↓wrap_pred,↓wrap_sub_nat,Int.reduceToNat,ht]
    repeat' (first|intro _|apply And.intro|(unfold dOk;kernel_rfl)|exact St.beq_refl _|(show altO _ _ _ _=true;kernel_rfl)|(show (_ || _)=true;kernel_rfl)|(show (_ && _)=true;kernel_rfl))
    all_goals simp only[fz]
    all_goals rw[fzA_row (els:=cs.map I) (k:=1) (z:=0) rfl (by simp[ht]) (plain_ints cs)]
    all_goals exact⟨_,rfl⟩
end
section
attribute [local go_sem] ty26 ty53 ty112 ty192 ty193 ty195 ty197 ty199
open Go.Proofs Go.RowKit Go.IntWalk
set_option maxRecDepth 100000
set_option maxHeartbeats 8000000
def matsG (at_:Int) (es:List Int) (cs:List Caps) (n:Nat):List AV:=(List.range n).map fun i=>matAV at_ (es.getD i 0) (cs.getD i [])
theorem matsG_succ (at_:Int) (es:List Int) (cs:List Caps) (n:Nat):matsG at_ es cs (n+1)=matsG at_ es cs n++[matAV at_ (es.getD n 0) (cs.getD n [])]:=by simp[matsG,List.range_succ]
theorem matsG_len (at_:Int) (es:List Int) (cs:List Caps) (n:Nat):(matsG at_ es cs n).length=n:=by simp[matsG]
theorem plain_matsG (at_:Int) (es:List Int) (cs:List Caps) (n:Nat):AV.plainL (matsG at_ es cs n)=true:=by
 rw[plainL_iff]
 intro x hx
 obtain⟨i,_,rfl⟩:=List.mem_map.1 hx
 exact plain_mat _ _ _
theorem f137e (re:Re) (caps:Int) (t:List Int) (fuel:Int) (hw:re.wt≤1000000) (hv:validP ⟨re,caps,false⟩≠0) (H:List MB) :
  call Try.prog pol1 137 [patAV ⟨re,caps,false⟩,.sl false (t.map I),I fuel] H=some (I (validP ⟨re,caps,false⟩),H):=by
 have h52:=f52 ⟨re,caps,false⟩ hw
 generalize validP ⟨re,caps,false⟩=v at *
 have hpl:=plain_patC ⟨re,caps,false⟩
 refine call_run Try.func137 rfl rfl rfl rfl rfl rfl (fun _=>rfl) (by simp[AV.plainL,AV.plain,plain_ints];exact hpl) rfl ?_ H
 have hl8:=reC_len re
 have hget9:(reC re++[I caps,.bool false])[9]?=some (.bool false):=by rw[List.getElem?_append_right (by omega),hl8];rfl
 have htk:List.take 10 (reC re++[I caps,.bool false])=reC re++[I caps,.bool false]:=List.take_of_length_le (by simp[reC_len])
 have hall:=reC_ok re
 simp +contextual (disch:=omega) only[Try.f137,dd137,go_sem,↓reduceIte,List.reduceReplicate,Nat.reduceAdd,Nat.reduceSub,reduceCtorEq,Nat.reduceLeDiff,Nat.reduceMul,Nat.reduceLT,Nat.reduceEqDiff,Int.reduceBNe,Int.reduceBEq,Int.reduceEq,Int.reduceLT,Int.reduceLE,Int.reduceGT,Int.reduceGE,mu137,Nat.reduceBEq,↓wrap_up,↓wrap_down,↓wrap_pred,↓wrap_sub_nat,Int.reduceToNat,h52,hl8,hget9,htk,hall,List.all_append]
 repeat' (first|intro _|apply And.intro|(unfold dOk;kernel_rfl)|exact St.beq_refl _|(show altO _ _ _ _=true;kernel_rfl)|(show (_ || _)=true;kernel_rfl)|(show (_ && _)=true;kernel_rfl))
 all_goals exact⟨_,rfl⟩
theorem f123e (re:Re) (n:Nat) (t:List Int) (at_:Nat) (fuel:Int) (hw:re.wt≤1000000) (hv:validP ⟨re,n,false⟩≠0) (H:List MB) :
  call Try.prog pol1 123 [patAV ⟨re,n,false⟩,.sl false (t.map I),I at_,I (-1),I fuel] H=some (.tup [.sl false [],I 0,I (validP ⟨re,n,false⟩)],H):=by
 have h137:=f137e re n t fuel hw hv
 generalize validP ⟨re,n,false⟩=v at *
 have hpl:=plain_patC ⟨re,n,false⟩
 have hl8:=reC_len re
 have htk:List.take 10 (reC re++[I n,.bool false])=reC re++[I n,.bool false]:=List.take_of_length_le (by simp[reC_len])
 have hall:=reC_ok re
 refine call_run Try.func123 rfl rfl rfl rfl rfl rfl (fun _=>rfl) (by simp[AV.plainL,AV.plain,plain_ints];exact hpl) rfl ?_ H
 simp +contextual (disch:=omega) only[Try.f123,dd123,go_sem,↓reduceIte,List.reduceReplicate,Nat.reduceAdd,Nat.reduceSub,reduceCtorEq,Nat.reduceLeDiff,Nat.reduceMul,Nat.reduceLT,Nat.reduceEqDiff,Int.reduceBNe,Int.reduceBEq,Int.reduceEq,Int.reduceLT,Int.reduceLE,Int.reduceGT,Int.reduceGE,mu123,Nat.reduceBEq,↓wrap_up,↓wrap_down,↓wrap_pred,↓wrap_sub_nat,Int.reduceToNat,h137,hl8,htk,hall,List.all_append]
 repeat' (first|intro _|apply And.intro|(unfold dOk;kernel_rfl)|exact St.beq_refl _|(show altO _ _ _ _=true;kernel_rfl)|(show (_ || _)=true;kernel_rfl)|(show (_ && _)=true;kernel_rfl))
 all_goals exact⟨_,rfl⟩
theorem f123 (re:Re) (n:Nat) (t:List Int) (at_:Nat) (fuel:Int) (hw:re.wt≤1000000) (hv:validP ⟨re,n,false⟩=0) (hn:n≤1000) (hl:t.length≤65536) (ht:∀ x∈t,0≤x∧x≤255) (hf:0≤fuel∧fuel≤1000000)
  (hr:RGood n 255 re) (hc:lpG re=true) (ha:at_≤t.length) :
  ∃(out:AV) (k e:Int),AV.plain out=true∧(e=0∨e=11)∧(e=0→(costR t re at_:Int)≤fuel)∧∀ H,call Try.prog pol1 123 [patAV ⟨re,n,false⟩,.sl false (t.map I),I at_,I (-1),I fuel] H=some (.tup [out,I k,I e],H):=by
 have h137:=f137 re n t fuel hw hv hl ht hf
 have h139:=f139 n hn
 have hs0:SPre fuel (⟨0,false,[],[]⟩:SS):=⟨rfl,⟨Int.le_refl _,hf.1⟩,rfl,by simp⟩
 have hg0:GG n 255 t.length (0:Int) (.mk 0 re 0 0 .nil):=⟨hr,.inl rfl,⟨Int.le_refl _,by omega⟩,trivial⟩
 obtain⟨d,b,s,hrun,hpost,hst⟩:=re_run n 255 t fuel re hr hc 0 0 .nil at_ (fun _=>0) ha (fun j hj=>RT.nil (outs_in t re at_ ha j hj).2) (bare n) ⟨0,false,[],[]⟩ hg0 (by simp;omega) hs0
 have hsum:((outs t re at_).map fun _=>0).sum=0:=by
  induction outs t re at_ with
  | nil=>rfl
  | cons a l ih=>simp[ih]
 rw[hsum]at hst
 have h138:=(box138 [.row 10 [patAV ⟨re,n,false⟩] 0] [] t fuel ⟨0,false,[],[]⟩ 0 (goalC 0 re 0 0 .nil) at_ (bare n) (plain_goalC 0 re 0 0 .nil)).trans
  (run138 hl hf d [.row 10 [patAV ⟨re,n,false⟩] 0] [MB.row 12 [.agg (goalC 0 re 0 0 .nil)] 1] (.mk 0 re 0 0 .nil) at_ (bare n) ⟨0,false,[],[]⟩ b s hg0 (by omega) (by omega) (by simp;omega) hs0 hrun)
 have hcl:=hpost.cl
 have hel:=hpost.el
 have hfu:=hpost.fu
 have heb:=hpost.eb
 obtain⟨steps,empty,ends,caps⟩:=s
 simp only at hcl hel hfu heb hst
 simp only[srH,goalC,goalA,sB,List.length_cons,List.length_nil,List.map_nil,List.cons_append,List.nil_append,Nat.reduceAdd,Nat.zero_add]at h138
 have hpl:=plain_patC ⟨re,n,false⟩
 have hl8:=reC_len re
 have hget8:(reC re++[I n,.bool false])[8]?=some (I n):=by rw[List.getElem?_append_right (by omega),hl8];rfl
 have htk:List.take 10 (reC re++[I n,.bool false])=reC re++[I n,.bool false]:=List.take_of_length_le (by simp[reC_len])
 have htk8:∀ l,List.take 8 (reC re++l)=reC re:=fun l=>by
  rw[List.take_append_of_le_length (by omega)];exact List.take_of_length_le (by omega)
 have hall:=reC_ok re
 subst heb
 cases b with
 | true=>
   refine⟨.sl false [],0,11,rfl,.inr rfl,fun h=>by omega,?_⟩
   refine fun H=>call_run Try.func123 rfl rfl rfl rfl rfl rfl (fun _=>rfl) (by simp[AV.plainL,AV.plain,plain_ints];exact hpl) rfl ?_ H
   simp +contextual (disch:=omega) only[Try.f123,dd123,go_sem,↓reduceIte,List.reduceReplicate,Nat.reduceAdd,Nat.reduceSub,reduceCtorEq,Nat.reduceLeDiff,Nat.reduceMul,Nat.reduceLT,Nat.reduceEqDiff,Int.reduceBNe,Int.reduceBEq,Int.reduceEq,Int.reduceLT,Int.reduceLE,Int.reduceGT,Int.reduceGE,mu123,Nat.reduceBEq,↓wrap_up,↓wrap_down,↓wrap_pred,↓wrap_sub_nat,Int.reduceToNat,h137,h139,h138,hl8,hget8,htk,htk8,hall,List.all_append]
   repeat' (first|intro _|apply And.intro|(unfold dOk;kernel_rfl)|exact St.beq_refl _|(show altO _ _ _ _=true;kernel_rfl)|(show (_ || _)=true;kernel_rfl)|(show (_ && _)=true;kernel_rfl))
   all_goals exact⟨_,rfl⟩
 | false=>
   refine⟨.sl false (matsG at_ ends caps ends.length),steps,0,plain_matsG _ _ _ _,.inl rfl,fun _=>by have:=hst rfl;have:=hfu rfl;omega,?_⟩
   refine fun H=>call_run Try.func123 rfl rfl rfl rfl rfl rfl (fun _=>rfl) (by simp[AV.plainL,AV.plain,plain_ints];exact hpl) (by simp[AV.plain,AV.plainL,plain_matsG]) ?_ H
   simp +contextual (disch:=omega) only[Try.f123,dd123,go_sem,↓reduceIte,List.reduceReplicate,Nat.reduceAdd,Nat.reduceSub,reduceCtorEq,Nat.reduceLeDiff,Nat.reduceMul,Nat.reduceLT,Nat.reduceEqDiff,Int.reduceBNe,Int.reduceBEq,Int.reduceEq,Int.reduceLT,Int.reduceLE,Int.reduceGT,Int.reduceGE,mu123,Nat.reduceBEq,↓wrap_up,↓wrap_down,↓wrap_pred,↓wrap_sub_nat,Int.reduceToNat,h137,h139,h138,hl8,hget8,htk,htk8,hall,List.all_append]
   repeat' (first|intro _|apply And.intro|(unfold dOk;kernel_rfl)|exact St.beq_refl _|(show altO _ _ _ _=true;kernel_rfl)|(show (_ || _)=true;kernel_rfl)|(show (_ && _)=true;kernel_rfl))
   have u1:∀ m,AV.underL m (reC re)=true:=fun m=>underL_plain _ _ (plain_reC re)
   have hE:ends.length≤300000000:=by have:=hfu rfl;simp only[List.length_nil]at hel;omega
   refine W_count (M:=(mskOf (pol1.mask 123) (pol1.gc 123) (pol1.acts 123) 0 12)) rfl ends.length (fun j=>(⟨84,[(16,I j),(15,.ms 5 3 j 0 j),(14,.rf 1 1 0 0),(2,I at_)],[.row 10 [patAV ⟨re,n,false⟩] 0,
    .row 7 [.agg [.sl false (t.map I),I (-1),I fuel,I steps,.bool false,.ms 2 1 ends.length 0 ends.length,.ms 3 1 ends.length 0 ends.length]] 0,.row 1 (ends.map I) 0,.row 1 (caps.map capA) 0,
    .row 12 [.agg (goalC 0 re 0 0 .nil)] 1,.row 3 (matsG at_ ends caps j) 0]⟩:St)) (fun _=>True) ?_ ?_ trivial _ ?_
   ·intro j hj _
    obtain⟨a,ha⟩:∃ a,ends[j]?=some a:=⟨_,List.getElem?_eq_getElem (by omega)⟩
    obtain⟨c,hc⟩:∃ c,caps[j]?=some c:=⟨_,List.getElem?_eq_getElem (by omega)⟩
    have hm:=matsG_len at_ ends caps j
    have hpm:=plain_matsG at_ ends caps j
    rw[matsG_succ,List.getD_eq_getElem?_getD,List.getD_eq_getElem?_getD,ha,hc]
    simp only[Option.getD_some]
    generalize matsG at_ ends caps j=ms at *
    have htk:List.take j ms=ms:=List.take_of_length_le (by omega)
    simp +contextual (disch:=omega) only[Try.f123,dd123,go_sem,↓reduceIte,List.reduceReplicate,Nat.reduceAdd,Nat.reduceSub,reduceCtorEq,Nat.reduceLeDiff,Nat.reduceMul,Nat.reduceLT,Nat.reduceEqDiff,Int.reduceBNe,Int.reduceBEq,Int.reduceEq,Int.reduceLT,Int.reduceLE,Int.reduceGT,Int.reduceGE,mu123,Nat.reduceBEq,↓wrap_up,↓wrap_down,↓wrap_pred,↓wrap_sub_nat,Int.reduceToNat,ha,hc,hm,hcl,matAV,htk]
    repeat' (first|intro _|apply And.intro|(unfold dOk;kernel_rfl)|exact St.beq_refl _|(show altO _ _ _ _=true;kernel_rfl)|(show (_ || _)=true;kernel_rfl)|(show (_ && _)=true;kernel_rfl))
    all_goals (refine prep_to (n:=6) (m:=⟨some [16,15,14,2],some 6,[]⟩) rfl rfl ?_ ?_ ?_<;>simp[keepT,AV.underL,AV.under,MB.under,underL_plain,under_plain,underL_append,plain_ints,plain_span,-List.map_take,u1,plain_caps,hpm,htk]<;>rfl)
   ·intro _
    have hm:=matsG_len at_ ends caps ends.length
    have hpm:=plain_matsG at_ ends caps ends.length
    generalize matsG at_ ends caps ends.length=ms at *
    simp +contextual (disch:=omega) only[Try.f123,dd123,go_sem,↓reduceIte,List.reduceReplicate,Nat.reduceAdd,Nat.reduceSub,reduceCtorEq,Nat.reduceLeDiff,Nat.reduceMul,Nat.reduceLT,Nat.reduceEqDiff,Int.reduceBNe,Int.reduceBEq,Int.reduceEq,Int.reduceLT,Int.reduceLE,Int.reduceGT,Int.reduceGE,mu123,Nat.reduceBEq,↓wrap_up,↓wrap_down,↓wrap_pred,↓wrap_sub_nat,Int.reduceToNat,hm]
    repeat' (first|intro _|apply And.intro|(unfold dOk;kernel_rfl)|exact St.beq_refl _|(show altO _ _ _ _=true;kernel_rfl)|(show (_ || _)=true;kernel_rfl)|(show (_ && _)=true;kernel_rfl))
    simp only[fz,fzA_tup,fzL,fzA_int]
    rw[fzA_row (els:=ms) (k:=3) (z:=0) rfl hm hpm]
    exact⟨_,rfl⟩
   ·refine prep_cut rfl (by rfl) (by rfl) (by rfl) ?_ ?_<;>simp[AV.underL,AV.under,MB.under,underL_plain,under_plain,plain_ints,plain_span,plain_caps,underL_append,u1,-List.map_take]
    all_goals exact⟨rfl,rfl⟩
end
mutual
def genG (cap:Bool):Re→Bool
 | .mk op set kids mn mx md n neg=>(decide (op=0∨op=1∨op=2∨op=3∨op=4∨op=11) || (cap && decide (op=5))) && decide (md=0∨md=1) && !(decide (op=4) && nullHd kids) && genL cap kids
def genL (cap:Bool):List Re→Bool
 | []=>true
 | k::ks=>genG cap k && genL cap ks
end
theorem genL_iff (cap:Bool):∀ l:List Re,genL cap l=true↔∀ k∈l,genG cap k=true
 | []=>by simp[genL]
 | k::ks=>by simp[genL,genL_iff cap ks]
mutual
theorem gen_facts (cap:Bool):∀ r:Re,genG cap r=true→codable r=true∧noPoss r=true∧lpG r=true
 | .mk op set kids mn mx md n neg,h=>by
   simp only[genG,Bool.and_eq_true,Bool.or_eq_true,decide_eq_true_eq]at h
   obtain⟨a,b,c⟩:=genL_facts cap kids h.2
   refine⟨?_,?_,?_⟩
   ·rw[codable,a,Bool.and_true,Bool.or_eq_true,decide_eq_true_eq,beq_iff_eq];omega
   ·rw[noPoss,b,Bool.and_true,decide_eq_true_eq];omega
   ·rw[lpG,c,Bool.and_true];exact h.1.2
theorem genL_facts (cap:Bool):∀ l:List Re,genL cap l=true→codableL l=true∧noPossL l=true∧lpL l=true
 | [],_=>⟨rfl,rfl,rfl⟩
 | k::ks,h=>by
   rw[genL,Bool.and_eq_true]at h
   obtain⟨a,b,c⟩:=gen_facts cap k h.1
   obtain⟨a',b',c'⟩:=genL_facts cap ks h.2
   exact⟨by rw[codableL,a,a'];rfl,by rw[noPossL,b,b'];rfl,by rw[lpL,c,c'];rfl⟩
end
mutual
theorem gen_comp:∀(r:Re) (ins:List Int),genG false r=true→compG ins r=true
 | .mk op set kids mn mx md n neg,ins,h=>by
   simp only[genG,Bool.and_eq_true,Bool.or_eq_true,decide_eq_true_eq,Bool.false_and,Bool.false_eq_true,or_false]at h
   have hk:=genL_comp kids ins h.2
   have h4:=h.1.2
   rw[compG,if_neg,if_neg (by omega),if_neg (by omega)]
   ·exact hk
   ·rintro⟨rfl,h5|h5⟩
    ·omega
    ·rw[h5]at h4;simp at h4
theorem genL_comp:∀(l:List Re) (ins:List Int),genL false l=true→compL ins l=true
 | [],_,_=>rfl
 | k::ks,ins,h=>by
   rw[genL,Bool.and_eq_true]at h
   rw[compL,gen_comp k ins h.1,genL_comp ks ins h.2];rfl
end
theorem stK_all {P:Re→Prop} (l:List Int) {tr:MS→Re×MS} (h:∀ s,P (tr s).1) (s:MS):∀ i,∀ k∈(stK l tr s i).1,P k
 | 0,k,hk=>by simp[stK]at hk
 | i+1,k,hk=>by
   rw[stK]at hk
   rcases List.mem_append.1 hk with hk|hk
   ·exact stK_all l h s i k hk
   ·rw[List.mem_singleton.1 hk];exact h _
theorem stK_ln (l:List Int) (tr:MS→Re×MS) (s:MS):∀ i,(stK l tr s i).1.length=i
 | 0=>rfl
 | i+1=>by rw[stK,List.length_append,stK_ln l tr s i];rfl
theorem kidsF_all {P:Re→Prop} (l:List Int) {tr:MS→Re×MS} (h:∀ s,P (tr s).1) (s:MS):(∀ k∈(kidsF l tr s).1,P k)∧(kidsF l tr s).1.length≤3∧2≤(kidsF l tr s).1.length:=by
 unfold kidsF
 split
 ·exact⟨stK_all l h s 3,by rw[stK_ln];omega,by rw[stK_ln];omega⟩
 ·exact⟨stK_all l h s 2,by rw[stK_ln];omega,by rw[stK_ln];omega⟩
theorem gen_set (cap:Bool) (l:List Int) (s:MS):genG cap (setM l s).1=true:=by
 simp[setM,genG,genL]
theorem null_set (l:List Int) (s:MS):nullG (setM l s).1=false:=by
 unfold setM;simp only;rw[nullG];simp
structure Uses (uses:Int):Prop where
 u1:¬ 0 < andI uses 1
 u2:¬ 0 < andI uses 2
 u4:¬ 0 < andI uses 4
 u8:¬ 0 < andI uses 8
 u32:andI uses 32=0
theorem uses80:Uses 80:=⟨by decide,by decide,by decide,by decide,by decide⟩
theorem uses16:Uses 16:=⟨by decide,by decide,by decide,by decide,by decide⟩
theorem tree_gen {uses:Int} (hu:Uses uses) (l:List Int):∀ d s,genG (decide (0 < andI uses 64)) (treeF l uses d s).1=true
 | 0,s=>by
   rw[treeF];unfold leafF
   split
   ·simp[genG,genL]
   ·exact gen_set _ l _
 | d+1,s=>by
   have ih:=tree_gen hu l d
   have hk:=fun s=>kidsF_all (P:=fun k=>genG (decide (0 < andI uses 64)) k=true) l ih s
   rw[treeF]
   generalize nx l 20 ⟨s.at_,s.left - 1,s.caps⟩=Y
   obtain⟨k,s1⟩:=Y
   unfold treeStep
   simp only
   split
   ·unfold leafF
    split
    ·simp[genG,genL]
    ·exact gen_set _ l _
   split
   ·have:=(genL_iff (decide (0 < andI uses 64)) _).2 (hk s1).1
    simp[genG,this]
   split
   ·have:=(genL_iff (decide (0 < andI uses 64)) _).2 (hk s1).1
    simp[genG,this]
   split
   ·unfold repF
    simp only[if_neg hu.u8,hu.u32,true_and]
    have hm:=nx_val l (n:=2) (by omega) (nx l 12 s1).2
    generalize nx l 2 (nx l 12 s1).2=m at *
    have hm2:m.1=0∨m.1=1:=by omega
    by_cases hn:nullG (treeF l uses d m.2).1=true
    ·rw[if_pos hn]
     simp only[genG,genL,gen_set,nullHd,null_set]
     simp[hm2]
    ·rw[if_neg hn]
     simp only[genG,genL,ih,nullHd,hn]
     simp[hm2]
   split
   ·rename_i hc
    have hcap:∀(q:Int) (s:MS),genG (decide (0 < andI uses 64)) (.mk 5 [] [(treeF l uses d s).1] 0 0 0 q false)=true:=fun q s=>by
     have:=ih s
     simp only[hc.2,decide_true]at this ⊢
     simp[genG,genL,this]
    exact hcap _ _
   split
   ·simp[genG,genL]
   split
   ·rename_i hc;exact absurd hc.2 hu.u4
   split
   ·rename_i hc;exact absurd hc.2 hu.u8
   split
   ·rename_i hc;exact absurd hc.2.1 hu.u1
   split
   ·rename_i hc;exact absurd hc.2.1 hu.u2
   ·exact gen_set _ l _
def mL1:Nat→Nat
 | 0=>1
 | d+1=>3 * mL1 d+4
theorem mL1_pos:∀ d,1≤mL1 d
 | 0=>Nat.le_refl _
 | d+1=>by rw[mL1];omega
theorem len_set (l:List Int) (s:MS):lenG (setM l s).1=1:=by simp[setM,lenG]
theorem lenL_le {M:Nat}:∀ l:List Re,(∀ k∈l,lenG k≤M)→lenL l≤l.length * M
 | [],_=>by simp[lenL]
 | k::ks,h=>by
   have h1:=h k (by simp)
   have h2:=lenL_le ks (fun q hq=>h q (by simp[hq]))
   rw[lenL,List.length_cons,Nat.add_mul];omega
theorem tree_len {uses:Int} (hu:Uses uses) (l:List Int):∀ d s,lenG (treeF l uses d s).1≤mL1 d
 | 0,s=>by
   rw[treeF];unfold leafF
   split
   ·simp[lenG,lenL]
   ·rw[len_set];exact Nat.le_refl _
 | d+1,s=>by
   have ih:=tree_len hu l d
   have hk:=fun s=>kidsF_all (P:=fun k=>lenG k≤mL1 d) l ih s
   have hp:=mL1_pos d
   have kl:∀ s,lenL (kidsF l (treeF l uses d) s).1≤3 * mL1 d:=fun s=>Nat.le_trans (lenL_le _ (hk s).1) (Nat.mul_le_mul_right _ (hk s).2.1)
   rw[treeF]
   generalize nx l 20 ⟨s.at_,s.left - 1,s.caps⟩=Y
   obtain⟨k,s1⟩:=Y
   have kl1:=kl s1
   have hk1:=(hk s1).2
   unfold treeStep
   simp only
   rw[show mL1 (d+1)=3 * mL1 d+4 from rfl]
   split
   ·unfold leafF
    split
    ·simp[lenG,lenL]
    ·rw[len_set];omega
   split
   ·simp[lenG];omega
   split
   ·simp[lenG];omega
   split
   ·unfold repF
    simp only[if_neg hu.u8,hu.u32,true_and]
    have h12:=nx_val l (n:=12) (by omega) s1
    generalize (nx l 12 s1)=q at *
    have hkid:∀ s,lenG (if nullG (treeF l uses d s).1=true then setM l (treeF l uses d s).2 else treeF l uses d s).1≤mL1 d:=fun s=>by
     split
     ·rw[len_set];omega
     ·exact ih s
    have h1:=hkid (nx l 2 q.2).2
    generalize (if nullG (treeF l uses d (nx l 2 q.2).2).1=true then setM l (treeF l uses d (nx l 2 q.2).2).2 else treeF l uses d (nx l 2 q.2).2).1=kid at *
    obtain⟨q1,q2⟩:=q
    simp only at h12 ⊢
    have:q1=0∨q1=1∨q1=2∨q1=3∨q1=4∨q1=5∨q1=6∨q1=7∨q1=8∨q1=9∨q1=10∨q1=11:=by omega
    rcases this with rfl|rfl|rfl|rfl|rfl|rfl|rfl|rfl|rfl|rfl|rfl|rfl<;>simp[lenG,lenL]<;>omega
   split
   ·unfold capF
    have hcap:∀(q:Int) (s:MS),lenG (.mk 5 [] [(treeF l uses d s).1] 0 0 0 q false)≤3 * mL1 d+4:=fun q s=>by
     have:=ih s
     simp[lenG,lenL];omega
    exact hcap _ _
   split
   ·simp[lenG]
   split
   ·rename_i hc;exact absurd hc.2 hu.u4
   split
   ·rename_i hc;exact absurd hc.2 hu.u8
   split
   ·rename_i hc;exact absurd hc.2.1 hu.u1
   split
   ·rename_i hc;exact absurd hc.2.1 hu.u2
   ·rw[len_set];omega
end Go.Ev
