/- Functions of the program, each with what it computes; no further conditions. -/
import Derived.Test.YtjgmfjneajcbmaaGreatR06
import Derived.Test.YtjgmfjneajcbmaaGreatR17
import Derived.Test.YtjgmfjneajcbmaaGreatR12
import Derived.Test.YtjgmfjneajcbmaaGreatR15
set_option linter.unusedVariables false
set_option linter.unusedSimpArgs false
namespace Go.Ev
attribute [local go_sem] eq_self bindW_some bindW_map bindW_ite bindW_iteN W_seq W_region W_draw W_cond W_condK W_ret W_skip W_exit W_scope W_label W_block blockK_norm blockK_ret blockK_exit WO_nil WO_cons WO_guard WD_nil WD_cons WD_guard guardV guardW_boolT guardW_boolF guardW_tup fpL_some fpL_none footprint footprint0 fineF thenK_norm thenK_ret thenK_exit put_some put_none ev_tmp ev_con ev_func ofK_int ofK_bool ofK_str ofK_nil ofK_agg ofC_int ofC_bool ofC_str ofC_nil ofC_nilp one_int one_bool one_str one_nil one_nilp evOp evBuiltin evCall evLen getElem_16 getElem_4 List.length_cons List.length_nil List.cons_append List.nil_append List.append_nil if_false if_true Bool.false_eq_true Bool.true_eq_false Option.map_some Option.map_none List.map_cons List.map_nil evBinOp evBin evUn asB_bool splitB_decide splitB_true splitB_false splitB_beq splitB_bne splitB_not endK_ret endK_norm List.getElem?_cons_zero List.getElem?_cons_succ evResults evResult packRes retK_norm retK_ret cellsAt mkVal evFieldAddr evField evIndexAddr evPart evStore evBuild evBuildSlice fillC fillE evSlice evMakeSlice evConvert getRow List.head?_cons List.drop_zero List.drop_succ_cons List.take_zero List.take_succ_cons List.drop_nil List.take_nil List.all_cons List.all_nil AV.ok Bool.and_self Bool.and_true Bool.true_and and_self and_true true_and Nat.zero_add Nat.add_zero setCells splice pairsOk pairsX altW_none altW_some cfg_al WI_nil WI_cons FP.apart heapEq_refl sameAt_refl Bool.or_true Bool.true_or Bool.or_false srcElems elemsOf mutDst indDst evLenH evMapUpd evLookup getMp keyOk resOk strOf roundK_norm roundK_exit roundK_ret List.length_map List.getElem?_map Int.toNat_natCast decide_true decide_false Bool.not_true Bool.not_false List.set set_0 set_1 set_2 set_3 set_4 look_hit look lookD_hit lookD_cons lookD_nil ins_hit ins upd_hit upd rem1_hit rem1 dropT dropSt_eq initT cfg_dd cfg_bd cfg_ra actL_nil actL_cons act1 updT_hit updT frzB retE_norm retE_ret bndO bnd evEq eqCells not_false_eq_true not_true_eq_false toList_some Array.size_empty List.length_append List.map_append endE_norm endE_ret head_take1 List.contains_nil List.contains_cons Bool.or_self dlt_t dlt_f dle_t dle_f dgt_t dgt_f dge_t dge_f beq_t beq_f bne_t bne_f lt_T le_T nle_T nle_F Go.IntWalk.i64_in Go.IntWalk.i64_quo Go.IntWalk.rem_in ty0 ty3 ty4
section
attribute [local go_sem] AV.cells tySzE List.head?_drop Nat.mul_one sameAt_zero sameAt_two sameAt_three sameAt_four sameAt_five room_ok ty24 ty26 ty31 ty87
open Go.Proofs Go.RowKit Go.IntWalk
set_option maxRecDepth 100000
set_option maxHeartbeats 8000000
theorem ins_cells (l:List Ins):(l.map insAV).all (fun y=>decide (y.cells.length=5) && y.cells.all AV.ok)=true:=by
 rw[List.all_eq_true]
 intro x hx
 obtain⟨i,_,rfl⟩:=List.mem_map.1 hx
 rfl
theorem app_row {H:List MB} {i j n m z z2:Nat} {els:List AV} {l:List Ins} (hi:getRow H i=some (5,els,z)) (hj:getRow H j=some (5,l.map insAV,z2)) (hn:els.length=n) (hm:l.length=m) (hz:z≤n) (hr:n+m≤4000000000) :
  evAppend Tryz.prog H 31 31 (.ms i 5 n 0 n) (.ms j 5 m 0 m)=some (.ms i 5 (n+m) 0 (n+m),H.set i (.row 5 (els++l.map insAV) z)):=by
 have hl:(l.map insAV).length=m:=by simp[hm]
 have hs:srcElems Tryz.prog H 87 (.ms j 5 m 0 m)=some (l.map insAV):=by
  simp only[srcElems,elemsOf,hj,hl,Nat.zero_add,Nat.le_refl,and_self,if_true,List.drop_zero]
  rw[List.take_of_length_le (by omega)]
 rw[evAppend_end (e:=87) (by kernel_rfl) (by kernel_rfl) (k:=5) (by kernel_rfl) (by_:=56) (by kernel_rfl) (ze:=.agg [I 0,I 0,I 0,I 0,.sl true []]) (by kernel_rfl) rfl (by omega) hs (ins_cells l) hi hn hz (by rw[hl];exact room_ok hr (by omega)),hl]
theorem app_one {H:List MB} {i n z:Nat} {els:List AV} {y:AV} {t:Bool} (hi:getRow H i=some (5,els,z)) (hn:els.length=n) (hy:(decide (y.cells.length=5) && y.cells.all AV.ok)=true) (hz:z≤n) (hr:n+1≤4000000000) :
  evAppend Tryz.prog H 31 31 (.ms i 5 n 0 n) (.sl t [y])=some (.ms i 5 (n+1) 0 (n+1),H.set i (.row 5 (els++[y]) z)):=by
 have hs:srcElems Tryz.prog H 87 (.sl t [y])=some [y]:=rfl
 rw[evAppend_end (e:=87) (by kernel_rfl) (by kernel_rfl) (k:=5) (by kernel_rfl) (by_:=56) (by kernel_rfl) (ze:=.agg [I 0,I 0,I 0,I 0,.sl true []]) (by kernel_rfl) rfl (by omega) hs (by simp only[List.all_cons,List.all_nil,hy,Bool.and_true]) hi hn hz (room_ok hr (by omega))]
 rfl
theorem keep_ins {j:List AV→List MB→Option (List AV×List MB)} (l:List Ins):KeepL j (l.map insAV) (l.map insAV):=KeepL.plain (plain_ins l)
theorem f54' (caps top:Int) (r:Re) (hN:r.wt≤1000000) (hw:wholeG caps top r=true) (hl:lenG r≤8192) (H:List MB):call Tryz.prog pol1 30 [reAV r] H=some (I (lenG r:Nat),H):=by
 rw[f54 caps top r.wt r (Nat.le_refl _) hN hw H,Nat.min_eq_left (by omega)]
theorem own_ins {f id n:Nat} {els:List AV} {c:List Ins} {H:List MB} (hk:pol1.keep f=false) (ho:pol1.own f=true) (hr:getRow H id=some (5,els,0)) (hn:c.length=n) (hK:∀ j,KeepL j els (c.map insAV)) :
  retPol pol1 f [] (.ms id 5 n 0 n) H=some (.ms 0 5 n 0 n,[.row 5 (c.map insAV) 0]):=by
 have hl:=(hK (fun _ _=>none)).len
 rw[List.length_map]at hl
 exact retPol_own (els:=els) hk ho hr (by omega) ((hK _).fz H) hr (plain_ins c) (by simp[hn])
theorem own_end {f id n:Nat} {els xs:List AV} {c:List Ins} {H:List MB} (hk:pol1.keep f=false) (ho:pol1.own f=true) (hr:getRow H id=some (5,els,0)) (hn:c.length=n) (hx:xs=c.map insAV) (hK:∀ j,KeepL j els (c.map insAV)) :
 retPol pol1 f [] (.ms id 5 n 0 n) H=some (.ms 0 5 n 0 n,[.row 5 xs 0]):=hx ▸ own_ins hk ho hr hn hK
def Does55 (r:Re):Prop:=lenG r≤8192→∀ f:Nat,f+lenG r≤100000→∀ H,call Tryz.prog pol1 31 [reAV r,I f] H=some (.ms H.length 5 (lenG r) 0 (lenG r),H++[.row 5 ((codeG r f).map insAV) 0])
def copiesG (k:Re) (f i:Nat):List Ins:=(List.range i).flatMap fun i=>codeG k (f+i * lenG k)
theorem copies_succ (k:Re) (f i:Nat):copiesG k f (i+1)=copiesG k f i++codeG k (f+i * lenG k):=by
 simp[copiesG,List.range_succ,List.flatMap_append]
theorem copies_len {caps top:Int} {k:Re} (h:GoodC caps top k) (f i:Nat):(copiesG k f i).length=i * lenG k:=flat_len _ _ _ (fun i _=>codeG_len caps top k _ h)
def optsG (md:Int) (k:Re) (p e i:Nat):List Ins:=(List.range i).flatMap fun j=>insSplit md ((p+j * (lenG k+1)+1:Nat):Int) (e:Nat)::codeG k (p+j * (lenG k+1)+1)
theorem opts_succ (md:Int) (k:Re) (p e i:Nat):optsG md k p e (i+1)=optsG md k p e i++insSplit md ((p+i * (lenG k+1)+1:Nat):Int) (e:Nat)::codeG k (p+i * (lenG k+1)+1):=by
 simp[optsG,List.range_succ,List.flatMap_append]
theorem opts_len {caps top:Int} {k:Re} (h:GoodC caps top k) (md:Int) (p e i:Nat):(optsG md k p e i).length=i * (lenG k+1):=flat_len _ _ _ (fun i _=>by simp[codeG_len caps top k _ h])
def restG (md:Int) (k:Re) (f m e i:Nat):List Ins:=copiesG k f m++optsG md k (f+m * lenG k) e i
theorem rest_zero (md:Int) (k:Re) (f m e:Nat):restG md k f m e 0=copiesG k f m:=by simp[restG,optsG]
theorem rest_succ (md:Int) (k:Re) (f m e i:Nat):restG md k f m e (i+1)=restG md k f m e i++insSplit md ((f+m * lenG k+i * (lenG k+1)+1:Nat):Int) (e:Nat)::codeG k (f+m * lenG k+i * (lenG k+1)+1):=by
 rw[restG,opts_succ,← List.append_assoc];rfl
theorem rest_len {caps top:Int} {k:Re} (h:GoodC caps top k) (md:Int) (f m e i:Nat):(restG md k f m e i).length=m * lenG k+i * (lenG k+1):=by
 rw[restG,List.length_append,copies_len h,opts_len h]
theorem f116 (caps top:Int) (set:List (Int×Int)) (k:Re) (mn mx md n:Int) (neg:Bool) (hw:GoodC caps top (.mk 4 set [k] mn mx md n neg)) (hN:(Re.mk 4 set [k] mn mx md n neg).wt≤1000000) (ih:Does55 k)
  (hl:lenG (.mk 4 set [k] mn mx md n neg)≤8192) (f:Nat) (hf:f+lenG (.mk 4 set [k] mn mx md n neg)≤100000) (H:List MB) :
  call Tryz.prog pol1 64 [reAV (.mk 4 set [k] mn mx md n neg),I f] H=some (.ms H.length 5 (lenG (.mk 4 set [k] mn mx md n neg)) 0 (lenG (.mk 4 set [k] mn mx md n neg)),H++[.row 5 ((codeG (.mk 4 set [k] mn mx md n neg) f).map insAV) 0]):=by
 have hlen:=codeG_len caps top _ f hw
 have h54:=f54' caps top _ hN hw.whole hl
 have hgk:GoodC caps top k:=hw.kids k (List.mem_singleton.2 rfl)
 have hr:=(whole_facts hw.whole).2.2.1 rfl
 simp only[repG,Bool.and_eq_true,Bool.or_eq_true,decide_eq_true_eq,beq_iff_eq]at hr
 obtain⟨mn',rfl⟩:∃ m:Nat,mn=m:=⟨mn.toNat,by omega⟩
 have hmn:mn'≤32:=by omega
 have hll:lenL [k]=lenG k:=by simp[lenL]
 have hlr:mn' * lenG k≤lenG (.mk 4 set [k] mn' mx md n neg)∧(1≤mn'∨mx = -1∨(mn':Int) < mx→lenG k≤lenG (.mk 4 set [k] mn' mx md n neg)):=by
  rw[lenG,if_neg (by omega),if_neg (by omega),if_neg (by omega),if_pos rfl,hll,Int.toNat_natCast]
  split
  ·rw[Nat.succ_mul];omega
  ·obtain⟨e,he⟩:∃ e:Nat,mx=(mn' + e:Nat):=⟨(mx - mn').toNat,by omega⟩
   subst he
   rw[Int.toNat_natCast,Nat.add_mul]
   have:1≤mn'→lenG k≤mn' * lenG k:=fun h=>Nat.le_mul_of_pos_left _ h
   have:1≤e→lenG k≤e * lenG k:=fun h=>Nat.le_mul_of_pos_left _ h
   omega
 have e0:reAV (.mk 4 set [k] mn' mx md n neg)=.agg (nodeL 4 set [k] mn' mx md n neg):=congrArg AV.agg reC_mk
 rw[e0]at h54 ⊢
 have hcl:=fun i=>copies_len hgk f i
 have hl8:=reC_len k
 have ht8:=reC_take k
 refine call_runO (k:=5) (els:=(codeG (.mk 4 set [k] mn' mx md n neg) f).map insAV) Tryz.func64 rfl rfl rfl rfl (fun _=>rfl) (by simp[AV.plain,AV.plainL,plain_span,plain_kids,plain_reC]) (plain_ins _) ?_ H
 simp +contextual (disch:=omega) only[Tryz.f64,dd64,go_sem,↓reduceIte,evAppend,List.reduceReplicate,Nat.reduceAdd,Nat.reduceSub,reduceCtorEq,Nat.reduceLeDiff,Nat.reduceMul,Nat.reduceLT,Nat.reduceEqDiff,Int.reduceBNe,Int.reduceBEq,Int.reduceEq,Int.reduceLT,Int.reduceLE,Int.reduceGT,Int.reduceGE,mu64,Nat.reduceBEq,↓wrap_up,↓wrap_down,↓wrap_pred,↓wrap_sub_nat,Int.reduceToNat]
 refine W_count (M:=(mskOf (pol1.mask 64) (pol1.gc 64) (pol1.acts 64) 0 3)) rfl mn' (fun i=>(⟨112,[(6,I i),(5,.ms 1 5 (i * lenG k) 0 (i * lenG k)),(2,.rf 0 1 0 0),(1,I f)],[.row 8 [.agg (nodeL 4 set [k] mn' mx md n neg)] 0,.row 5 ((copiesG k f i).map insAV) 0]⟩:St)) (fun _=>True) ?_ ?_ trivial _ ?_
 ·intro i hi _
  have e1:=copies_succ k f i
  have e3:(i+1) * lenG k=i * lenG k+lenG k:=Nat.succ_mul ..
  have e4:(i+1) * lenG k≤mn' * lenG k:=Nat.mul_le_mul_right _ hi
  have ihk:=ih (by omega) (f+i * lenG k) (by omega)
  have e2:=hcl i
  have hk5:=codeG_len caps top k (f+i * lenG k) hgk
  have hadd:(f:Int)+((i * lenG k:Nat):Int)=((f+i * lenG k:Nat):Int):=by omega
  have happ:=fun b0=>app_row (H:=[b0,.row 5 ((copiesG k f i).map insAV) 0,.row 5 ((codeG k (f+i * lenG k)).map insAV) 0]) (i:=1) (j:=2) (n:=i * lenG k) (m:=lenG k) rfl rfl (by rw[List.length_map];exact e2) hk5 (Nat.zero_le _) (by omega)
  simp +contextual (disch:=omega) only[Tryz.f64,dd64,go_sem,↓reduceIte,List.reduceReplicate,Nat.reduceAdd,Nat.reduceSub,reduceCtorEq,Nat.reduceLeDiff,Nat.reduceMul,Nat.reduceLT,Nat.reduceEqDiff,Int.reduceBNe,Int.reduceBEq,Int.reduceEq,Int.reduceLT,Int.reduceLE,Int.reduceGT,Int.reduceGE,mu64,Nat.reduceBEq,↓wrap_up,↓wrap_down,↓wrap_pred,↓wrap_sub_nat,Int.reduceToNat,ihk,hadd,happ,hl8,ht8]
  rw[e1,e3,List.map_append]
  exact(by first|rfl|(refine prep_to (n:=2) (m:=⟨some [6,5,2,1],some 2,[]⟩) rfl rfl ?_ ?_ ?_<;>first|rfl|(simp[keepT,AV.underL,AV.under,MB.under,underL_plain,under_plain,underL_append,plain_ints,plain_span,plain_ins,plain_prg,-List.map_take,-List.map_replicate,-List.map_set,plain_kids,plain_reC];done)|(simp[keepT,AV.underL,AV.under,MB.under,underL_plain,under_plain,underL_append,plain_ints,plain_span,plain_ins,plain_prg,-List.map_take,-List.map_replicate,-List.map_set,plain_kids,plain_reC];omega)))
 ·intro _
  have e2:=hcl mn'
  have hadd:(f:Int)+((mn' * lenG k:Nat):Int)=((f+mn' * lenG k:Nat):Int):=by omega
  by_cases hmx:mx = -1
  ·subst hmx
   have hcode:codeG (.mk 4 set [k] mn' (-1) md n neg) f=copiesG k f mn'++insSplit md ((f+mn' * lenG k+1:Nat):Int) ((f+mn' * lenG k+lenG k+2:Nat):Int)::(codeG k (f+mn' * lenG k+1)++[⟨3,(f+mn' * lenG k:Nat),0,0,[]⟩]):=by
    rw[codeG]
    simp only[copiesG,hll,codeHd,Int.toNat_natCast,if_true]
    rfl
   have hL:lenG (.mk 4 set [k] mn' (-1) md n neg)=mn' * lenG k+1+lenG k+1:=by
    rw[lenG,if_neg (by omega),if_neg (by omega),if_neg (by omega),if_pos rfl,if_pos rfl,hll,Int.toNat_natCast,Nat.succ_mul]
    omega
   rw[hcode]at hlen ⊢
   rw[hL]at hlen hl hf ⊢
   have hk5:=codeG_len caps top k (f+mn' * lenG k+1) hgk
   have ihk:=ih (by omega) (f+mn' * lenG k+1) (by omega)
   generalize hC:copiesG k f mn' = C at *
   generalize hA:mn' * lenG k=a at *
   generalize hB:codeG k (f+a+1)=B at *
   have hadd2:((f+a:Nat):Int)+(lenG k:Int)=((f+a+lenG k:Nat):Int):=by omega
   have hap1:=fun b0 X x y=>app_one (H:=[b0,.row 5 (C.map insAV) 0,.row 5 (B.map insAV) 0,X]) (i:=1) (n:=a) (t:=true) (y:=.agg [I 2,I x,I y,I 0,.sl true []]) rfl (by rw[List.length_map];exact e2) rfl (Nat.zero_le _) (by omega)
   have hap2:=fun b0 X y=>app_row (H:=[b0,.row 5 (C.map insAV++[y]) 0,.row 5 (B.map insAV) 0,X]) (i:=1) (j:=2) (n:=a+1) (m:=lenG k) rfl rfl (by simp[e2]) hk5 (Nat.zero_le _) (by omega)
   have hap3:=fun b0 X y w=>app_one (H:=[b0,.row 5 (C.map insAV++[y]++B.map insAV) 0,.row 5 (B.map insAV) 0,X]) (i:=1) (n:=a+1+lenG k) (t:=true) (y:=.agg [I 3,I w,I 0,I 0,.sl true []]) rfl (by simp[e2,hk5];omega) rfl (Nat.zero_le _) (by omega)
   by_cases hmd:md=1
   ·subst hmd
    simp +contextual (disch:=omega) only[Tryz.f64,dd64,go_sem,↓reduceIte,List.reduceReplicate,Nat.reduceAdd,Nat.reduceSub,reduceCtorEq,Nat.reduceLeDiff,Nat.reduceMul,Nat.reduceLT,Nat.reduceEqDiff,Int.reduceBNe,Int.reduceBEq,Int.reduceEq,Int.reduceLT,Int.reduceLE,Int.reduceGT,Int.reduceGE,mu64,Nat.reduceBEq,↓wrap_up,↓wrap_down,↓wrap_pred,↓wrap_sub_nat,Int.reduceToNat,ihk,hadd,hadd2,hap1,hap2,hap3,hl8,ht8]
    refine own_end (c:=C++insSplit 1 ((f+a+1:Nat):Int) ((f+a+lenG k+2:Nat):Int)::(B++[⟨3,(f+a:Nat),0,0,[]⟩])) rfl rfl rfl (by simpa using hlen) (by simp only[List.map_append,List.map_cons,List.map_nil]) (fun j=>?_)
    simp only[List.map_append,List.map_cons,List.map_nil,List.append_assoc,List.cons_append,List.nil_append,insSplit,if_true]
    exact(keep_ins C).append (.cons (fun H=>rfl) ((keep_ins B).append (.one fun H=>rfl)))
   ·simp +contextual (disch:=omega) only[Tryz.f64,dd64,go_sem,↓reduceIte,List.reduceReplicate,Nat.reduceAdd,Nat.reduceSub,reduceCtorEq,Nat.reduceLeDiff,Nat.reduceMul,Nat.reduceLT,Nat.reduceEqDiff,Int.reduceBNe,Int.reduceBEq,Int.reduceEq,Int.reduceLT,Int.reduceLE,Int.reduceGT,Int.reduceGE,mu64,Nat.reduceBEq,↓wrap_up,↓wrap_down,↓wrap_pred,↓wrap_sub_nat,Int.reduceToNat,ihk,hadd,hadd2,hap1,hap2,hap3,hl8,ht8]
    refine own_end (c:=C++insSplit md ((f+a+1:Nat):Int) ((f+a+lenG k+2:Nat):Int)::(B++[⟨3,(f+a:Nat),0,0,[]⟩])) rfl rfl rfl (by simpa using hlen) (by simp only[List.map_append,List.map_cons,List.map_nil]) (fun j=>?_)
    simp only[List.map_append,List.map_cons,List.map_nil,List.append_assoc,List.cons_append,List.nil_append,insSplit,hmd,if_false]
    exact(keep_ins C).append (.cons (fun H=>rfl) ((keep_ins B).append (.one fun H=>rfl)))
  ·obtain⟨e,rfl⟩:∃ e:Nat,mx=(mn' + e:Nat):=⟨(mx - mn').toNat,by omega⟩
   have hnn:mn' + e - mn' = e:=by omega
   have hL:lenG (.mk 4 set [k] mn' (mn' + e:Nat) md n neg)=mn' * lenG k+e * (lenG k+1):=by
    rw[lenG,if_neg (by omega),if_neg (by omega),if_neg (by omega),if_pos rfl,if_neg hmx,hll,Int.toNat_natCast,Int.toNat_natCast,hnn,Nat.add_mul,Nat.mul_succ]
    omega
   have hcode:codeG (.mk 4 set [k] mn' (mn' + e:Nat) md n neg) f=restG md k f mn' (f+lenG (.mk 4 set [k] mn' (mn' + e:Nat) md n neg)) e:=by
    rw[codeG,if_neg (by omega),if_neg (by omega),if_neg (by omega),if_neg (by omega),if_neg (by omega),if_pos rfl,if_neg hmx]
    simp only[hll,Int.toNat_natCast,hnn,restG,optsG,copiesG,codeHd]
    have:f+(mn' + e) * lenG k+e=f+lenG (.mk 4 set [k] mn' (mn' + e:Nat) md n neg):=by
     rw[hL,Nat.add_mul,Nat.mul_succ];omega
    rw[this]
   generalize hLL:lenG (.mk 4 set [k] mn' (mn' + e:Nat) md n neg)=LL at *
   rw[hcode]at hlen ⊢
   have hrl:=fun i=>rest_len hgk md f mn' (f+LL) i
   have hadL:(f:Int)+(LL:Int)=((f+LL:Nat):Int):=by omega
   have h54':∀ H,call Tryz.prog pol1 30 [.agg [I 4,.sl false (set.map spanAV),.sl false [reAV k],I mn',I (mn' + e:Nat),I md,I n,.bool neg]] H=some (I (LL:Nat),H):=h54
   simp +contextual (disch:=omega) only[Tryz.f64,dd64,go_sem,↓reduceIte,List.reduceReplicate,Nat.reduceAdd,Nat.reduceSub,reduceCtorEq,Nat.reduceLeDiff,Nat.reduceMul,Nat.reduceLT,Nat.reduceEqDiff,Int.reduceBNe,Int.reduceBEq,Int.reduceEq,Int.reduceLT,Int.reduceLE,Int.reduceGT,Int.reduceGE,mu64,Nat.reduceBEq,↓wrap_up,↓wrap_down,↓wrap_pred,↓wrap_sub_nat,Int.reduceToNat,h54',hadL]
   refine W_count (M:=(mskOf (pol1.mask 64) (pol1.gc 64) (pol1.acts 64) 0 17)) rfl e (fun i=>(⟨112,[(12,I (mn' + i:Nat)),(11,I (f+LL:Nat)),(5,.ms 1 5 (mn' * lenG k+i * (lenG k+1)) 0 (mn' * lenG k+i * (lenG k+1))),(2,.rf 0 1 0 0),(1,I f)],[.row 8 [.agg (nodeL 4 set [k] mn' (mn' + e:Nat) md n neg)] 0,.row 5 ((restG md k f mn' (f+LL) i).map insAV) 0]⟩:St)) (fun _=>True) ?_ ?_ trivial _ ?_
   ·intro i hi _
    have e1:=rest_succ md k f mn' (f+LL) i
    have e3:(i+1) * (lenG k+1)=i * (lenG k+1)+lenG k+1:=by rw[Nat.succ_mul];omega
    have e4:(i+1) * (lenG k+1)≤e * (lenG k+1):=Nat.mul_le_mul_right _ hi
    have e5:((mn' + i+1:Nat):Int)=((mn' + (i+1):Nat):Int):=by omega
    have hrli:=hrl i
    have e6:mn' * lenG k+i * (lenG k+1)+1+lenG k=mn' * lenG k+(i+1) * (lenG k+1):=by omega
    have ihk:=ih (by omega) (f+mn' * lenG k+i * (lenG k+1)+1) (by omega)
    have hk5:=codeG_len caps top k (f+mn' * lenG k+i * (lenG k+1)+1) hgk
    have had2:(f:Int)+((mn' * lenG k+i * (lenG k+1):Nat):Int)=((f+mn' * lenG k+i * (lenG k+1):Nat):Int):=by omega
    have hap1:=fun b0 X x y=>app_one (H:=[b0,.row 5 ((restG md k f mn' (f+LL) i).map insAV) 0,X]) (i:=1) (n:=mn' * lenG k+i * (lenG k+1)) (t:=true) (y:=.agg [I 2,I x,I y,I 0,.sl true []]) rfl (by rw[List.length_map];exact hrli) rfl (Nat.zero_le _) (by omega)
    have hz:=fun(x y:Int) (H:List MB)=>KeepL.fz (j:=fzJ 6) ((keep_ins (restG md k f mn' (f+LL) i)).append (KeepL.one (x:=.agg [I 2,I x,I y,I 0,.sl true []]) (y:=.agg [I 2,I x,I y,I 0,.sl false []]) (fun H=>rfl))) H
    have hz2:∀(x y:Int) (H:List MB),fzs ((restG md k f mn' (f+LL) i).map insAV++[.agg [I 2,I x,I y,I 0,.sl true []]]) H=some ((restG md k f mn' (f+LL) i).map insAV++[.agg [I 2,I x,I y,I 0,.sl false []]],H):=hz
    have hap2:=fun b0 X y=>app_row (H:=[b0,.row 5 ((restG md k f mn' (f+LL) i).map insAV++[y]) 0,X,.row 5 ((codeG k (f+mn' * lenG k+i * (lenG k+1)+1)).map insAV) 0]) (i:=1) (j:=3) (n:=mn' * lenG k+i * (lenG k+1)+1) (m:=lenG k) rfl rfl (by simp[hrli]) hk5 (Nat.zero_le _) (by omega)
    by_cases hmd:md=1
    ·subst hmd
     simp +contextual (disch:=omega) only[Tryz.f64,dd64,go_sem,↓reduceIte,List.reduceReplicate,Nat.reduceAdd,Nat.reduceSub,reduceCtorEq,Nat.reduceLeDiff,Nat.reduceMul,Nat.reduceLT,Nat.reduceEqDiff,Int.reduceBNe,Int.reduceBEq,Int.reduceEq,Int.reduceLT,Int.reduceLE,Int.reduceGT,Int.reduceGE,mu64,Nat.reduceBEq,↓wrap_up,↓wrap_down,↓wrap_pred,↓wrap_sub_nat,Int.reduceToNat,ihk,had2,hap1,hz2,hap2,hl8,ht8,AV.beqL_refl]
     have er:(restG 1 k f mn' (f+LL) (i+1)).map insAV=(restG 1 k f mn' (f+LL) i).map insAV++[.agg [I 2,I (f+LL:Nat),I (f+mn' * lenG k+i * (lenG k+1)+1:Nat),I 0,.sl false []]]++(codeG k (f+mn' * lenG k+i * (lenG k+1)+1)).map insAV:=by
      rw[e1,List.map_append,List.map_cons,List.append_assoc,List.singleton_append,insSplit,if_pos rfl]
      rfl
     rw[er,← e6,← e5]
     exact(by first|rfl|(refine prep_to (n:=2) (m:=⟨some [12,11,5,2,1],some 2,[]⟩) rfl rfl ?_ ?_ ?_<;>first|rfl|(simp[keepT,AV.underL,AV.under,MB.under,underL_plain,under_plain,underL_append,plain_ints,plain_span,plain_ins,plain_prg,-List.map_take,-List.map_replicate,-List.map_set,plain_kids,plain_reC];done)|(simp[keepT,AV.underL,AV.under,MB.under,underL_plain,under_plain,underL_append,plain_ints,plain_span,plain_ins,plain_prg,-List.map_take,-List.map_replicate,-List.map_set,plain_kids,plain_reC];omega)))
    ·simp +contextual (disch:=omega) only[Tryz.f64,dd64,go_sem,↓reduceIte,List.reduceReplicate,Nat.reduceAdd,Nat.reduceSub,reduceCtorEq,Nat.reduceLeDiff,Nat.reduceMul,Nat.reduceLT,Nat.reduceEqDiff,Int.reduceBNe,Int.reduceBEq,Int.reduceEq,Int.reduceLT,Int.reduceLE,Int.reduceGT,Int.reduceGE,mu64,Nat.reduceBEq,↓wrap_up,↓wrap_down,↓wrap_pred,↓wrap_sub_nat,Int.reduceToNat,ihk,had2,hap1,hz2,hap2,hl8,ht8,AV.beqL_refl]
     have er:(restG md k f mn' (f+LL) (i+1)).map insAV=(restG md k f mn' (f+LL) i).map insAV++[.agg [I 2,I (f+mn' * lenG k+i * (lenG k+1)+1:Nat),I (f+LL:Nat),I 0,.sl false []]]++(codeG k (f+mn' * lenG k+i * (lenG k+1)+1)).map insAV:=by
      rw[e1,List.map_append,List.map_cons,List.append_assoc,List.singleton_append,insSplit,if_neg hmd]
      rfl
     rw[er,← e6,← e5]
     exact(by first|rfl|(refine prep_to (n:=2) (m:=⟨some [12,11,5,2,1],some 2,[]⟩) rfl rfl ?_ ?_ ?_<;>first|rfl|(simp[keepT,AV.underL,AV.under,MB.under,underL_plain,under_plain,underL_append,plain_ints,plain_span,plain_ins,plain_prg,-List.map_take,-List.map_replicate,-List.map_set,plain_kids,plain_reC];done)|(simp[keepT,AV.underL,AV.under,MB.under,underL_plain,under_plain,underL_append,plain_ints,plain_span,plain_ins,plain_prg,-List.map_take,-List.map_replicate,-List.map_set,plain_kids,plain_reC];omega)))
   ·intro _
    have hre:=hrl e
    simp +contextual (disch:=omega) only[Tryz.f64,dd64,go_sem,↓reduceIte,List.reduceReplicate,Nat.reduceAdd,Nat.reduceSub,reduceCtorEq,Nat.reduceLeDiff,Nat.reduceMul,Nat.reduceLT,Nat.reduceEqDiff,Int.reduceBNe,Int.reduceBEq,Int.reduceEq,Int.reduceLT,Int.reduceLE,Int.reduceGT,Int.reduceGE,mu64,Nat.reduceBEq,↓wrap_up,↓wrap_down,↓wrap_pred,↓wrap_sub_nat,Int.reduceToNat,hl8,ht8]
    rw[hL]at hlen ⊢
    exact own_end rfl rfl rfl hlen rfl (fun j=>keep_ins _)
   ·exact(by first|rfl|(refine prep_to (n:=2) (m:=⟨some [12,11,5,2,1],some 2,[]⟩) rfl rfl ?_ ?_ ?_<;>first|rfl|(simp[keepT,AV.underL,AV.under,MB.under,underL_plain,under_plain,underL_append,plain_ints,plain_span,plain_ins,plain_prg,-List.map_take,-List.map_replicate,-List.map_set,plain_kids,plain_reC,rest_zero];done)|(simp[keepT,AV.underL,AV.under,MB.under,underL_plain,under_plain,underL_append,plain_ints,plain_span,plain_ins,plain_prg,-List.map_take,-List.map_replicate,-List.map_set,plain_kids,plain_reC,rest_zero];omega)))
 ·exact(by first|rfl|(refine prep_to (n:=2) (m:=⟨some [6,5,2,1],some 2,[]⟩) rfl rfl ?_ ?_ ?_<;>first|rfl|(simp[keepT,AV.underL,AV.under,MB.under,underL_plain,under_plain,underL_append,plain_ints,plain_span,plain_ins,plain_prg,-List.map_take,-List.map_replicate,-List.map_set,plain_kids,plain_reC,copiesG];done)|(simp[keepT,AV.underL,AV.under,MB.under,underL_plain,under_plain,underL_append,plain_ints,plain_span,plain_ins,plain_prg,-List.map_take,-List.map_replicate,-List.map_set,plain_kids,plain_reC,copiesG];omega)))
end
section
attribute [local go_sem] AV.cells tySzE List.head?_drop Nat.mul_one sameAt_zero sameAt_two sameAt_three sameAt_four sameAt_five room_ok ty23 ty24 ty26 ty31 ty87
open Go.Proofs Go.RowKit Go.IntWalk
set_option maxRecDepth 100000
set_option maxHeartbeats 8000000
theorem call_frz' {P:Program} {pol:Pol} {f:Nat} {args l:List AV} {H H1:List MB} (hp:pol.pure f=true) (h:frzArgs pol f 0 args H=some (l,H1)) (ha:AV.plainL l=true) :
  call P pol f args H=call P pol f l H1:=by
 have hf:∀(l:List AV) (i:Nat),AV.plainL l=true→frzArgs pol f i l H1=some (l,H1):=by
  intro l
  induction l with
  | nil=>intro i _;rfl
  | cons x l ih=>
    intro i h
    simp only[AV.plainL,Bool.and_eq_true]at h
    simp only[frzArgs,fz_plain H1 h.1,ih (i+1) h.2]
    split<;>simp_all
 rw[call_eq,call_eq]
 unfold evStep
 simp only[hp,if_true,h,hf l 0 ha]
theorem codeCat_append:∀(a b:List Re) (f:Nat),codeCat (a++b) f=codeCat a f++codeCat b (f+lenL a)
 | [],b,f=>by simp[codeCat,lenL]
 | k::ks,b,f=>by simp[codeCat,lenL,codeCat_append ks b,Nat.add_assoc]
theorem codeCat_take {l:List Re} {i:Nat} {k:Re} (h:l[i]?=some k) (f:Nat):codeCat (l.take (i+1)) f=codeCat (l.take i) f++codeG k (f+lenL (l.take i)):=by
 rw[List.take_add_one,h,codeCat_append];simp[codeCat]
theorem lenL_take_le:∀(l:List Re) (i:Nat),lenL (l.take i)≤lenL l:=fun l i=>by
 have:=lenL_append (l.take i) (l.drop i)
 rw[List.take_append_drop]at this
 omega
theorem good_rest {caps top:Int} {a b:Re} {ks:List Re} {set:List (Int×Int)} {mn mx md n:Int} {neg:Bool} (h:GoodC caps top (.mk 3 set (a::b::ks) mn mx md n neg)) (hk:ks≠[]):GoodC caps top (.mk 3 [] (b::ks) 0 0 0 0 false):=by
 have hq:2≤(b::ks).length:=by
  cases ks with
  | nil=>exact absurd rfl hk
  | cons _ _=>simp
 refine⟨?_,?_⟩
 ·rw[wholeG,Bool.and_eq_true,wholeL_iff]
  refine⟨?_,fun k hk=>(h.kids k (List.mem_cons_of_mem _ hk)).whole⟩
  simp[formedG,kidsG]at hq ⊢
  omega
 ·rw[codable,Bool.and_eq_true,codableL_iff]
  exact⟨rfl,fun k hk=>(h.kids k (List.mem_cons_of_mem _ hk)).cod⟩
theorem f55 (caps top:Int) (hcaps:caps≤1000):∀(N:Nat) (r:Re),r.wt≤N→r.wt≤1000000→GoodC caps top r→Does55 r
 | 0,r,h,_,_=>by have:=r.wt_pos;omega
 | N+1,.mk op set kids mn mx md n neg,h,hN,hw=>by
   intro hl f hf H
   have hkl:=Re.wtL_len kids
   have hwt:1+set.length+Re.wtL kids=(Re.mk op set kids mn mx md n neg).wt:=by simp[Re.wt]
   have hop:=hw.op
   have hlen:=codeG_len caps top _ f hw
   obtain⟨hwk,hkd,hrp,hnn,ho1,ho2⟩:=whole_facts hw.whole
   have hgk:=hw.kids
   have ih:=fun k (hk:k∈kids)=>f55 caps top hcaps N k (by have:=Re.wtL_mem hk;omega) (by have:=Re.wtL_mem hk;omega) (hgk k hk)
   have e0:reAV (.mk op set kids mn mx md n neg)=.agg (nodeL op set kids mn mx md n neg):=congrArg AV.agg reC_mk
   rcases hop with rfl|rfl|rfl|rfl|rfl|rfl|rfl
   ·have hk0:kids=[]:=List.length_eq_zero_iff.1 (by simpa [kidsG] using hkd)
    subst hk0
    rw[e0]
    refine call_runO (k:=5) (els:=(codeG (.mk 0 set [] mn mx md n neg) f).map insAV) Tryz.func31 rfl rfl rfl rfl (fun _=>rfl) (by simp[AV.plain,AV.plainL,plain_span,plain_kids,plain_reC]) (plain_ins _) ?_ H
    have hc:codeG (.mk 0 set [] mn mx md n neg) f=[]:=by rw[codeG];rfl
    rw[← hlen,hc]
    simp +contextual (disch:=omega) only[Tryz.f31,dd31,go_sem,↓reduceIte,List.reduceReplicate,Nat.reduceAdd,Nat.reduceSub,reduceCtorEq,Nat.reduceLeDiff,Nat.reduceMul,Nat.reduceLT,Nat.reduceEqDiff,Int.reduceBNe,Int.reduceBEq,Int.reduceEq,Int.reduceLT,Int.reduceLE,Int.reduceGT,Int.reduceGE,mu31,Nat.reduceBEq,↓wrap_up,↓wrap_down,↓wrap_pred,↓wrap_sub_nat,Int.reduceToNat]
    exact own_end (c:=[]) rfl rfl rfl rfl rfl (fun j=>.nil)
   ·rw[e0]
    refine call_runO (k:=5) (els:=(codeG (.mk 1 set kids mn mx md n neg) f).map insAV) Tryz.func31 rfl rfl rfl rfl (fun _=>rfl) (by simp[AV.plain,AV.plainL,plain_span,plain_kids,plain_reC]) (plain_ins _) ?_ H
    have hc:codeG (.mk 1 set kids mn mx md n neg) f=[⟨1,0,0,0,set⟩]:=by rw[codeG];rfl
    rw[← hlen,hc]
    simp +contextual (disch:=omega) only[Tryz.f31,dd31,go_sem,↓reduceIte,List.reduceReplicate,Nat.reduceAdd,Nat.reduceSub,reduceCtorEq,Nat.reduceLeDiff,Nat.reduceMul,Nat.reduceLT,Nat.reduceEqDiff,Int.reduceBNe,Int.reduceBEq,Int.reduceEq,Int.reduceLT,Int.reduceLE,Int.reduceGT,Int.reduceGE,mu31,Nat.reduceBEq,↓wrap_up,↓wrap_down,↓wrap_pred,↓wrap_sub_nat,Int.reduceToNat]
    exact own_end (c:=[⟨1,0,0,0,set⟩]) rfl rfl rfl rfl rfl (fun j=>keep_ins [⟨1,0,0,0,set⟩])
   ·rw[e0]
    refine call_runO (k:=5) (els:=(codeG (.mk 2 set kids mn mx md n neg) f).map insAV) Tryz.func31 rfl rfl rfl rfl (fun _=>rfl) (by simp[AV.plain,AV.plainL,plain_span,plain_kids,plain_reC]) (plain_ins _) ?_ H
    have hc:codeG (.mk 2 set kids mn mx md n neg) f=codeCat kids f:=by rw[codeG];rfl
    have hL:lenG (.mk 2 set kids mn mx md n neg)=lenL kids:=by rw[lenG];rfl
    rw[hL]at hlen hl hf ⊢
    rw[hc]at hlen ⊢
    simp +contextual (disch:=omega) only[Tryz.f31,dd31,go_sem,↓reduceIte,List.reduceReplicate,Nat.reduceAdd,Nat.reduceSub,reduceCtorEq,Nat.reduceLeDiff,Nat.reduceMul,Nat.reduceLT,Nat.reduceEqDiff,Int.reduceBNe,Int.reduceBEq,Int.reduceEq,Int.reduceLT,Int.reduceLE,Int.reduceGT,Int.reduceGE,mu31,Nat.reduceBEq,↓wrap_up,↓wrap_down,↓wrap_pred,↓wrap_sub_nat,Int.reduceToNat]
    refine W_count (M:=(mskOf (pol1.mask 31) (pol1.gc 31) (pol1.acts 31) 0 9)) rfl kids.length (fun i=>(⟨132,[(6,I i),(5,.ms 1 5 (lenL (kids.take i)) 0 (lenL (kids.take i))),(2,.rf 0 1 0 0),(1,I f)],[.row 8 [.agg (nodeL 2 set kids mn mx md n neg)] 0,.row 5 ((codeCat (kids.take i) f).map insAV) 0]⟩:St)) (fun _=>True) ?_ ?_ trivial _ (by first|rfl|(refine prep_to (n:=2) (m:=⟨some [6,5,2,1],some 2,[]⟩) rfl rfl ?_ ?_ ?_<;>first|rfl|(simp[keepT,AV.underL,AV.under,MB.under,underL_plain,under_plain,underL_append,plain_ints,plain_span,plain_ins,plain_prg,-List.map_take,-List.map_replicate,-List.map_set,lenL,plain_kids,codeCat];done)|(simp[keepT,AV.underL,AV.under,MB.under,underL_plain,under_plain,underL_append,plain_ints,plain_span,plain_ins,plain_prg,-List.map_take,-List.map_replicate,-List.map_set,lenL,plain_kids,codeCat];omega)))
    ·intro i hi _
     obtain⟨k,hk⟩:∃ k,kids[i]?=some k:=⟨_,List.getElem?_eq_getElem hi⟩
     have hkm:=List.mem_of_getElem? hk
     have hl8:=reC_len k
     have ht8:=reC_take k
     have e1:=lenL_take hk
     have e2:=codeCat_take hk f
     have e4:=lenL_take_le kids (i+1)
     have hck:=codeCat_len caps top (kids.take i) f (fun k h=>hgk k (List.mem_of_mem_take h))
     have hk5:=codeG_len caps top k (f+lenL (kids.take i)) (hgk k hkm)
     have ihk:=ih k hkm (by omega) (f+lenL (kids.take i)) (by omega)
     have hadd:(f:Int)+((lenL (kids.take i):Nat):Int)=((f+lenL (kids.take i):Nat):Int):=by omega
     have happ:=fun b0=>app_row (H:=[b0,.row 5 ((codeCat (kids.take i) f).map insAV) 0,.row 5 ((codeG k (f+lenL (kids.take i))).map insAV) 0]) (i:=1) (j:=2) (n:=lenL (kids.take i)) (m:=lenG k) rfl rfl (by rw[List.length_map];exact hck) hk5 (Nat.zero_le _) (by omega)
     simp +contextual (disch:=omega) only[Tryz.f31,dd31,go_sem,↓reduceIte,List.reduceReplicate,Nat.reduceAdd,Nat.reduceSub,reduceCtorEq,Nat.reduceLeDiff,Nat.reduceMul,Nat.reduceLT,Nat.reduceEqDiff,Int.reduceBNe,Int.reduceBEq,Int.reduceEq,Int.reduceLT,Int.reduceLE,Int.reduceGT,Int.reduceGE,mu31,Nat.reduceBEq,↓wrap_up,↓wrap_down,↓wrap_pred,↓wrap_sub_nat,Int.reduceToNat,hk,ihk,hadd,happ,hl8,ht8]
     rw[e1,e2,List.map_append]
     exact(by first|rfl|(refine prep_to (n:=2) (m:=⟨some [6,5,2,1],some 2,[]⟩) rfl rfl ?_ ?_ ?_<;>first|rfl|(simp[keepT,AV.underL,AV.under,MB.under,underL_plain,under_plain,underL_append,plain_ints,plain_span,plain_ins,plain_prg,-List.map_take,-List.map_replicate,-List.map_set,plain_kids];done)|(simp[keepT,AV.underL,AV.under,MB.under,underL_plain,under_plain,underL_append,plain_ints,plain_span,plain_ins,plain_prg,-List.map_take,-List.map_replicate,-List.map_set,plain_kids];omega)))
    ·intro _
     rw[List.take_length]
     simp +contextual (disch:=omega) only[Tryz.f31,dd31,go_sem,↓reduceIte,List.reduceReplicate,Nat.reduceAdd,Nat.reduceSub,reduceCtorEq,Nat.reduceLeDiff,Nat.reduceMul,Nat.reduceLT,Nat.reduceEqDiff,Int.reduceBNe,Int.reduceBEq,Int.reduceEq,Int.reduceLT,Int.reduceLE,Int.reduceGT,Int.reduceGE,mu31,Nat.reduceBEq,↓wrap_up,↓wrap_down,↓wrap_pred,↓wrap_sub_nat,Int.reduceToNat]
     exact own_end rfl rfl rfl hlen rfl (fun j=>keep_ins _)
   ·match kids,hkd with
    | [],hkd=>simp[kidsG]at hkd
    | [_],hkd=>simp[kidsG]at hkd
    | k1::k2::ks,hkd=>
    have g1:=hgk k1 (List.mem_cons_self ..)
    have g2:=hgk k2 (List.mem_cons_of_mem _ (List.mem_cons_self ..))
    have hc:codeG (.mk 3 set (k1::k2::ks) mn mx md n neg) f=⟨2,(f+1:Nat),(f+lenG k1+2:Nat),0,[]⟩::(codeG k1 (f+1)++(⟨3,(f+lenL (k1::k2::ks)+2 * (k2::ks).length:Nat),0,0,[]⟩::codeAlt (k2::ks) (f+lenG k1+2))):=by
     rw[codeG,if_neg (by omega),if_neg (by omega),if_neg (by omega),if_pos rfl,codeAlt,if_neg (by simp)]
    have hL:lenG (.mk 3 set (k1::k2::ks) mn mx md n neg)=lenG k1+lenL (k2::ks)+2 * (ks.length+1):=by
     rw[lenG,if_neg (by omega),if_pos rfl,lenL]
     simp only[List.length_cons]
     omega
    have hal:=codeAlt_len caps top (k2::ks) (f+lenG k1+2) (fun k h=>hgk k (List.mem_cons_of_mem _ h)) (by simp)
    have hjmp:f+lenL (k1::k2::ks)+2 * (k2::ks).length=f+lenG k1+2+(lenL (k2::ks)+2 * ks.length):=by
     rw[lenL];simp only[List.length_cons];omega
    rw[hL]at hlen hl hf ⊢
    rw[hc,hjmp]at hlen ⊢
    simp only[List.length_cons,Nat.add_sub_cancel]at hal
    have hl2:lenL (k2::ks)=lenG k2+lenL ks:=rfl
    have ih1:=ih k1 (List.mem_cons_self ..) (by omega) (f+1) (by omega)
    have hk1:=codeG_len caps top k1 (f+1) g1
    have hsec:∀ H,call Tryz.prog pol1 31 [if ks.length=0 then reAV k2 else .agg [I 3,.sl true [],.sl false ((k2::ks).map reAV),I 0,I 0,I 0,I 0,.bool false],I (f+lenG k1+2:Nat)] H =
      some (.ms H.length 5 (lenL (k2::ks)+2 * ks.length) 0 (lenL (k2::ks)+2 * ks.length),H++[.row 5 ((codeAlt (k2::ks) (f+lenG k1+2)).map insAV) 0]):=by
     intro H
     split
     ·rename_i h0
      have:ks=[]:=List.length_eq_zero_iff.1 h0
      subst this
      have ih2:=ih k2 (List.mem_cons_of_mem _ (List.mem_cons_self ..)) (by omega) (f+lenG k1+2) (by omega) H
      rw[ih2]
      simp[codeAlt,lenL]
     ·rename_i h0
      have hne:ks≠[]:=fun e=>h0 (by rw[e];rfl)
      have ihr:=f55 caps top hcaps N (.mk 3 [] (k2::ks) 0 0 0 0 false) (by simp only[Re.wt,Re.wtL,List.length_nil]at h ⊢;have:=k1.wt_pos;omega) (by simp only[Re.wt,Re.wtL,List.length_nil]at hN ⊢;have:=k1.wt_pos;omega) (good_rest hw hne)
      have hlr:lenG (.mk 3 [] (k2::ks) 0 0 0 0 false)=lenL (k2::ks)+2 * ks.length:=by
       rw[lenG,if_neg (by omega),if_pos rfl];simp
      have hcr:codeG (.mk 3 [] (k2::ks) 0 0 0 0 false) (f+lenG k1+2)=codeAlt (k2::ks) (f+lenG k1+2):=by rw[codeG];rfl
      have ih2:=ihr (by omega) (f+lenG k1+2) (by omega) H
      rw[hlr,hcr]at ih2
      rw[← ih2]
      refine call_frz' rfl ?_ (by simp[AV.plain,AV.plainL,plain_reC])
      have hby:∀ i,pol1.byref 31 i=false:=fun i=>rfl
      have hz:fz (.agg [I 3,.sl true [],.sl false ((k2::ks).map reAV),I 0,I 0,I 0,I 0,.bool false]) H=some (reAV (.mk 3 [] (k2::ks) 0 0 0 0 false),H):=by
       rw[show reAV (.mk 3 [] (k2::ks) 0 0 0 0 false)=.agg (nodeL 3 [] (k2::ks) 0 0 0 0 false) from congrArg AV.agg reC_mk]
       have hzk:∀ H,fzL (fzJ 6) ((k2::ks).map reAV) H=some ((k2::ks).map reAV,H):=fun H=>fzL_plain _ _ H (plain_kids _)
       simp only[fz,fzA,fzL,hzk,List.map_nil]
       rfl
      have h2:∀ x H,fz (I x) H=some (I x,H):=fun x H=>rfl
      simp only[frzArgs,hby,Bool.false_eq_true,if_false,hz,h2]
    rw[e0]
    refine call_runO (k:=5) Tryz.func31 rfl rfl rfl rfl (fun _=>rfl) (by simp[AV.plain,AV.plainL,plain_span,plain_kids,plain_reC]) (plain_ins _) ?_ H
    have hl8:=reC_len k1
    have ht8:=reC_take k1
    have hl9:=reC_len k2
    have ht9:=reC_take k2
    have hok:=reC_ok k2
    have hadd:((f:Int)+(lenG k1:Int))=((f+lenG k1:Nat):Int):=by omega
    have had2:((f+lenG k1:Nat):Int)+2=((f+lenG k1+2:Nat):Int):=by omega
    generalize hS:codeAlt (k2::ks) (f+lenG k1+2)=S at *
    generalize hM:lenL (k2::ks)+2 * ks.length=m at *
    have hLm:lenG k1+lenL (k2::ks)+2 * (ks.length+1)=1+lenG k1+1+m:=by omega
    rw[hLm]at hlen hl hf ⊢
    generalize codeG k1 (f+1)=K at *
    have had3:((f+lenG k1+2:Nat):Int)+(m:Int)=((f+lenG k1+2+m:Nat):Int):=by omega
    have hap1:=fun b0 X Y Z x y=>app_one (H:=[b0,.row 5 [] 0,X,Y,Z]) (i:=1) (n:=0) (t:=true) (y:=.agg [I 2,I x,I y,I 0,.sl true []]) rfl rfl rfl (Nat.zero_le _) (by omega)
    have hap2:=fun b0 Y Z y=>app_row (H:=[b0,.row 5 [y] 0,.row 5 (K.map insAV) 0,Y,Z]) (i:=1) (j:=2) (n:=1) (m:=lenG k1) rfl rfl rfl hk1 (Nat.zero_le _) (by omega)
    have hap3:=fun b0 X Y Z y w=>app_one (H:=[b0,.row 5 (y::K.map insAV) 0,X,Y,Z]) (i:=1) (n:=1+lenG k1) (t:=true) (y:=.agg [I 3,I w,I 0,I 0,.sl true []]) rfl (by simp[hk1];omega) rfl (Nat.zero_le _) (by omega)
    have hap4:=fun b0 X Y y w=>app_row (H:=[b0,.row 5 (y::(K.map insAV++[w])) 0,X,Y,.row 5 (S.map insAV) 0]) (i:=1) (j:=4) (n:=1+lenG k1+1) (m:=m) rfl rfl (by simp[hk1];omega) hal (Nat.zero_le _) (by omega)
    have fin:∀(H:List MB) (y w:AV),(∀ j H,fzA j y H=some (insAV ⟨2,(f+1:Nat),(f+lenG k1+2:Nat),0,[]⟩,H))→(∀ j H,fzA j w H=some (insAV ⟨3,(f+lenG k1+2+m:Nat),0,0,[]⟩,H))→getRow H 1=some (5,y::(K.map insAV++[w]++S.map insAV),0)→retPol pol1 31 [] (.ms 1 5 (1+lenG k1+1+m) 0 (1+lenG k1+1+m)) H=some (.ms 0 5 (1+lenG k1+1+m) 0 (1+lenG k1+1+m),[.row 5 ((⟨2,(f+1:Nat),(f+lenG k1+2:Nat),0,[]⟩::(K++(⟨3,(f+lenG k1+2+m:Nat),0,0,[]⟩::S))).map insAV) 0]):=by
     intro H y w hy hw hr
     refine own_end rfl rfl hr hlen rfl (fun j=>?_)
     simp only[List.map_cons,List.map_append,List.append_assoc,List.singleton_append]
     exact .cons (hy j) ((keep_ins K).append (.cons (hw j) (keep_ins S)))
    cases ks with
    | nil=>
      simp only[List.length_nil,if_true]at hsec
      simp +contextual (disch:=omega) only[Tryz.f31,dd31,go_sem,↓reduceIte,List.reduceReplicate,Nat.reduceAdd,Nat.reduceSub,reduceCtorEq,Nat.reduceLeDiff,Nat.reduceMul,Nat.reduceLT,Nat.reduceEqDiff,Int.reduceBNe,Int.reduceBEq,Int.reduceEq,Int.reduceLT,Int.reduceLE,Int.reduceGT,Int.reduceGE,mu31,Nat.reduceBEq,↓wrap_up,↓wrap_down,↓wrap_pred,↓wrap_sub_nat,Int.reduceToNat,ih1,hsec,hadd,had2,had3,hap1,hap2,hap3,hap4,hl8,ht8,hl9,ht9,hok]
      refine Eq.trans (fin _ (.agg [I 2,I (f+1:Nat),I (f+lenG k1+2:Nat),I 0,.sl true []]) (.agg [I 3,I (f+lenG k1+2+m:Nat),I 0,I 0,.sl true []]) (fun j H=>rfl) (fun j H=>rfl) ?_) ?_
      ·rfl
      ·simp only[List.map_cons,List.map_append]
    | cons k3 ks=>
      simp only[List.length_cons,Nat.add_eq_zero_iff,Nat.one_ne_zero,and_false,if_false,List.map_cons]at hsec
      have hlk:(ks.map reAV).all (fun y=>decide (y.cells.length=8))=true:=by simp[AV.cells,reC_len]
      simp only[AV.cells]at hlk
      have hl3:=reC_len k3
      have htk:List.take ks.length (ks.map reAV)=ks.map reAV:=List.take_of_length_le (by simp)
      have hdr:List.drop 8 (reC k2)=[]:=List.drop_eq_nil_of_le (by rw[hl9];omega)
      simp +contextual (disch:=omega) only[Tryz.f31,dd31,go_sem,↓reduceIte,List.reduceReplicate,Nat.reduceAdd,Nat.reduceSub,reduceCtorEq,Nat.reduceLeDiff,Nat.reduceMul,Nat.reduceLT,Nat.reduceEqDiff,Int.reduceBNe,Int.reduceBEq,Int.reduceEq,Int.reduceLT,Int.reduceLE,Int.reduceGT,Int.reduceGE,mu31,Nat.reduceBEq,↓wrap_up,↓wrap_down,↓wrap_pred,↓wrap_sub_nat,Int.reduceToNat,ih1,hsec,hadd,had2,had3,hap1,hap2,hap3,hap4,hl8,ht8,hl9,ht9,hok,hlk,hl3,htk,hdr]
      refine Eq.trans (fin _ (.agg [I 2,I (f+1:Nat),I (f+lenG k1+2:Nat),I 0,.sl true []]) (.agg [I 3,I (f+lenG k1+2+m:Nat),I 0,I 0,.sl true []]) (fun j H=>rfl) (fun j H=>rfl) ?_) ?_
      ·rfl
      ·simp only[List.map_cons,List.map_append]
   ·obtain⟨k,rfl⟩:∃ k,kids=[k]:=List.length_eq_one_iff.1 (by simpa [kidsG] using hkd)
    have h116:=f116 caps top set k mn mx md n neg hw hN (ih k (List.mem_singleton.2 rfl)) hl f hf
    rw[e0]at h116 ⊢
    refine call_runO (k:=5) (els:=(codeG (.mk 4 set [k] mn mx md n neg) f).map insAV) Tryz.func31 rfl rfl rfl rfl (fun _=>rfl) (by simp[AV.plain,AV.plainL,plain_span,plain_kids,plain_reC]) (plain_ins _) ?_ H
    simp only[nodeL,List.map_cons,List.map_nil]at h116
    generalize lenG (.mk 4 set [k] mn mx md n neg)=LL at *
    generalize codeG (.mk 4 set [k] mn mx md n neg) f=C at *
    simp +contextual (disch:=omega) only[Tryz.f31,dd31,go_sem,↓reduceIte,List.reduceReplicate,Nat.reduceAdd,Nat.reduceSub,reduceCtorEq,Nat.reduceLeDiff,Nat.reduceMul,Nat.reduceLT,Nat.reduceEqDiff,Int.reduceBNe,Int.reduceBEq,Int.reduceEq,Int.reduceLT,Int.reduceLE,Int.reduceGT,Int.reduceGE,mu31,Nat.reduceBEq,↓wrap_up,↓wrap_down,↓wrap_pred,↓wrap_sub_nat,Int.reduceToNat,h116]
    exact own_end rfl rfl rfl hlen rfl (fun j=>keep_ins _)
   ·obtain⟨k,rfl⟩:∃ k,kids=[k]:=List.length_eq_one_iff.1 (by simpa [kidsG] using hkd)
    have hn1:=hnn (.inl rfl)
    rw[e0]
    refine call_runO (k:=5) (els:=(codeG (.mk 5 set [k] mn mx md n neg) f).map insAV) Tryz.func31 rfl rfl rfl rfl (fun _=>rfl) (by simp[AV.plain,AV.plainL,plain_span,plain_kids,plain_reC]) (plain_ins _) ?_ H
    have hc:codeG (.mk 5 set [k] mn mx md n neg) f=⟨4,0,0,2 * n - 2,[]⟩::(codeG k (f+1)++[⟨4,0,0,2 * n - 1,[]⟩]):=by rw[codeG];rfl
    have hL:lenG (.mk 5 set [k] mn mx md n neg)=1+lenG k+1:=by
     rw[lenG,if_neg (by omega),if_neg (by omega),if_pos rfl];simp[lenL];omega
    rw[hL]at hlen hl hf ⊢
    rw[hc]at hlen ⊢
    have hl8:=reC_len k
    have ht8:=reC_take k
    have ihk:=ih k (List.mem_singleton.2 rfl) (by omega) (f+1) (by omega)
    have hk5:=codeG_len caps top k (f+1) (hgk k (List.mem_singleton.2 rfl))
    generalize codeG k (f+1)=K at *
    have hap1:=fun b0 w=>app_one (H:=[b0,.row 5 [] 0]) (i:=1) (n:=0) (t:=true) (y:=.agg [I 4,I 0,I 0,I w,.sl true []]) rfl rfl rfl (Nat.zero_le _) (by omega)
    have hap2:=fun b0 y=>app_row (H:=[b0,.row 5 [y] 0,.row 5 (K.map insAV) 0]) (i:=1) (j:=2) (n:=1) (m:=lenG k) rfl rfl rfl hk5 (Nat.zero_le _) (by omega)
    have hap3:=fun b0 y w=>app_one (H:=[b0,.row 5 (y::K.map insAV) 0,.row 5 (K.map insAV) 0]) (i:=1) (n:=1+lenG k) (t:=true) (y:=.agg [I 4,I 0,I 0,I w,.sl true []]) rfl (by simp[hk5];omega) rfl (Nat.zero_le _) (by omega)
    simp +contextual (disch:=omega) only[Tryz.f31,dd31,go_sem,↓reduceIte,List.reduceReplicate,Nat.reduceAdd,Nat.reduceSub,reduceCtorEq,Nat.reduceLeDiff,Nat.reduceMul,Nat.reduceLT,Nat.reduceEqDiff,Int.reduceBNe,Int.reduceBEq,Int.reduceEq,Int.reduceLT,Int.reduceLE,Int.reduceGT,Int.reduceGE,mu31,Nat.reduceBEq,↓wrap_up,↓wrap_down,↓wrap_pred,↓wrap_sub_nat,Int.reduceToNat,ihk,hap1,hap2,hap3,hl8,ht8]
    repeat' (first|intro _|apply And.intro|(unfold dOk;kernel_rfl)|exact St.beq_refl _|(show altO _ _ _ _=true;kernel_rfl)|(show (_ || _)=true;kernel_rfl)|(show (_ && _)=true;kernel_rfl))
    refine own_end (c:=⟨4,0,0,2 * n - 2,[]⟩::(K++[⟨4,0,0,2 * n - 1,[]⟩])) rfl rfl rfl (by simpa using hlen) (by simp only[List.map_append,List.map_cons,List.map_nil]) (fun j=>?_)
    simp only[List.map_append,List.map_cons,List.map_nil]
    exact .cons (fun H=>rfl) ((keep_ins K).append (.one fun H=>rfl))
   ·rw[e0]
    refine call_runO (k:=5) (els:=(codeG (.mk 11 set kids mn mx md n neg) f).map insAV) Tryz.func31 rfl rfl rfl rfl (fun _=>rfl) (by simp[AV.plain,AV.plainL,plain_span,plain_kids,plain_reC]) (plain_ins _) ?_ H
    have hc:codeG (.mk 11 set kids mn mx md n neg) f=[⟨5,0,0,n,[]⟩]:=by rw[codeG];rfl
    rw[← hlen,hc]
    simp +contextual (disch:=omega) only[Tryz.f31,dd31,go_sem,↓reduceIte,List.reduceReplicate,Nat.reduceAdd,Nat.reduceSub,reduceCtorEq,Nat.reduceLeDiff,Nat.reduceMul,Nat.reduceLT,Nat.reduceEqDiff,Int.reduceBNe,Int.reduceBEq,Int.reduceEq,Int.reduceLT,Int.reduceLE,Int.reduceGT,Int.reduceGE,mu31,Nat.reduceBEq,↓wrap_up,↓wrap_down,↓wrap_pred,↓wrap_sub_nat,Int.reduceToNat]
    exact own_end (c:=[⟨5,0,0,n,[]⟩]) rfl rfl rfl rfl rfl (fun j=>.one fun H=>rfl)
end
section
attribute [local go_sem] evAppend AV.cells ty22 ty23 ty31 ty33 ty40 ty87
open Go.Proofs Go.RowKit Go.IntWalk
set_option maxRecDepth 100000
set_option maxHeartbeats 4000000
theorem fzL_append {j:List AV→List MB→Option (List AV×List MB)} (ys:List AV):∀(xs:List AV) (H:List MB),fzL j (xs++ys) H=(match fzL j xs H with
  | some (a,H1)=>(match fzL j ys H1 with
    | some (b,H2)=>some (a++b,H2)
    | none=>none)
  | none=>none)
 | [],H=>by
   simp only[List.nil_append,fzL]
   cases fzL j ys H with
   | none=>rfl
   | some q=>rfl
 | x::xs,H=>by
   simp only[List.cons_append,fzL]
   cases fzA j x H with
   | none=>rfl
   | some q=>
     simp only[fzL_append ys xs q.2]
     cases fzL j xs q.2 with
     | none=>rfl
     | some q2=>
       simp only[]
       cases fzL j ys q2.2 with
       | none=>rfl
       | some q3=>rfl
end
section
attribute [local go_sem] evAppend tySzE List.head?_drop Nat.mul_one sameAt_zero sameAt_two sameAt_three sameAt_four sameAt_five room_ok ty24 ty26 ty77 ty181 ty184 ty186 ty188 ty222
open Go.Proofs Go.RowKit Go.IntWalk
set_option maxRecDepth 100000
set_option maxHeartbeats 8000000
def Run138 (caps top:Int) (t:List Int) (fuel:Int) (R:RunT):Prop:=
 ∀(A K:List MB) (g:Goal) (i:Int) (c:Caps) (s:SS) (b:Bool) (s':SS),GG caps top t.length s.steps g→0≤i→i≤t.length→c.length≤1000→SPre fuel s→R g i c s=some (b,s') →
  call Tryz.prog pol1 97 [.rf A.length 1 0 0,goalA g,I i,capA c] (srH A t fuel s s.ends.length K)=some (.bool b,srH A t fuel s' s'.ends.length K)
theorem call_frzN {P:Program} {pol:Pol} {f:Nat} {args l:List AV} {H H1:List MB} (hp:pol.pure f=false) (he:pol.ext f=none) (h:frzArgs pol f 0 args H=some (l,H1)) (h2:frzArgs pol f 0 l H1=some (l,H1)) :
  call P pol f args H=call P pol f l H1:=by
 rw[call_eq,call_eq]
 unfold evStep
 simp only[hp,Bool.false_eq_true,if_false]
 unfold evBody
 simp only[he,h,h2]
theorem box138 (A K:List MB) (t:List Int) (fuel:Int) (s:SS) (e:Nat) (cells:List AV) (i:Int) (c:Caps) (hp:AV.plainL cells=true) :
  call Tryz.prog pol1 97 [.rf A.length 1 0 0,.rf (A.length+(K.length+1+1+1)) 1 0 0,I i,capA c] (srH A t fuel s e (K++[.row 12 [.agg cells] 0])) =
   call Tryz.prog pol1 97 [.rf A.length 1 0 0,.pt cells,I i,capA c] (srH A t fuel s e (K++[.row 12 [.agg cells] 1])):=by
 refine call_frzN rfl rfl ?_ (frzArgs_mix _ _ _ (by simp[mixOk,show pol1.byref 97 0=true from rfl,AV.plain,hp,plain_span]))
 have h0:pol1.byref 97 0=true:=rfl
 have h1:pol1.byref 97 1=false:=rfl
 have h2:pol1.byref 97 2=false:=rfl
 have h3:pol1.byref 97 3=false:=rfl
 have hget:∀ v,(srH A t fuel s e (K++[v]))[A.length+(K.length+1+1+1)]?=some v:=fun v=>by
  rw[List.getElem?_append_right (by omega)];simp
 have hset:∀ u v,(srH A t fuel s e (K++[u])).set (A.length+(K.length+1+1+1)) v=srH A t fuel s e (K++[v]):=fun u v=>by
  rw[List.set_append_right _ _ (by omega)];simp
 have hz:=fz_rf (id:=A.length+(K.length+1+1+1)) (tot:=1) (i:=0) (j:=0) (k:=12) (z:=0) (H:=srH A t fuel s e (K++[.row 12 [.agg cells] 0])) (els:=[.agg cells]) (x:=.agg cells) (by unfold getRow;rw[hget]) rfl rfl hp
 have hm:mark (srH A t fuel s e (K++[.row 12 [.agg cells] 0])) (A.length+(K.length+1+1+1)) (0+1)=srH A t fuel s e (K++[.row 12 [.agg cells] 1]):=by
  unfold mark getRow
  simp only[hget,hset]
  rfl
 rw[hm]at hz
 have hc:∀ H,fz (capA c) H=some (capA c,H):=fun H=>fz_plain H (by simp[AV.plain,plain_span])
 have hi:∀ H,fz (I i) H=some (I i,H):=fun H=>rfl
 simp only[frzArgs,h0,h1,h2,h3,Bool.false_eq_true,if_false,if_true,hz,hc,hi]
 rfl
theorem sr_cat {A K L:List MB} {t:List Int} {fuel:Int} {s:SS} {e:Nat}:srH A t fuel s e K++L=srH A t fuel s e (K++L):=by simp
theorem sr_get {A K L:List MB} {t:List Int} {fuel:Int} {s:SS} {e:Nat} {v:MB}:(srH A t fuel s e (K++v::L))[A.length+(K.length+1+1+1)]?=some v:=by
 rw[List.getElem?_append_right (by omega)];simp
theorem sr_set {A K L:List MB} {t:List Int} {fuel:Int} {s:SS} {e:Nat} {u v:MB}:(srH A t fuel s e (K++u::L)).set (A.length+(K.length+1+1+1)) v=srH A t fuel s e (K++v::L):=by
 rw[List.set_append_right _ _ (by omega)];simp
theorem sr_get1 {A K L:List MB} {t:List Int} {fuel:Int} {s:SS} {e:Nat} {u v:MB}:(srH A t fuel s e (K++u::v::L))[A.length+(K.length+1+1+1+1)]?=some v:=by
 rw[List.getElem?_append_right (by omega)]
 rw[show A.length+(K.length+1+1+1+1) - A.length=(K.length+1)+1+1+1 by omega]
 simp only[List.getElem?_cons_succ]
 rw[List.getElem?_append_right (by omega)];simp
theorem sr_set1 {A K L:List MB} {t:List Int} {fuel:Int} {s:SS} {e:Nat} {u v w:MB}:(srH A t fuel s e (K++u::v::L)).set (A.length+(K.length+1+1+1+1)) w=srH A t fuel s e (K++u::w::L):=by
 rw[List.set_append_right _ _ (by omega)]
 rw[show A.length+(K.length+1+1+1+1) - A.length=(K.length+1)+1+1+1 by omega]
 simp only[List.set_cons_succ]
 rw[List.set_append_right _ _ (by omega)];simp
theorem sr_same {A K L L':List MB} {t:List Int} {fuel:Int} {s:SS} {e:Nat} {u:MB}:sameAt (A.length+(K.length+1+1+1)) (srH A t fuel s e (K++u::L)) (srH A t fuel s e (K++u::L'))=true:=by
 unfold sameAt
 rw[sr_get,sr_get]
 exact MB.beq_refl u
theorem fz_two {H H1 H2:List MB} {a b:Nat} {pre ca:List AV} (hb:getRow H b=some (12,[.agg (pre++[.rf a 1 0 0])],0)) (hm:mark H b 1=H1) (ha:getRow H1 a=some (12,[.agg ca],0)) (hm2:mark H1 a 1=H2)
  (hp:AV.plainL pre=true) (hc:AV.plainL ca=true):fz (.rf b 1 0 0) H=some (.pt (pre++[.pt ca]),H2):=by
 have hin:fzA (fzJ 5) (.rf a 1 0 0) H1=some (.pt ca,H2):=by
  simp only[fzA,ha,List.length_cons,List.length_nil,Nat.zero_add,if_true,List.getElem?_cons_zero,AV.cells,List.drop_zero,hm2,fzJ,fzL_plain _ _ _ hc]
 have hl:fzL (fzJ 5) (pre++[.rf a 1 0 0]) H1=some (pre++[.pt ca],H2):=by
  rw[fzL_append,fzL_plain _ _ _ hp]
  simp only[fzL,hin]
 simp only[fz,fzA,hb,List.length_cons,List.length_nil,Nat.zero_add,if_true,List.getElem?_cons_zero,AV.cells,List.drop_zero,hm]
 show (match fzL (fzJ 5) (pre++[AV.rf a 1 0 0]) H1 with|some (ys,H')=>some (AV.pt ys,H')|none=>none)=_
 rw[hl]
theorem sr_get2 {A K L:List MB} {t:List Int} {fuel:Int} {s:SS} {e:Nat} {u v w:MB}:(srH A t fuel s e (K++u::v::w::L))[A.length+(K.length+2+1+1+1)]?=some w:=by
 rw[List.getElem?_append_right (by omega)]
 rw[show A.length+(K.length+2+1+1+1) - A.length=(K.length+2)+1+1+1 by omega]
 simp only[List.getElem?_cons_succ]
 rw[List.getElem?_append_right (by omega)];simp
theorem sr_set2 {A K L:List MB} {t:List Int} {fuel:Int} {s:SS} {e:Nat} {u v w x:MB}:(srH A t fuel s e (K++u::v::w::L)).set (A.length+(K.length+2+1+1+1)) x=srH A t fuel s e (K++u::v::x::L):=by
 rw[List.set_append_right _ _ (by omega)]
 rw[show A.length+(K.length+2+1+1+1) - A.length=(K.length+2)+1+1+1 by omega]
 simp only[List.set_cons_succ]
 rw[List.set_append_right _ _ (by omega)];simp
theorem repR_mk {fuel:Int} {R:RunT} {op:Int} {set:List (Int×Int)} {kid:Re} {mn mx md n:Int} {neg:Bool} {k:Int} {next:Goal} {i:Int} {c:Caps} {s:SS} :
 repR fuel R (.mk op set [kid] mn mx md n neg) k next i c s =
  if(stepS fuel s).empty=true then some (true,stepS fuel s)
  else if k < mn then R (.mk 0 kid 0 0 (.mk 2 (.mk op set [kid] mn mx md n neg) k i next)) i c (stepS fuel s)
  else if md=1 then orR (R next i c (stepS fuel s)) fun s2=>if(decide (mx = -1) || decide (k < mx))=true then R (.mk 0 kid 0 0 (.mk 2 (.mk op set [kid] mn mx md n neg) k i next)) i c s2 else some (false,s2)
  else orR (if(decide (mx = -1) || decide (k < mx))=true then R (.mk 0 kid 0 0 (.mk 2 (.mk op set [kid] mn mx md n neg) k i next)) i c (stepS fuel s) else some (false,stepS fuel s)) fun s2=>R next i c s2:=rfl
theorem f152 {caps top:Int} {t:List Int} {fuel:Int} (ht:t.length≤65536) (hf:0≤fuel∧fuel≤1000000) {R:RunT} (hP:RunP caps top t fuel R) (hR:Run138 caps top t fuel R)
  (A K:List MB) (re:Re) (k fr i:Int) (next:Goal) (c:Caps) (s:SS) (b:Bool) (s':SS) (h:RGood caps top re) (ho:re.op=4) (hk:0≤k∧k≤s.steps) (hi:0≤i∧i≤t.length)
  (hn:GG caps top t.length s.steps next) (hc:c.length≤1000) (hs:SPre fuel s) (he:repR fuel R re k next i c s=some (b,s')) :
  call Tryz.prog pol1 131 [.rf A.length 1 0 0,.pt (goalC 1 re k fr next),I i,capA c] (srH A t fuel s s.ends.length K)=some (.bool b,srH A t fuel s' s'.ends.length K):=by
 have h161:=fun K=>f161 A K t fuel s s.ends.length ⟨hs.st.1,by have:=hs.st;omega⟩
 have ret:=fun b s' e' L=>ret_sr (f:=131) rfl rfl b A K L t fuel s s' s.ends.length e'
 obtain⟨kid,hkid,hgk⟩:=rep_kid h ho
 have hmd:=h.md
 obtain⟨op,set,kids,mn,mx,md,n,neg⟩:=re
 simp only[Re.kids,Re.op,Re.md]at hkid ho hmd
 subst hkid
 subst ho
 have hrep:=(whole_facts h.good.whole).2.2.1 rfl
 rw[repR_mk]at he
 have hp8:=plain_goal next
 have hl8:=reC_len kid
 have ht8:=reC_take kid
 have hok8:=reC_ok kid
 have hG:goalC 1 (.mk 4 set [kid] mn mx md n neg) k fr next=[I 1,I 4,.sl false (set.map spanAV),.sl false [reAV kid],I mn,I mx,I md,I n,.bool neg,I k,I fr,goalA next]:=by
  rw[goalC,reC_mk];rfl
 have hgp:=plain_goalC 1 (.mk 4 set [kid] mn mx md n neg) k fr next
 rw[hG]at hgp ⊢
 have fr':frzArgs pol1 131 0 [.rf A.length 1 0 0,.pt [I 1,I 4,.sl false (set.map spanAV),.sl false [reAV kid],I mn,I mx,I md,I n,.bool neg,I k,I fr,goalA next],I i,capA c] (srH A t fuel s s.ends.length K)=some ([.rf A.length 1 0 0,.pt [I 1,I 4,.sl false (set.map spanAV),.sl false [reAV kid],I mn,I mx,I md,I n,.bool neg,I k,I fr,goalA next],I i,capA c],srH A t fuel s s.ends.length K):=frzArgs_mix _ _ _ (by
  simp only[mixOk,show pol1.byref 131 0=true from rfl,AV.plain,hgp,plain_span,Bool.true_or,Bool.or_true,Bool.and_self,Bool.and_true];rfl)
 refine call_run2 (pol:=pol1) Tryz.func131 rfl rfl rfl rfl fr' ?_
 by_cases h1:(stepS fuel s).empty=true
 ·rw[if_pos h1]at he
  simp only[Option.some.injEq,Prod.mk.injEq]at he
  obtain⟨rfl,rfl⟩:=he
  have h161:=fun K=>(h161 K).trans (by rw[h1])
  simp +contextual (disch:=omega) only[Tryz.f131,dd131,go_sem,↓reduceIte,List.reduceReplicate,Nat.reduceAdd,Nat.reduceSub,reduceCtorEq,AV.cells,Nat.reduceLeDiff,Nat.reduceMul,Nat.reduceLT,Nat.reduceEqDiff,Int.reduceBNe,Int.reduceBEq,Int.reduceEq,Int.reduceLT,Int.reduceLE,Int.reduceGT,Int.reduceGE,mu131,Nat.reduceBEq,↓wrap_up,↓wrap_down,↓wrap_pred,↓wrap_sub_nat,Int.reduceToNat,h161,hmd,sr_cat,sr_get,sr_set]
  exact ret true (stepS fuel s) _ _
 ·rw[if_neg h1]at he
  have h1':(stepS fuel s).empty=false:=by simpa using h1
  obtain⟨p1,p2⟩:=step_false hs h1'
  have h161:=fun K=>(h161 K).trans (by rw[h1'])
  have hst:(stepS fuel s).steps=s.steps+1:=rfl
  have hn1:=hn.mono (show s.steps≤(stepS fuel s).steps by omega)
  have hon:=once_good (next:=next) (i:=i) (L:=t.length) (steps:=(stepS fuel s).steps) h hgk rfl (k:=k) ⟨hk.1,by omega⟩ hi hn1
  have hka:∀ L L':List MB,(K++L)++L' = K++(L++L'):=fun L L'=>List.append_assoc K L L'
  have hfz:∀(R0:MB) (ca:List AV),AV.plainL ca=true→fz (.rf (A.length+(K.length+2+1+1+1)) 1 0 0) (srH A t fuel (stepS fuel s) s.ends.length (K++[R0,.row 12 [.agg ca] 0,.row 12 [.agg (I 0::(reC kid++[I 0,I 0]++[.rf (A.length+(K.length+1+1+1+1)) 1 0 0]))] 0])) =
    some (.pt (I 0::(reC kid++[I 0,I 0]++[.pt ca])),srH A t fuel (stepS fuel s) s.ends.length (K++[R0,.row 12 [.agg ca] 1,.row 12 [.agg (I 0::(reC kid++[I 0,I 0]++[.rf (A.length+(K.length+1+1+1+1)) 1 0 0]))] 1])):=fun R0 ca hca=>by
   have hpre:AV.plainL (I 0::(reC kid++[I 0,I 0]))=true:=by simp[AV.plainL,AV.plain,plainL_append,plain_reC]
   refine fz_two (H1:=srH A t fuel (stepS fuel s) s.ends.length (K++[R0,.row 12 [.agg ca] 0,.row 12 [.agg (I 0::(reC kid++[I 0,I 0]++[.rf (A.length+(K.length+1+1+1+1)) 1 0 0]))] 1])) (pre:=I 0::(reC kid++[I 0,I 0])) (a:=A.length+(K.length+1+1+1+1)) ?_ ?_ ?_ ?_ hpre hca
   ·unfold getRow;rw[sr_get2];rfl
   ·unfold mark getRow;rw[sr_get2];simp only[sr_set2];rfl
   ·unfold getRow;rw[sr_get1]
   ·unfold mark getRow;rw[sr_get1];simp only[sr_set1];rfl
  have plain_c2:AV.plainL [I 2,I 4,.sl false (set.map spanAV),.sl false [reAV kid],I mn,I mx,I md,I n,.bool neg,I k,I i,goalA next]=true:=by
   have hq:=plain_goalC 2 (.mk 4 set [kid] mn mx md n neg) k i next
   rw[goalC,reC_mk]at hq
   exact hq
  have hGo:goalA (.mk 0 kid 0 0 (.mk 2 (.mk 4 set [kid] mn mx md n neg) k i next))=.pt (I 0::(reC kid++[I 0,I 0]++[.pt [I 2,I 4,.sl false (set.map spanAV),.sl false [reAV kid],I mn,I mx,I md,I n,.bool neg,I k,I i,goalA next]])):=by
   simp only[goalA,reC_mk,List.append_assoc,List.cons_append,List.nil_append,List.map_cons,List.map_nil]
  have hO:∀(K':List MB) (s2:SS) (b:Bool) (s':SS),(stepS fuel s).steps≤s2.steps→SPre fuel s2→R (.mk 0 kid 0 0 (.mk 2 (.mk 4 set [kid] mn mx md n neg) k i next)) i c s2=some (b,s') →
    call Tryz.prog pol1 97 [.rf A.length 1 0 0,.pt (I 0::(reC kid++[I 0,I 0]++[.pt [I 2,I 4,.sl false (set.map spanAV),.sl false [reAV kid],I mn,I mx,I md,I n,.bool neg,I k,I i,goalA next]])),I i,capA c] (srH A t fuel s2 s2.ends.length K') =
     some (.bool b,srH A t fuel s' s'.ends.length K'):=fun K' s2 b s' h1 h2 e=>by
   have:=hR A K' _ i c s2 b s' (hon.mono h1) hi.1 hi.2 hc h2 e
   rwa [hGo]at this
  have hN:∀(K':List MB) (s2:SS) (b:Bool) (s':SS),(stepS fuel s).steps≤s2.steps→SPre fuel s2→R next i c s2=some (b,s') →
    call Tryz.prog pol1 97 [.rf A.length 1 0 0,goalA next,I i,capA c] (srH A t fuel s2 s2.ends.length K')=some (.bool b,srH A t fuel s' s'.ends.length K'):=fun K' s2 b s' h1 h2 e=>
   hR A K' _ i c s2 b s' (hn1.mono h1) hi.1 hi.2 hc h2 e
  have pO:=fun(b:Bool) (s':SS) e=>hP _ i c _ b s' hon hi.1 hi.2 hc p1 e
  have pN:=fun(b:Bool) (s':SS) e=>hP _ i c _ b s' hn1 hi.1 hi.2 hc p1 e
  have hmx:mx = -1∨(mx≠-1∧k < mx)∨(mx≠-1∧¬ k < mx):=by omega
  by_cases hkm:k < mn
  ·rw[if_pos hkm]at he
   have c1:=fun K'=>hO K' _ b s' (Int.le_refl _) p1 he
   rw[show (stepS fuel s).ends.length=s.ends.length from rfl]at c1
   rcases hmx with hmx|hmx|hmx
   ·simp +contextual (disch:=omega) only[Tryz.f131,dd131,go_sem,↓reduceIte,List.reduceReplicate,Nat.reduceAdd,Nat.reduceSub,reduceCtorEq,Nat.reduceLeDiff,Nat.reduceMul,Nat.reduceLT,Nat.reduceEqDiff,Int.reduceBNe,Int.reduceBEq,Int.reduceEq,Int.reduceLT,Int.reduceLE,Int.reduceGT,Int.reduceGE,mu131,Nat.reduceBEq,↓wrap_up,↓wrap_down,↓wrap_pred,↓wrap_sub_nat,Int.reduceToNat,h161,hmd,sr_cat,sr_get,sr_set,Bool.not_false,hl8,ht8,hok8,cl_agg,cl_int,cl_bool,cl_sl,cl_rf,cl_pt,cl_nilp,cl_goal,ok_goal,re_take,re_drop,List.all_append,sr_get1,sr_set1,sr_same,hka,hfz,plain_c2,c1]
    repeat' (first|apply And.intro|(unfold dOk;kernel_rfl)|exact ok_goal next|(show (_ && _)=true;kernel_rfl)|(show (_ || _)=true;kernel_rfl)|intro _)
    all_goals exact ret _ _ _ _
   ·simp +contextual (disch:=omega) only[Tryz.f131,dd131,go_sem,↓reduceIte,List.reduceReplicate,Nat.reduceAdd,Nat.reduceSub,reduceCtorEq,Nat.reduceLeDiff,Nat.reduceMul,Nat.reduceLT,Nat.reduceEqDiff,Int.reduceBNe,Int.reduceBEq,Int.reduceEq,Int.reduceLT,Int.reduceLE,Int.reduceGT,Int.reduceGE,mu131,Nat.reduceBEq,↓wrap_up,↓wrap_down,↓wrap_pred,↓wrap_sub_nat,Int.reduceToNat,h161,hmd,sr_cat,sr_get,sr_set,Bool.not_false,hl8,ht8,hok8,cl_agg,cl_int,cl_bool,cl_sl,cl_rf,cl_pt,cl_nilp,cl_goal,ok_goal,re_take,re_drop,List.all_append,sr_get1,sr_set1,sr_same,hka,hfz,plain_c2,c1]
    repeat' (first|apply And.intro|(unfold dOk;kernel_rfl)|exact ok_goal next|(show (_ && _)=true;kernel_rfl)|(show (_ || _)=true;kernel_rfl)|intro _)
    all_goals exact ret _ _ _ _
   ·simp +contextual (disch:=omega) only[Tryz.f131,dd131,go_sem,↓reduceIte,List.reduceReplicate,Nat.reduceAdd,Nat.reduceSub,reduceCtorEq,Nat.reduceLeDiff,Nat.reduceMul,Nat.reduceLT,Nat.reduceEqDiff,Int.reduceBNe,Int.reduceBEq,Int.reduceEq,Int.reduceLT,Int.reduceLE,Int.reduceGT,Int.reduceGE,mu131,Nat.reduceBEq,↓wrap_up,↓wrap_down,↓wrap_pred,↓wrap_sub_nat,Int.reduceToNat,h161,hmd,sr_cat,sr_get,sr_set,Bool.not_false,hl8,ht8,hok8,cl_agg,cl_int,cl_bool,cl_sl,cl_rf,cl_pt,cl_nilp,cl_goal,ok_goal,re_take,re_drop,List.all_append,sr_get1,sr_set1,sr_same,hka,hfz,plain_c2,c1]
    repeat' (first|apply And.intro|(unfold dOk;kernel_rfl)|exact ok_goal next|(show (_ && _)=true;kernel_rfl)|(show (_ || _)=true;kernel_rfl)|intro _)
    all_goals exact ret _ _ _ _
  ·rw[if_neg hkm]at he
   by_cases hlz:md=1
   ·subst hlz
    rw[if_pos rfl]at he
    unfold orR at he
    split at he
    ·cases he
    ·rename_i s2 e2
     simp only[Option.some.injEq,Prod.mk.injEq]at he
     obtain⟨rfl,rfl⟩:=he
     have c1:=fun K'=>hN K' _ true _ (Int.le_refl _) p1 e2
     rw[show (stepS fuel s).ends.length=s.ends.length from rfl]at c1
     rcases hmx with hmx|hmx|hmx
     ·simp +contextual (disch:=omega) only[Tryz.f131,dd131,go_sem,↓reduceIte,List.reduceReplicate,Nat.reduceAdd,Nat.reduceSub,reduceCtorEq,Nat.reduceLeDiff,Nat.reduceMul,Nat.reduceLT,Nat.reduceEqDiff,Int.reduceBNe,Int.reduceBEq,Int.reduceEq,Int.reduceLT,Int.reduceLE,Int.reduceGT,Int.reduceGE,mu131,Nat.reduceBEq,↓wrap_up,↓wrap_down,↓wrap_pred,↓wrap_sub_nat,Int.reduceToNat,h161,hmd,sr_cat,sr_get,sr_set,Bool.not_false,hl8,ht8,hok8,cl_agg,cl_int,cl_bool,cl_sl,cl_rf,cl_pt,cl_nilp,cl_goal,ok_goal,re_take,re_drop,List.all_append,sr_get1,sr_set1,sr_same,hka,hfz,plain_c2,c1]
      repeat' (first|apply And.intro|(unfold dOk;kernel_rfl)|exact ok_goal next|(show (_ && _)=true;kernel_rfl)|(show (_ || _)=true;kernel_rfl)|intro _)
      all_goals exact ret _ _ _ _
     ·simp +contextual (disch:=omega) only[Tryz.f131,dd131,go_sem,↓reduceIte,List.reduceReplicate,Nat.reduceAdd,Nat.reduceSub,reduceCtorEq,Nat.reduceLeDiff,Nat.reduceMul,Nat.reduceLT,Nat.reduceEqDiff,Int.reduceBNe,Int.reduceBEq,Int.reduceEq,Int.reduceLT,Int.reduceLE,Int.reduceGT,Int.reduceGE,mu131,Nat.reduceBEq,↓wrap_up,↓wrap_down,↓wrap_pred,↓wrap_sub_nat,Int.reduceToNat,h161,hmd,sr_cat,sr_get,sr_set,Bool.not_false,hl8,ht8,hok8,cl_agg,cl_int,cl_bool,cl_sl,cl_rf,cl_pt,cl_nilp,cl_goal,ok_goal,re_take,re_drop,List.all_append,sr_get1,sr_set1,sr_same,hka,hfz,plain_c2,c1]
      repeat' (first|apply And.intro|(unfold dOk;kernel_rfl)|exact ok_goal next|(show (_ && _)=true;kernel_rfl)|(show (_ || _)=true;kernel_rfl)|intro _)
      all_goals exact ret _ _ _ _
     ·simp +contextual (disch:=omega) only[Tryz.f131,dd131,go_sem,↓reduceIte,List.reduceReplicate,Nat.reduceAdd,Nat.reduceSub,reduceCtorEq,Nat.reduceLeDiff,Nat.reduceMul,Nat.reduceLT,Nat.reduceEqDiff,Int.reduceBNe,Int.reduceBEq,Int.reduceEq,Int.reduceLT,Int.reduceLE,Int.reduceGT,Int.reduceGE,mu131,Nat.reduceBEq,↓wrap_up,↓wrap_down,↓wrap_pred,↓wrap_sub_nat,Int.reduceToNat,h161,hmd,sr_cat,sr_get,sr_set,Bool.not_false,hl8,ht8,hok8,cl_agg,cl_int,cl_bool,cl_sl,cl_rf,cl_pt,cl_nilp,cl_goal,ok_goal,re_take,re_drop,List.all_append,sr_get1,sr_set1,sr_same,hka,hfz,plain_c2,c1]
      repeat' (first|apply And.intro|(unfold dOk;kernel_rfl)|exact ok_goal next|(show (_ && _)=true;kernel_rfl)|(show (_ || _)=true;kernel_rfl)|intro _)
      all_goals exact ret _ _ _ _
    ·rename_i s2 e2
     simp only at he
     have c1:=fun K'=>hN K' _ false s2 (Int.le_refl _) p1 e2
     rw[show (stepS fuel s).ends.length=s.ends.length from rfl]at c1
     have q2:=pN _ _ e2
     have p3:=q2.pre p1 p2
     rcases hmx with hmx|hmx|hmx
     ·rw[if_pos (by simp[hmx])]at he
      have c2:=fun K'=>hO K' _ b s' q2.st p3 he
      simp +contextual (disch:=omega) only[Tryz.f131,dd131,go_sem,↓reduceIte,List.reduceReplicate,Nat.reduceAdd,Nat.reduceSub,reduceCtorEq,Nat.reduceLeDiff,Nat.reduceMul,Nat.reduceLT,Nat.reduceEqDiff,Int.reduceBNe,Int.reduceBEq,Int.reduceEq,Int.reduceLT,Int.reduceLE,Int.reduceGT,Int.reduceGE,mu131,Nat.reduceBEq,↓wrap_up,↓wrap_down,↓wrap_pred,↓wrap_sub_nat,Int.reduceToNat,h161,hmd,sr_cat,sr_get,sr_set,Bool.not_false,hl8,ht8,hok8,cl_agg,cl_int,cl_bool,cl_sl,cl_rf,cl_pt,cl_nilp,cl_goal,ok_goal,re_take,re_drop,List.all_append,sr_get1,sr_set1,sr_same,hka,hfz,plain_c2,c1,c2]
      repeat' (first|apply And.intro|(unfold dOk;kernel_rfl)|exact ok_goal next|(show (_ && _)=true;kernel_rfl)|(show (_ || _)=true;kernel_rfl)|intro _)
      all_goals exact ret _ _ _ _
     ·rw[if_pos (by simp[hmx])]at he
      have c2:=fun K'=>hO K' _ b s' q2.st p3 he
      simp +contextual (disch:=omega) only[Tryz.f131,dd131,go_sem,↓reduceIte,List.reduceReplicate,Nat.reduceAdd,Nat.reduceSub,reduceCtorEq,Nat.reduceLeDiff,Nat.reduceMul,Nat.reduceLT,Nat.reduceEqDiff,Int.reduceBNe,Int.reduceBEq,Int.reduceEq,Int.reduceLT,Int.reduceLE,Int.reduceGT,Int.reduceGE,mu131,Nat.reduceBEq,↓wrap_up,↓wrap_down,↓wrap_pred,↓wrap_sub_nat,Int.reduceToNat,h161,hmd,sr_cat,sr_get,sr_set,Bool.not_false,hl8,ht8,hok8,cl_agg,cl_int,cl_bool,cl_sl,cl_rf,cl_pt,cl_nilp,cl_goal,ok_goal,re_take,re_drop,List.all_append,sr_get1,sr_set1,sr_same,hka,hfz,plain_c2,c1,c2]
      repeat' (first|apply And.intro|(unfold dOk;kernel_rfl)|exact ok_goal next|(show (_ && _)=true;kernel_rfl)|(show (_ || _)=true;kernel_rfl)|intro _)
      all_goals exact ret _ _ _ _
     ·rw[if_neg (by simp[hmx])]at he
      simp only[Option.some.injEq,Prod.mk.injEq]at he
      obtain⟨rfl,rfl⟩:=he
      simp +contextual (disch:=omega) only[Tryz.f131,dd131,go_sem,↓reduceIte,List.reduceReplicate,Nat.reduceAdd,Nat.reduceSub,reduceCtorEq,Nat.reduceLeDiff,Nat.reduceMul,Nat.reduceLT,Nat.reduceEqDiff,Int.reduceBNe,Int.reduceBEq,Int.reduceEq,Int.reduceLT,Int.reduceLE,Int.reduceGT,Int.reduceGE,mu131,Nat.reduceBEq,↓wrap_up,↓wrap_down,↓wrap_pred,↓wrap_sub_nat,Int.reduceToNat,h161,hmd,sr_cat,sr_get,sr_set,Bool.not_false,hl8,ht8,hok8,cl_agg,cl_int,cl_bool,cl_sl,cl_rf,cl_pt,cl_nilp,cl_goal,ok_goal,re_take,re_drop,List.all_append,sr_get1,sr_set1,sr_same,hka,hfz,plain_c2,c1]
      repeat' (first|apply And.intro|(unfold dOk;kernel_rfl)|exact ok_goal next|(show (_ && _)=true;kernel_rfl)|(show (_ || _)=true;kernel_rfl)|intro _)
      all_goals exact ret _ _ _ _
   ·rw[if_neg hlz]at he
    unfold orR at he
    rcases hmx with hmx|hmx|hmx
    ·rw[if_pos (by simp[hmx])]at he
     split at he
     ·cases he
     ·rename_i s2 e2
      simp only[Option.some.injEq,Prod.mk.injEq]at he
      obtain⟨rfl,rfl⟩:=he
      have c1:=fun K'=>hO K' _ true _ (Int.le_refl _) p1 e2
      rw[show (stepS fuel s).ends.length=s.ends.length from rfl]at c1
      simp +contextual (disch:=omega) only[Tryz.f131,dd131,go_sem,↓reduceIte,List.reduceReplicate,Nat.reduceAdd,Nat.reduceSub,reduceCtorEq,Nat.reduceLeDiff,Nat.reduceMul,Nat.reduceLT,Nat.reduceEqDiff,Int.reduceBNe,Int.reduceBEq,Int.reduceEq,Int.reduceLT,Int.reduceLE,Int.reduceGT,Int.reduceGE,mu131,Nat.reduceBEq,↓wrap_up,↓wrap_down,↓wrap_pred,↓wrap_sub_nat,Int.reduceToNat,h161,hmd,sr_cat,sr_get,sr_set,Bool.not_false,hl8,ht8,hok8,cl_agg,cl_int,cl_bool,cl_sl,cl_rf,cl_pt,cl_nilp,cl_goal,ok_goal,re_take,re_drop,List.all_append,sr_get1,sr_set1,sr_same,hka,hfz,plain_c2,c1]
      repeat' (first|apply And.intro|(unfold dOk;kernel_rfl)|exact ok_goal next|(show (_ && _)=true;kernel_rfl)|(show (_ || _)=true;kernel_rfl)|intro _)
      all_goals exact ret _ _ _ _
     ·rename_i s2 e2
      have c1:=fun K'=>hO K' _ false s2 (Int.le_refl _) p1 e2
      rw[show (stepS fuel s).ends.length=s.ends.length from rfl]at c1
      have q2:=pO _ _ e2
      have p3:=q2.pre p1 p2
      have c2:=fun K'=>hN K' _ b s' q2.st p3 he
      simp +contextual (disch:=omega) only[Tryz.f131,dd131,go_sem,↓reduceIte,List.reduceReplicate,Nat.reduceAdd,Nat.reduceSub,reduceCtorEq,Nat.reduceLeDiff,Nat.reduceMul,Nat.reduceLT,Nat.reduceEqDiff,Int.reduceBNe,Int.reduceBEq,Int.reduceEq,Int.reduceLT,Int.reduceLE,Int.reduceGT,Int.reduceGE,mu131,Nat.reduceBEq,↓wrap_up,↓wrap_down,↓wrap_pred,↓wrap_sub_nat,Int.reduceToNat,h161,hmd,sr_cat,sr_get,sr_set,Bool.not_false,hl8,ht8,hok8,cl_agg,cl_int,cl_bool,cl_sl,cl_rf,cl_pt,cl_nilp,cl_goal,ok_goal,re_take,re_drop,List.all_append,sr_get1,sr_set1,sr_same,hka,hfz,plain_c2,c1,c2]
      repeat' (first|apply And.intro|(unfold dOk;kernel_rfl)|exact ok_goal next|(show (_ && _)=true;kernel_rfl)|(show (_ || _)=true;kernel_rfl)|intro _)
      all_goals exact ret _ _ _ _
    ·rw[if_pos (by simp[hmx])]at he
     split at he
     ·cases he
     ·rename_i s2 e2
      simp only[Option.some.injEq,Prod.mk.injEq]at he
      obtain⟨rfl,rfl⟩:=he
      have c1:=fun K'=>hO K' _ true _ (Int.le_refl _) p1 e2
      rw[show (stepS fuel s).ends.length=s.ends.length from rfl]at c1
      simp +contextual (disch:=omega) only[Tryz.f131,dd131,go_sem,↓reduceIte,List.reduceReplicate,Nat.reduceAdd,Nat.reduceSub,reduceCtorEq,Nat.reduceLeDiff,Nat.reduceMul,Nat.reduceLT,Nat.reduceEqDiff,Int.reduceBNe,Int.reduceBEq,Int.reduceEq,Int.reduceLT,Int.reduceLE,Int.reduceGT,Int.reduceGE,mu131,Nat.reduceBEq,↓wrap_up,↓wrap_down,↓wrap_pred,↓wrap_sub_nat,Int.reduceToNat,h161,hmd,sr_cat,sr_get,sr_set,Bool.not_false,hl8,ht8,hok8,cl_agg,cl_int,cl_bool,cl_sl,cl_rf,cl_pt,cl_nilp,cl_goal,ok_goal,re_take,re_drop,List.all_append,sr_get1,sr_set1,sr_same,hka,hfz,plain_c2,c1]
      repeat' (first|apply And.intro|(unfold dOk;kernel_rfl)|exact ok_goal next|(show (_ && _)=true;kernel_rfl)|(show (_ || _)=true;kernel_rfl)|intro _)
      all_goals exact ret _ _ _ _
     ·rename_i s2 e2
      have c1:=fun K'=>hO K' _ false s2 (Int.le_refl _) p1 e2
      rw[show (stepS fuel s).ends.length=s.ends.length from rfl]at c1
      have q2:=pO _ _ e2
      have p3:=q2.pre p1 p2
      have c2:=fun K'=>hN K' _ b s' q2.st p3 he
      simp +contextual (disch:=omega) only[Tryz.f131,dd131,go_sem,↓reduceIte,List.reduceReplicate,Nat.reduceAdd,Nat.reduceSub,reduceCtorEq,Nat.reduceLeDiff,Nat.reduceMul,Nat.reduceLT,Nat.reduceEqDiff,Int.reduceBNe,Int.reduceBEq,Int.reduceEq,Int.reduceLT,Int.reduceLE,Int.reduceGT,Int.reduceGE,mu131,Nat.reduceBEq,↓wrap_up,↓wrap_down,↓wrap_pred,↓wrap_sub_nat,Int.reduceToNat,h161,hmd,sr_cat,sr_get,sr_set,Bool.not_false,hl8,ht8,hok8,cl_agg,cl_int,cl_bool,cl_sl,cl_rf,cl_pt,cl_nilp,cl_goal,ok_goal,re_take,re_drop,List.all_append,sr_get1,sr_set1,sr_same,hka,hfz,plain_c2,c1,c2]
      repeat' (first|apply And.intro|(unfold dOk;kernel_rfl)|exact ok_goal next|(show (_ && _)=true;kernel_rfl)|(show (_ || _)=true;kernel_rfl)|intro _)
      all_goals exact ret _ _ _ _
    ·rw[if_neg (by simp[hmx])]at he
     simp only at he
     have c1:=fun K'=>hN K' _ b s' (Int.le_refl _) p1 he
     rw[show (stepS fuel s).ends.length=s.ends.length from rfl]at c1
     simp +contextual (disch:=omega) only[Tryz.f131,dd131,go_sem,↓reduceIte,List.reduceReplicate,Nat.reduceAdd,Nat.reduceSub,reduceCtorEq,Nat.reduceLeDiff,Nat.reduceMul,Nat.reduceLT,Nat.reduceEqDiff,Int.reduceBNe,Int.reduceBEq,Int.reduceEq,Int.reduceLT,Int.reduceLE,Int.reduceGT,Int.reduceGE,mu131,Nat.reduceBEq,↓wrap_up,↓wrap_down,↓wrap_pred,↓wrap_sub_nat,Int.reduceToNat,h161,hmd,sr_cat,sr_get,sr_set,Bool.not_false,hl8,ht8,hok8,cl_agg,cl_int,cl_bool,cl_sl,cl_rf,cl_pt,cl_nilp,cl_goal,ok_goal,re_take,re_drop,List.all_append,sr_get1,sr_set1,sr_same,hka,hfz,plain_c2,c1]
     repeat' (first|apply And.intro|(unfold dOk;kernel_rfl)|exact ok_goal next|(show (_ && _)=true;kernel_rfl)|(show (_ || _)=true;kernel_rfl)|intro _)
     all_goals exact ret _ _ _ _
end
end Go.Ev
