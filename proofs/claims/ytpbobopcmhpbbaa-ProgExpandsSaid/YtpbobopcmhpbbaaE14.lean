/- Functions of the program, each with what it computes; no further conditions. -/
import Derived.Test.YtpbobopcmhpbbaaE05
import Derived.Test.YtpbobopcmhpbbaaE11
import Derived.Test.YtpbobopcmhpbbaaE13
import Derived.Test.YtpbobopcmhpbbaaE10
set_option linter.unusedVariables false
set_option linter.unusedSimpArgs false
namespace Go.Ev
attribute [local go_sem] eq_self bindW_some bindW_map bindW_ite bindW_iteN W_seq W_region W_draw W_cond W_condK W_ret W_skip W_exit W_scope W_label W_block blockK_norm blockK_ret blockK_exit WO_nil WO_cons WO_guard WD_nil WD_cons WD_guard guardV guardW_boolT guardW_boolF guardW_tup fpL_some fpL_none footprint thenK_norm thenK_ret thenK_exit put_some put_none ev_tmp ev_con ev_func ofK_int ofK_bool ofK_str ofK_nil evOp evBuiltin evCall evLen getElem_16 getElem_4 List.length_cons List.length_nil List.cons_append List.nil_append List.append_nil if_false if_true Bool.false_eq_true Bool.true_eq_false Option.map_some Option.map_none List.map_cons List.map_nil evBinOp evBin evUn asB_bool splitB_decide splitB_true splitB_false splitB_beq splitB_bne splitB_not endK_ret endK_norm List.getElem?_cons_zero List.getElem?_cons_succ evResults evResult packRes retK_norm retK_ret cellsAt mkVal evFieldAddr evField evIndexAddr evPart evStore evBuild evBuildSlice fillC fillE evSlice evMakeSlice evConvert getRow AV.cells List.head?_cons List.drop_zero List.drop_succ_cons List.take_zero List.take_succ_cons List.drop_nil List.take_nil List.all_cons List.all_nil AV.ok Bool.and_self Bool.and_true Bool.true_and and_self and_true true_and Nat.zero_add Nat.add_zero setCells splice pairsOk pairsX altW_none altW_some cfg_al WI_nil WI_cons FP.apart heapEq_refl sameAt_refl Bool.or_true Bool.true_or Bool.or_false srcElems elemsOf mutDst indDst roundK_norm roundK_exit roundK_ret List.length_map List.getElem?_map Int.toNat_natCast decide_true decide_false Bool.not_true Bool.not_false List.set set_0 set_1 set_2 set_3 set_4 look_hit look lookD_hit lookD_cons lookD_nil ins_hit ins upd_hit upd rem1_hit rem1 dropT dropSt_eq initT cfg_dd cfg_bd cfg_ra actL_nil actL_cons act1 updT_hit updT frzB retE_norm retE_ret bndO bnd evEq eqCells not_false_eq_true not_true_eq_false toList_some Array.size_empty List.length_append List.map_append tySzE List.head?_drop Nat.mul_one sameAt_zero sameAt_two sameAt_three sameAt_four sameAt_five endE_norm endE_ret head_take1 List.contains_nil List.contains_cons Bool.or_self dlt_t dlt_f dle_t dle_f dgt_t dgt_f dge_t dge_f beq_t beq_f bne_t bne_f lt_T le_T nle_T nle_F Go.IntWalk.i64_in Go.IntWalk.i64_quo Go.IntWalk.rem_in room_ok
section
attribute [local go_sem] evAppend
open Go.Proofs Go.RowKit Go.IntWalk
set_option maxRecDepth 100000
set_option linter.unusedSimpArgs false
set_option linter.unusedVariables false
set_option maxHeartbeats 8000000
def insSplit (md next other:Int):Ins:=if md=1 then⟨2,other,next,0,[]⟩ else⟨2,next,other,0,[]⟩
mutual
def codeG:Re→Nat→List Ins
 | .mk op set kids mn mx md n neg,f=>
   if op=1 then [⟨1,0,0,0,set⟩] else if op=11 then [⟨5,0,0,n,[]⟩] else if op=2 then codeCat kids f else if op=3 then codeAlt kids f
   else if op=5 then⟨4,0,0,2 * n - 2,[]⟩::(codeHd kids (f+1)++[⟨4,0,0,2 * n - 1,[]⟩])
   else if op=4 then
    let L:=lenL kids
    let copies:=(List.range mn.toNat).flatMap fun i=>codeHd kids (f+i * L)
    let p:=f+mn.toNat * L
    if mx = -1 then copies++(insSplit md ((p+1:Nat):Int) ((p+L+2:Nat):Int)::(codeHd kids (p+1)++[⟨3,(p:Int),0,0,[]⟩]))
    else copies++(List.range (mx.toNat - mn.toNat)).flatMap fun j=>insSplit md ((p+j * (L+1)+1:Nat):Int) ((f+mx.toNat * L+(mx.toNat - mn.toNat):Nat):Int)::codeHd kids (p+j * (L+1)+1)
   else []
def codeCat:List Re→Nat→List Ins
 | [],_=>[]
 | k::ks,f=>codeG k f++codeCat ks (f+lenG k)
def codeAlt:List Re→Nat→List Ins
 | [],_=>[]
 | k::ks,f=>if ks.length=0 then codeG k f else
    ⟨2,((f+1:Nat):Int),((f+lenG k+2:Nat):Int),0,[]⟩::(codeG k (f+1)++(⟨3,((f+lenL (k::ks)+2 * ks.length:Nat):Int),0,0,[]⟩::codeAlt ks (f+lenG k+2)))
def codeHd:List Re→Nat→List Ins
 | [],_=>[]
 | k::_,f=>codeG k f
end
mutual
def codable:Re→Bool
 | .mk op set kids mn mx md n neg=>(decide (op≤5) || op == 11) && codableL kids
def codableL:List Re→Bool
 | []=>true
 | k::ks=>codable k && codableL ks
end
theorem codableL_iff:∀ l:List Re,codableL l=true↔∀ k∈l,codable k=true
 | []=>by simp[codableL]
 | k::ks=>by simp[codableL,codableL_iff ks]
mutual
theorem codable_of:∀(r:Re) (ins:List Int),compG ins r=true→codable r=true
 | .mk op set kids mn mx md n neg,ins,h=>by
   rw[compG]at h
   rw[codable,Bool.and_eq_true,Bool.or_eq_true,decide_eq_true_eq,beq_iff_eq]
   split at h
   ·cases h
   ·split at h
    ·split at h
     ·cases h
     ·exact⟨.inl (by omega),codableL_of kids _ h⟩
    ·split at h
     ·cases h
     ·exact⟨by omega,codableL_of kids _ h⟩
theorem codableL_of:∀(l:List Re) (ins:List Int),compL ins l=true→codableL l=true
 | [],_,_=>rfl
 | k::ks,ins,h=>by
   rw[compL,Bool.and_eq_true]at h
   rw[codableL,codable_of k ins h.1,codableL_of ks ins h.2];rfl
end
structure GoodC (caps top:Int) (r:Re):Prop where
 whole:wholeG caps top r=true
 cod:codable r=true
theorem GoodC.kids {caps top op:Int} {set:List (Int×Int)} {kids:List Re} {mn mx md n:Int} {neg:Bool} (h:GoodC caps top (.mk op set kids mn mx md n neg)):∀ k∈kids,GoodC caps top k:=by
 intro k hk
 have h2:=h.cod
 rw[codable,Bool.and_eq_true,codableL_iff]at h2
 exact⟨(whole_facts h.whole).1 k hk,h2.2 k hk⟩
theorem GoodC.op {caps top op:Int} {set:List (Int×Int)} {kids:List Re} {mn mx md n:Int} {neg:Bool} (h:GoodC caps top (.mk op set kids mn mx md n neg)):op=0∨op=1∨op=2∨op=3∨op=4∨op=5∨op=11:=by
 have h2:=h.cod
 rw[codable,Bool.and_eq_true,Bool.or_eq_true,decide_eq_true_eq,beq_iff_eq]at h2
 have h3:=(whole_facts h.whole).2.2.2.2
 omega
theorem flat_len {α:Type} (g:Nat→List α) (L:Nat):∀ m,(∀ i,i < m→(g i).length=L)→((List.range m).flatMap g).length=m * L
 | 0,_=>by simp
 | m+1,h=>by
   rw[List.range_succ,List.flatMap_append,List.length_append,flat_len g L m (fun i hi=>h i (by omega))]
   simp only[List.flatMap_cons,List.flatMap_nil,List.append_nil,h m (by omega),Nat.succ_mul]
mutual
theorem codeG_len (caps top:Int):∀(r:Re) (f:Nat),GoodC caps top r→(codeG r f).length=lenG r
 | .mk op set kids mn mx md n neg,f,hw=>by
   have hop:=hw.op
   obtain⟨_,hkd,hrp,_,ho1,ho2⟩:=whole_facts hw.whole
   have hwk:=hw.kids
   have hcat:=codeCat_len caps top kids f hwk
   have halt:=codeAlt_len caps top kids f hwk
   have hhd:=fun f=>codeHd_len caps top kids f hwk
   rw[codeG,lenG]
   by_cases h1:op=1
   ·rw[if_pos h1,if_pos (.inl h1)];rfl
   rw[if_neg h1]
   by_cases h11:op=11
   ·rw[if_pos h11,if_pos (.inr h11)];rfl
   rw[if_neg h11,if_neg (show ¬ (op=1∨op=11) by omega)]
   by_cases h2:op=2
   ·rw[if_pos h2,if_neg (show ¬ op=3 by omega),if_neg (show ¬ op=5 by omega),if_neg (show ¬ op=4 by omega)];exact hcat
   rw[if_neg h2]
   by_cases h3:op=3
   ·subst h3
    rw[if_pos rfl,if_pos rfl]
    have:2≤kids.length:=by simpa [kidsG] using hkd
    exact halt (by omega)
   rw[if_neg h3,if_neg h3]
   have hone:op=4∨op=5→kids.length=1:=fun e=>by rcases e with rfl|rfl<;>simpa [kidsG] using hkd
   by_cases h5:op=5
   ·rw[if_pos h5,if_pos h5]
    simp[hhd _ (hone (.inr h5))]
   rw[if_neg h5,if_neg h5]
   by_cases h4:op=4
   ·rw[if_pos h4,if_pos h4]
    have hh:=fun f=>hhd f (hone (.inl h4))
    have hr:=hrp h4
    simp only[repG,Bool.and_eq_true,Bool.or_eq_true,decide_eq_true_eq,beq_iff_eq]at hr
    by_cases hm:mx = -1
    ·simp only[if_pos hm,List.length_append,List.length_cons,List.length_nil]
     rw[flat_len _ (lenL kids) _ (fun i _=>hh _),hh,Nat.succ_mul]
     omega
    ·simp only[if_neg hm,List.length_append]
     rw[flat_len _ (lenL kids) _ (fun i _=>hh _),flat_len _ (lenL kids+1) _ (fun i _=>by simp[hh])]
     obtain⟨e,he⟩:∃ e,mx.toNat=mn.toNat+e:=⟨mx.toNat - mn.toNat,by omega⟩
     rw[he,Nat.add_sub_cancel_left,Nat.add_mul,Nat.mul_add]
     omega
   rw[if_neg h4,if_neg h4]
   have hk0:kids=[]:=by
    have:op=0:=by omega
    subst this
    exact List.length_eq_zero_iff.1 (by simpa [kidsG] using hkd)
   rw[hk0];rfl
theorem codeCat_len (caps top:Int):∀(l:List Re) (f:Nat),(∀ k∈l,GoodC caps top k)→(codeCat l f).length=lenL l
 | [],f,_=>rfl
 | k::ks,f,h=>by
   rw[codeCat,lenL,List.length_append,codeG_len caps top k f (h k (List.mem_cons_self ..)),codeCat_len caps top ks _ (fun k hk=>h k (List.mem_cons_of_mem _ hk))]
theorem codeAlt_len (caps top:Int):∀(l:List Re) (f:Nat),(∀ k∈l,GoodC caps top k)→1≤l.length→(codeAlt l f).length=lenL l+2 * (l.length - 1)
 | [],f,_,h=>by simp at h
 | k::ks,f,h,_=>by
   have hk:=fun f=>codeG_len caps top k f (h k (List.mem_cons_self ..))
   rw[codeAlt]
   split
   ·rename_i h0
    have:ks=[]:=List.length_eq_zero_iff.1 h0
    subst this
    simp[hk,lenL]
   ·rename_i h0
    have:=codeAlt_len caps top ks (f+lenG k+2) (fun k hk=>h k (List.mem_cons_of_mem _ hk)) (by omega)
    simp only[List.length_cons,List.length_append,hk,this,lenL]
    omega
theorem codeHd_len (caps top:Int):∀(l:List Re) (f:Nat),(∀ k∈l,GoodC caps top k)→l.length=1→(codeHd l f).length=lenL l
 | [],f,_,h=>by simp at h
 | k::ks,f,h,hl=>by
   have:ks=[]:=List.length_eq_zero_iff.1 (by simpa using hl)
   subst this
   rw[codeHd,codeG_len caps top k f (h k (List.mem_cons_self ..))]
   simp[lenL]
end
end
section
attribute [local go_sem] ty0 ty3 ty4 ty24 ty26 ty39 ty108
open Go.Proofs Go.RowKit Go.IntWalk
set_option maxRecDepth 100000
set_option linter.unusedSimpArgs false
set_option linter.unusedVariables false
set_option maxHeartbeats 8000000
theorem ins_cells (l:List Ins):(l.map insAV).all (fun y=>decide (y.cells.length=5) && y.cells.all AV.ok)=true:=by
 rw[List.all_eq_true]
 intro x hx
 obtain⟨i,_,rfl⟩:=List.mem_map.1 hx
 rfl
theorem app_row {H:List MB} {i j n m z z2:Nat} {els:List AV} {l:List Ins} (hi:getRow H i=some (5,els,z)) (hj:getRow H j=some (5,l.map insAV,z2)) (hn:els.length=n) (hm:l.length=m) (hz:z≤n) (hr:n+m≤4000000000) :
 evAppend Try.prog H 39 39 (.ms i 5 n 0 n) (.ms j 5 m 0 m)=some (.ms i 5 (n+m) 0 (n+m),H.set i (.row 5 (els++l.map insAV) z)):=by
 have hl:(l.map insAV).length=m:=by simp[hm]
 have hs:srcElems Try.prog H 108 (.ms j 5 m 0 m)=some (l.map insAV):=by
  simp only[srcElems,elemsOf,hj,hl,Nat.zero_add,Nat.le_refl,and_self,if_true,List.drop_zero]
  rw[List.take_of_length_le (by omega)]
 rw[evAppend_end (e:=108) (by kernel_rfl) (by kernel_rfl) (k:=5) (by kernel_rfl) (by_:=56) (by kernel_rfl) (ze:=.agg [I 0,I 0,I 0,I 0,.sl true []]) (by kernel_rfl) rfl (by omega) hs (ins_cells l) hi hn hz (by rw[hl];exact room_ok hr (by omega)),hl]
theorem app_one {H:List MB} {i n z:Nat} {els:List AV} {y:AV} {t:Bool} (hi:getRow H i=some (5,els,z)) (hn:els.length=n) (hy:(decide (y.cells.length=5) && y.cells.all AV.ok)=true) (hz:z≤n) (hr:n+1≤4000000000) :
 evAppend Try.prog H 39 39 (.ms i 5 n 0 n) (.sl t [y])=some (.ms i 5 (n+1) 0 (n+1),H.set i (.row 5 (els++[y]) z)):=by
 have hs:srcElems Try.prog H 108 (.sl t [y])=some [y]:=rfl
 rw[evAppend_end (e:=108) (by kernel_rfl) (by kernel_rfl) (k:=5) (by kernel_rfl) (by_:=56) (by kernel_rfl) (ze:=.agg [I 0,I 0,I 0,I 0,.sl true []]) (by kernel_rfl) rfl (by omega) hs (by simp only[List.all_cons,List.all_nil,hy,Bool.and_true]) hi hn hz (room_ok hr (by omega))]
 rfl
theorem keep_ins {j:List AV→List MB→Option (List AV×List MB)} (l:List Ins):KeepL j (l.map insAV) (l.map insAV):=KeepL.plain (plain_ins l)
theorem f54' (caps top:Int) (r:Re) (hN:r.wt≤1000000) (hw:wholeG caps top r=true) (hl:lenG r≤8192) (H:List MB):call Try.prog pol1 54 [reAV r] H=some (I (lenG r:Nat),H):=by
 rw[f54 caps top r.wt r (Nat.le_refl _) hN hw H,Nat.min_eq_left (by omega)]
theorem own_ins {f id n:Nat} {els:List AV} {c:List Ins} {H:List MB} (hk:pol1.keep f=false) (ho:pol1.own f=true) (hr:getRow H id=some (5,els,0)) (hn:c.length=n) (hK:∀ j,KeepL j els (c.map insAV)) :
 retPol pol1 f [] (.ms id 5 n 0 n) H=some (.ms 0 5 n 0 n,[.row 5 (c.map insAV) 0]):=by
 have hl:=(hK (fun _ _=>none)).len
 rw[List.length_map]at hl
 exact retPol_own (els:=els) hk ho hr (by omega) ((hK _).fz H) hr (plain_ins c) (by simp[hn])
theorem own_end {f id n:Nat} {els xs:List AV} {c:List Ins} {H:List MB} (hk:pol1.keep f=false) (ho:pol1.own f=true) (hr:getRow H id=some (5,els,0)) (hn:c.length=n) (hx:xs=c.map insAV) (hK:∀ j,KeepL j els (c.map insAV)) :
 retPol pol1 f [] (.ms id 5 n 0 n) H=some (.ms 0 5 n 0 n,[.row 5 xs 0]):=hx ▸ own_ins hk ho hr hn hK
def Does55 (r:Re):Prop:=lenG r≤8192→∀ f:Nat,f+lenG r≤100000→∀ H,call Try.prog pol1 55 [reAV r,I f] H=some (.ms H.length 5 (lenG r) 0 (lenG r),H++[.row 5 ((codeG r f).map insAV) 0])
def copiesG (k:Re) (f i:Nat):List Ins:=(List.range i).flatMap fun i=>codeG k (f+i * lenG k)
theorem copies_succ (k:Re) (f i:Nat):copiesG k f (i+1)=copiesG k f i++codeG k (f+i * lenG k):=by
 simp[copiesG,List.range_succ,List.flatMap_append]
theorem copies_len {caps top:Int} {k:Re} (h:GoodC caps top k) (f i:Nat):(copiesG k f i).length=i * lenG k:=flat_len _ _ _ (fun i _=>codeG_len caps top k _ h)
def optsG (md:Int) (k:Re) (p e i:Nat):List Ins:=(List.range i).flatMap fun j=>insSplit md ((p+j * (lenG k+1)+1:Nat):Int) (e:Nat)::codeG k (p+j * (lenG k+1)+1)
theorem opts_succ (md:Int) (k:Re) (p e i:Nat):optsG md k p e (i+1)=optsG md k p e i++insSplit md ((p+i * (lenG k+1)+1:Nat):Int) (e:Nat)::codeG k (p+i * (lenG k+1)+1):=by
 simp[optsG,List.range_succ,List.flatMap_append]
theorem opts_len {caps top:Int} {k:Re} (h:GoodC caps top k) (md:Int) (p e i:Nat):(optsG md k p e i).length=i * (lenG k+1):=flat_len _ _ _ (fun i _=>by simp[codeG_len caps top k _ h])
def restG (md:Int) (k:Re) (f m e i:Nat):List Ins:=copiesG k f m++optsG md k (f+m * lenG k) e i
theorem rest_zero (md:Int) (k:Re) (f m e:Nat):restG md k f m e 0=copiesG k f m:=by simp[restG,optsG]
theorem rest_succ (md:Int) (k:Re) (f m e i:Nat):restG md k f m e (i+1)=restG md k f m e i++insSplit md ((f+m * lenG k+i * (lenG k+1)+1:Nat):Int) (e:Nat)::codeG k (f+m * lenG k+i * (lenG k+1)+1):=by
 rw[restG,opts_succ,← List.append_assoc];rfl
theorem rest_len {caps top:Int} {k:Re} (h:GoodC caps top k) (md:Int) (f m e i:Nat):(restG md k f m e i).length=m * lenG k+i * (lenG k+1):=by
 rw[restG,List.length_append,copies_len h,opts_len h]
theorem f116 (caps top:Int) (set:List (Int×Int)) (k:Re) (mn mx md n:Int) (neg:Bool) (hw:GoodC caps top (.mk 4 set [k] mn mx md n neg)) (hN:(Re.mk 4 set [k] mn mx md n neg).wt≤1000000) (ih:Does55 k)
 (hl:lenG (.mk 4 set [k] mn mx md n neg)≤8192) (f:Nat) (hf:f+lenG (.mk 4 set [k] mn mx md n neg)≤100000) (H:List MB) :
 call Try.prog pol1 116 [reAV (.mk 4 set [k] mn mx md n neg),I f] H=some (.ms H.length 5 (lenG (.mk 4 set [k] mn mx md n neg)) 0 (lenG (.mk 4 set [k] mn mx md n neg)),H++[.row 5 ((codeG (.mk 4 set [k] mn mx md n neg) f).map insAV) 0]):=by
 have hlen:=codeG_len caps top _ f hw
 have h54:=f54' caps top _ hN hw.whole hl
 have hgk:GoodC caps top k:=hw.kids k (List.mem_singleton.2 rfl)
 have hr:=(whole_facts hw.whole).2.2.1 rfl
 simp only[repG,Bool.and_eq_true,Bool.or_eq_true,decide_eq_true_eq,beq_iff_eq]at hr
 obtain⟨mn',rfl⟩:∃ m:Nat,mn=m:=⟨mn.toNat,by omega⟩
 have hmn:mn'≤32:=by omega
 have hll:lenL [k]=lenG k:=by simp[lenL]
 have hlr:mn' * lenG k≤lenG (.mk 4 set [k] mn' mx md n neg)∧(1≤mn'∨mx = -1∨(mn':Int) < mx→lenG k≤lenG (.mk 4 set [k] mn' mx md n neg)):=by
  rw[lenG,if_neg (by omega),if_neg (by omega),if_neg (by omega),if_pos rfl,hll,Int.toNat_natCast]
  split
  ·rw[Nat.succ_mul];omega
  ·obtain⟨e,he⟩:∃ e:Nat,mx=(mn' + e:Nat):=⟨(mx - mn').toNat,by omega⟩
   subst he
   rw[Int.toNat_natCast,Nat.add_mul]
   have:1≤mn'→lenG k≤mn' * lenG k:=fun h=>Nat.le_mul_of_pos_left _ h
   have:1≤e→lenG k≤e * lenG k:=fun h=>Nat.le_mul_of_pos_left _ h
   omega
 have e0:reAV (.mk 4 set [k] mn' mx md n neg)=.agg (nodeL 4 set [k] mn' mx md n neg):=congrArg AV.agg reC_mk
 rw[e0]at h54 ⊢
 have hcl:=fun i=>copies_len hgk f i
 have hl8:=reC_len k
 have ht8:=reC_take k
 refine call_runO (k:=5) (els:=(codeG (.mk 4 set [k] mn' mx md n neg) f).map insAV) Try.func116 rfl rfl rfl rfl (fun _=>rfl) (by simp[AV.plain,AV.plainL,plain_span,plain_kids,plain_reC]) (plain_ins _) ?_ H
 simp +contextual (disch:=omega) only[Try.f116,dd116,go_sem,↓reduceIte,evAppend,List.reduceReplicate,Nat.reduceAdd,Nat.reduceSub,reduceCtorEq,Nat.reduceLeDiff,Nat.reduceMul,Nat.reduceLT,Nat.reduceEqDiff,Int.reduceBNe,Int.reduceBEq,Int.reduceEq,Int.reduceLT,Int.reduceLE,Int.reduceGT,Int.reduceGE,mu116,Nat.reduceBEq,↓wrap_up,↓wrap_down,↓wrap_pred,↓wrap_sub_nat,Int.reduceToNat]
 refine W_count (M:=(mskOf (pol1.mask 116) (pol1.gc 116) (pol1.acts 116) 0 3)) rfl mn' (fun i=>(⟨112,[(6,I i),(5,.ms 1 5 (i * lenG k) 0 (i * lenG k)),(2,.rf 0 1 0 0),(1,I f)],[.row 8 [.agg (nodeL 4 set [k] mn' mx md n neg)] 0,.row 5 ((copiesG k f i).map insAV) 0]⟩:St)) (fun _=>True) ?_ ?_ trivial _ ?_
 ·intro i hi _
  have e1:=copies_succ k f i
  have e3:(i+1) * lenG k=i * lenG k+lenG k:=Nat.succ_mul ..
  have e4:(i+1) * lenG k≤mn' * lenG k:=Nat.mul_le_mul_right _ hi
  have ihk:=ih (by omega) (f+i * lenG k) (by omega)
  have e2:=hcl i
  have hk5:=codeG_len caps top k (f+i * lenG k) hgk
  have hadd:(f:Int)+((i * lenG k:Nat):Int)=((f+i * lenG k:Nat):Int):=by omega
  have happ:=fun b0=>app_row (H:=[b0,.row 5 ((copiesG k f i).map insAV) 0,.row 5 ((codeG k (f+i * lenG k)).map insAV) 0]) (i:=1) (j:=2) (n:=i * lenG k) (m:=lenG k) rfl rfl (by rw[List.length_map];exact e2) hk5 (Nat.zero_le _) (by omega)
  simp +contextual (disch:=omega) only[Try.f116,dd116,go_sem,↓reduceIte,List.reduceReplicate,Nat.reduceAdd,Nat.reduceSub,reduceCtorEq,Nat.reduceLeDiff,Nat.reduceMul,Nat.reduceLT,Nat.reduceEqDiff,Int.reduceBNe,Int.reduceBEq,Int.reduceEq,Int.reduceLT,Int.reduceLE,Int.reduceGT,Int.reduceGE,mu116,Nat.reduceBEq,↓wrap_up,↓wrap_down,↓wrap_pred,↓wrap_sub_nat,Int.reduceToNat,ihk,hadd,happ,hl8,ht8]
  rw[e1,e3,List.map_append]
  exact(by first|rfl|(refine prep_to (n:=2) (m:=⟨some [6,5,2,1],some 2,[]⟩) rfl rfl ?_ ?_ ?_<;>first|rfl|(simp[keepT,AV.underL,AV.under,MB.under,underL_plain,under_plain,underL_append,plain_ints,plain_span,plain_ins,plain_prg,-List.map_take,-List.map_replicate,-List.map_set,plain_kids,plain_reC];done)|(simp[keepT,AV.underL,AV.under,MB.under,underL_plain,under_plain,underL_append,plain_ints,plain_span,plain_ins,plain_prg,-List.map_take,-List.map_replicate,-List.map_set,plain_kids,plain_reC];omega)))
 ·intro _
  have e2:=hcl mn'
  have hadd:(f:Int)+((mn' * lenG k:Nat):Int)=((f+mn' * lenG k:Nat):Int):=by omega
  by_cases hmx:mx = -1
  ·subst hmx
   have hcode:codeG (.mk 4 set [k] mn' (-1) md n neg) f=copiesG k f mn'++insSplit md ((f+mn' * lenG k+1:Nat):Int) ((f+mn' * lenG k+lenG k+2:Nat):Int)::(codeG k (f+mn' * lenG k+1)++[⟨3,(f+mn' * lenG k:Nat),0,0,[]⟩]):=by
    rw[codeG]
    simp only[copiesG,hll,codeHd,Int.toNat_natCast,if_true]
    rfl
   have hL:lenG (.mk 4 set [k] mn' (-1) md n neg)=mn' * lenG k+1+lenG k+1:=by
    rw[lenG,if_neg (by omega),if_neg (by omega),if_neg (by omega),if_pos rfl,if_pos rfl,hll,Int.toNat_natCast,Nat.succ_mul]
    omega
   rw[hcode]at hlen ⊢
   rw[hL]at hlen hl hf ⊢
   have hk5:=codeG_len caps top k (f+mn' * lenG k+1) hgk
   have ihk:=ih (by omega) (f+mn' * lenG k+1) (by omega)
   generalize hC:copiesG k f mn' = C at *
   generalize hA:mn' * lenG k=a at *
   generalize hB:codeG k (f+a+1)=B at *
   have hadd2:((f+a:Nat):Int)+(lenG k:Int)=((f+a+lenG k:Nat):Int):=by omega
   have hap1:=fun b0 X x y=>app_one (H:=[b0,.row 5 (C.map insAV) 0,.row 5 (B.map insAV) 0,X]) (i:=1) (n:=a) (t:=true) (y:=.agg [I 2,I x,I y,I 0,.sl true []]) rfl (by rw[List.length_map];exact e2) rfl (Nat.zero_le _) (by omega)
   have hap2:=fun b0 X y=>app_row (H:=[b0,.row 5 (C.map insAV++[y]) 0,.row 5 (B.map insAV) 0,X]) (i:=1) (j:=2) (n:=a+1) (m:=lenG k) rfl rfl (by simp[e2]) hk5 (Nat.zero_le _) (by omega)
   have hap3:=fun b0 X y w=>app_one (H:=[b0,.row 5 (C.map insAV++[y]++B.map insAV) 0,.row 5 (B.map insAV) 0,X]) (i:=1) (n:=a+1+lenG k) (t:=true) (y:=.agg [I 3,I w,I 0,I 0,.sl true []]) rfl (by simp[e2,hk5];omega) rfl (Nat.zero_le _) (by omega)
   by_cases hmd:md=1
   ·subst hmd
    simp +contextual (disch:=omega) only[Try.f116,dd116,go_sem,↓reduceIte,List.reduceReplicate,Nat.reduceAdd,Nat.reduceSub,reduceCtorEq,Nat.reduceLeDiff,Nat.reduceMul,Nat.reduceLT,Nat.reduceEqDiff,Int.reduceBNe,Int.reduceBEq,Int.reduceEq,Int.reduceLT,Int.reduceLE,Int.reduceGT,Int.reduceGE,mu116,Nat.reduceBEq,↓wrap_up,↓wrap_down,↓wrap_pred,↓wrap_sub_nat,Int.reduceToNat,ihk,hadd,hadd2,hap1,hap2,hap3,hl8,ht8]
    refine own_end (c:=C++insSplit 1 ((f+a+1:Nat):Int) ((f+a+lenG k+2:Nat):Int)::(B++[⟨3,(f+a:Nat),0,0,[]⟩])) rfl rfl rfl (by simpa using hlen) (by simp only[List.map_append,List.map_cons,List.map_nil]) (fun j=>?_)
    simp only[List.map_append,List.map_cons,List.map_nil,List.append_assoc,List.cons_append,List.nil_append,insSplit,if_true]
    exact(keep_ins C).append (.cons (fun H=>rfl) ((keep_ins B).append (.one fun H=>rfl)))
   ·simp +contextual (disch:=omega) only[Try.f116,dd116,go_sem,↓reduceIte,List.reduceReplicate,Nat.reduceAdd,Nat.reduceSub,reduceCtorEq,Nat.reduceLeDiff,Nat.reduceMul,Nat.reduceLT,Nat.reduceEqDiff,Int.reduceBNe,Int.reduceBEq,Int.reduceEq,Int.reduceLT,Int.reduceLE,Int.reduceGT,Int.reduceGE,mu116,Nat.reduceBEq,↓wrap_up,↓wrap_down,↓wrap_pred,↓wrap_sub_nat,Int.reduceToNat,ihk,hadd,hadd2,hap1,hap2,hap3,hl8,ht8]
    refine own_end (c:=C++insSplit md ((f+a+1:Nat):Int) ((f+a+lenG k+2:Nat):Int)::(B++[⟨3,(f+a:Nat),0,0,[]⟩])) rfl rfl rfl (by simpa using hlen) (by simp only[List.map_append,List.map_cons,List.map_nil]) (fun j=>?_)
    simp only[List.map_append,List.map_cons,List.map_nil,List.append_assoc,List.cons_append,List.nil_append,insSplit,hmd,if_false]
    exact(keep_ins C).append (.cons (fun H=>rfl) ((keep_ins B).append (.one fun H=>rfl)))
  ·obtain⟨e,rfl⟩:∃ e:Nat,mx=(mn' + e:Nat):=⟨(mx - mn').toNat,by omega⟩
   have hnn:mn' + e - mn' = e:=by omega
   have hL:lenG (.mk 4 set [k] mn' (mn' + e:Nat) md n neg)=mn' * lenG k+e * (lenG k+1):=by
    rw[lenG,if_neg (by omega),if_neg (by omega),if_neg (by omega),if_pos rfl,if_neg hmx,hll,Int.toNat_natCast,Int.toNat_natCast,hnn,Nat.add_mul,Nat.mul_succ]
    omega
   have hcode:codeG (.mk 4 set [k] mn' (mn' + e:Nat) md n neg) f=restG md k f mn' (f+lenG (.mk 4 set [k] mn' (mn' + e:Nat) md n neg)) e:=by
    rw[codeG,if_neg (by omega),if_neg (by omega),if_neg (by omega),if_neg (by omega),if_neg (by omega),if_pos rfl,if_neg hmx]
    simp only[hll,Int.toNat_natCast,hnn,restG,optsG,copiesG,codeHd]
    have:f+(mn' + e) * lenG k+e=f+lenG (.mk 4 set [k] mn' (mn' + e:Nat) md n neg):=by
     rw[hL,Nat.add_mul,Nat.mul_succ];omega
    rw[this]
   generalize hLL:lenG (.mk 4 set [k] mn' (mn' + e:Nat) md n neg)=LL at *
   rw[hcode]at hlen ⊢
   have hrl:=fun i=>rest_len hgk md f mn' (f+LL) i
   have hadL:(f:Int)+(LL:Int)=((f+LL:Nat):Int):=by omega
   have h54':∀ H,call Try.prog pol1 54 [.agg [I 4,.sl false (set.map spanAV),.sl false [reAV k],I mn',I (mn' + e:Nat),I md,I n,.bool neg]] H=some (I (LL:Nat),H):=h54
   simp +contextual (disch:=omega) only[Try.f116,dd116,go_sem,↓reduceIte,List.reduceReplicate,Nat.reduceAdd,Nat.reduceSub,reduceCtorEq,Nat.reduceLeDiff,Nat.reduceMul,Nat.reduceLT,Nat.reduceEqDiff,Int.reduceBNe,Int.reduceBEq,Int.reduceEq,Int.reduceLT,Int.reduceLE,Int.reduceGT,Int.reduceGE,mu116,Nat.reduceBEq,↓wrap_up,↓wrap_down,↓wrap_pred,↓wrap_sub_nat,Int.reduceToNat,h54',hadL]
   refine W_count (M:=(mskOf (pol1.mask 116) (pol1.gc 116) (pol1.acts 116) 0 17)) rfl e (fun i=>(⟨112,[(12,I (mn' + i:Nat)),(11,I (f+LL:Nat)),(5,.ms 1 5 (mn' * lenG k+i * (lenG k+1)) 0 (mn' * lenG k+i * (lenG k+1))),(2,.rf 0 1 0 0),(1,I f)],[.row 8 [.agg (nodeL 4 set [k] mn' (mn' + e:Nat) md n neg)] 0,.row 5 ((restG md k f mn' (f+LL) i).map insAV) 0]⟩:St)) (fun _=>True) ?_ ?_ trivial _ ?_
   ·intro i hi _
    have e1:=rest_succ md k f mn' (f+LL) i
    have e3:(i+1) * (lenG k+1)=i * (lenG k+1)+lenG k+1:=by rw[Nat.succ_mul];omega
    have e4:(i+1) * (lenG k+1)≤e * (lenG k+1):=Nat.mul_le_mul_right _ hi
    have e5:((mn' + i+1:Nat):Int)=((mn' + (i+1):Nat):Int):=by omega
    have hrli:=hrl i
    have e6:mn' * lenG k+i * (lenG k+1)+1+lenG k=mn' * lenG k+(i+1) * (lenG k+1):=by omega
    have ihk:=ih (by omega) (f+mn' * lenG k+i * (lenG k+1)+1) (by omega)
    have hk5:=codeG_len caps top k (f+mn' * lenG k+i * (lenG k+1)+1) hgk
    have had2:(f:Int)+((mn' * lenG k+i * (lenG k+1):Nat):Int)=((f+mn' * lenG k+i * (lenG k+1):Nat):Int):=by omega
    have hap1:=fun b0 X x y=>app_one (H:=[b0,.row 5 ((restG md k f mn' (f+LL) i).map insAV) 0,X]) (i:=1) (n:=mn' * lenG k+i * (lenG k+1)) (t:=true) (y:=.agg [I 2,I x,I y,I 0,.sl true []]) rfl (by rw[List.length_map];exact hrli) rfl (Nat.zero_le _) (by omega)
    have hz:=fun(x y:Int) (H:List MB)=>KeepL.fz (j:=fzJ 6) ((keep_ins (restG md k f mn' (f+LL) i)).append (KeepL.one (x:=.agg [I 2,I x,I y,I 0,.sl true []]) (y:=.agg [I 2,I x,I y,I 0,.sl false []]) (fun H=>rfl))) H
    have hz2:∀(x y:Int) (H:List MB),fzs ((restG md k f mn' (f+LL) i).map insAV++[.agg [I 2,I x,I y,I 0,.sl true []]]) H=some ((restG md k f mn' (f+LL) i).map insAV++[.agg [I 2,I x,I y,I 0,.sl false []]],H):=hz
    have hap2:=fun b0 X y=>app_row (H:=[b0,.row 5 ((restG md k f mn' (f+LL) i).map insAV++[y]) 0,X,.row 5 ((codeG k (f+mn' * lenG k+i * (lenG k+1)+1)).map insAV) 0]) (i:=1) (j:=3) (n:=mn' * lenG k+i * (lenG k+1)+1) (m:=lenG k) rfl rfl (by simp[hrli]) hk5 (Nat.zero_le _) (by omega)
    by_cases hmd:md=1
    ·subst hmd
     simp +contextual (disch:=omega) only[Try.f116,dd116,go_sem,↓reduceIte,List.reduceReplicate,Nat.reduceAdd,Nat.reduceSub,reduceCtorEq,Nat.reduceLeDiff,Nat.reduceMul,Nat.reduceLT,Nat.reduceEqDiff,Int.reduceBNe,Int.reduceBEq,Int.reduceEq,Int.reduceLT,Int.reduceLE,Int.reduceGT,Int.reduceGE,mu116,Nat.reduceBEq,↓wrap_up,↓wrap_down,↓wrap_pred,↓wrap_sub_nat,Int.reduceToNat,ihk,had2,hap1,hz2,hap2,hl8,ht8,AV.beqL_refl]
     have er:(restG 1 k f mn' (f+LL) (i+1)).map insAV=(restG 1 k f mn' (f+LL) i).map insAV++[.agg [I 2,I (f+LL:Nat),I (f+mn' * lenG k+i * (lenG k+1)+1:Nat),I 0,.sl false []]]++(codeG k (f+mn' * lenG k+i * (lenG k+1)+1)).map insAV:=by
      rw[e1,List.map_append,List.map_cons,List.append_assoc,List.singleton_append,insSplit,if_pos rfl]
      rfl
     rw[er,← e6,← e5]
     exact(by first|rfl|(refine prep_to (n:=2) (m:=⟨some [12,11,5,2,1],some 2,[]⟩) rfl rfl ?_ ?_ ?_<;>first|rfl|(simp[keepT,AV.underL,AV.under,MB.under,underL_plain,under_plain,underL_append,plain_ints,plain_span,plain_ins,plain_prg,-List.map_take,-List.map_replicate,-List.map_set,plain_kids,plain_reC];done)|(simp[keepT,AV.underL,AV.under,MB.under,underL_plain,under_plain,underL_append,plain_ints,plain_span,plain_ins,plain_prg,-List.map_take,-List.map_replicate,-List.map_set,plain_kids,plain_reC];omega)))
    ·simp +contextual (disch:=omega) only[Try.f116,dd116,go_sem,↓reduceIte,List.reduceReplicate,Nat.reduceAdd,Nat.reduceSub,reduceCtorEq,Nat.reduceLeDiff,Nat.reduceMul,Nat.reduceLT,Nat.reduceEqDiff,Int.reduceBNe,Int.reduceBEq,Int.reduceEq,Int.reduceLT,Int.reduceLE,Int.reduceGT,Int.reduceGE,mu116,Nat.reduceBEq,↓wrap_up,↓wrap_down,↓wrap_pred,↓wrap_sub_nat,Int.reduceToNat,ihk,had2,hap1,hz2,hap2,hl8,ht8,AV.beqL_refl]
     have er:(restG md k f mn' (f+LL) (i+1)).map insAV=(restG md k f mn' (f+LL) i).map insAV++[.agg [I 2,I (f+mn' * lenG k+i * (lenG k+1)+1:Nat),I (f+LL:Nat),I 0,.sl false []]]++(codeG k (f+mn' * lenG k+i * (lenG k+1)+1)).map insAV:=by
      rw[e1,List.map_append,List.map_cons,List.append_assoc,List.singleton_append,insSplit,if_neg hmd]
      rfl
     rw[er,← e6,← e5]
     exact(by first|rfl|(refine prep_to (n:=2) (m:=⟨some [12,11,5,2,1],some 2,[]⟩) rfl rfl ?_ ?_ ?_<;>first|rfl|(simp[keepT,AV.underL,AV.under,MB.under,underL_plain,under_plain,underL_append,plain_ints,plain_span,plain_ins,plain_prg,-List.map_take,-List.map_replicate,-List.map_set,plain_kids,plain_reC];done)|(simp[keepT,AV.underL,AV.under,MB.under,underL_plain,under_plain,underL_append,plain_ints,plain_span,plain_ins,plain_prg,-List.map_take,-List.map_replicate,-List.map_set,plain_kids,plain_reC];omega)))
   ·intro _
    have hre:=hrl e
    simp +contextual (disch:=omega) only[Try.f116,dd116,go_sem,↓reduceIte,List.reduceReplicate,Nat.reduceAdd,Nat.reduceSub,reduceCtorEq,Nat.reduceLeDiff,Nat.reduceMul,Nat.reduceLT,Nat.reduceEqDiff,Int.reduceBNe,Int.reduceBEq,Int.reduceEq,Int.reduceLT,Int.reduceLE,Int.reduceGT,Int.reduceGE,mu116,Nat.reduceBEq,↓wrap_up,↓wrap_down,↓wrap_pred,↓wrap_sub_nat,Int.reduceToNat,hl8,ht8]
    rw[hL]at hlen ⊢
    exact own_end rfl rfl rfl hlen rfl (fun j=>keep_ins _)
   ·exact(by first|rfl|(refine prep_to (n:=2) (m:=⟨some [12,11,5,2,1],some 2,[]⟩) rfl rfl ?_ ?_ ?_<;>first|rfl|(simp[keepT,AV.underL,AV.under,MB.under,underL_plain,under_plain,underL_append,plain_ints,plain_span,plain_ins,plain_prg,-List.map_take,-List.map_replicate,-List.map_set,plain_kids,plain_reC,rest_zero];done)|(simp[keepT,AV.underL,AV.under,MB.under,underL_plain,under_plain,underL_append,plain_ints,plain_span,plain_ins,plain_prg,-List.map_take,-List.map_replicate,-List.map_set,plain_kids,plain_reC,rest_zero];omega)))
 ·exact(by first|rfl|(refine prep_to (n:=2) (m:=⟨some [6,5,2,1],some 2,[]⟩) rfl rfl ?_ ?_ ?_<;>first|rfl|(simp[keepT,AV.underL,AV.under,MB.under,underL_plain,under_plain,underL_append,plain_ints,plain_span,plain_ins,plain_prg,-List.map_take,-List.map_replicate,-List.map_set,plain_kids,plain_reC,copiesG];done)|(simp[keepT,AV.underL,AV.under,MB.under,underL_plain,under_plain,underL_append,plain_ints,plain_span,plain_ins,plain_prg,-List.map_take,-List.map_replicate,-List.map_set,plain_kids,plain_reC,copiesG];omega)))
end
section
attribute [local go_sem] ty0 ty3 ty4 ty23 ty24 ty26 ty39 ty108
open Go.Proofs Go.RowKit Go.IntWalk
set_option maxRecDepth 100000
set_option linter.unusedSimpArgs false
set_option linter.unusedVariables false
set_option maxHeartbeats 8000000
theorem call_frz' {P:Program} {pol:Pol} {f:Nat} {args l:List AV} {H H1:List MB} (hp:pol.pure f=true) (h:frzArgs pol f 0 args H=some (l,H1)) (ha:AV.plainL l=true) :
 call P pol f args H=call P pol f l H1:=by
 have hf:∀(l:List AV) (i:Nat),AV.plainL l=true→frzArgs pol f i l H1=some (l,H1):=by
  intro l
  induction l with
  | nil=>intro i _;rfl
  | cons x l ih=>
    intro i h
    simp only[AV.plainL,Bool.and_eq_true]at h
    simp only[frzArgs,fz_plain H1 h.1,ih (i+1) h.2]
    split<;>simp_all
 rw[call_eq,call_eq]
 unfold evStep
 simp only[hp,if_true,h,hf l 0 ha]
theorem codeCat_append:∀(a b:List Re) (f:Nat),codeCat (a++b) f=codeCat a f++codeCat b (f+lenL a)
 | [],b,f=>by simp[codeCat,lenL]
 | k::ks,b,f=>by simp[codeCat,lenL,codeCat_append ks b,Nat.add_assoc]
theorem codeCat_take {l:List Re} {i:Nat} {k:Re} (h:l[i]?=some k) (f:Nat):codeCat (l.take (i+1)) f=codeCat (l.take i) f++codeG k (f+lenL (l.take i)):=by
 rw[List.take_add_one,h,codeCat_append];simp[codeCat]
theorem lenL_take_le:∀(l:List Re) (i:Nat),lenL (l.take i)≤lenL l:=fun l i=>by
 have:=lenL_append (l.take i) (l.drop i)
 rw[List.take_append_drop]at this
 omega
theorem good_rest {caps top:Int} {a b:Re} {ks:List Re} {set:List (Int×Int)} {mn mx md n:Int} {neg:Bool} (h:GoodC caps top (.mk 3 set (a::b::ks) mn mx md n neg)) (hk:ks≠[]):GoodC caps top (.mk 3 [] (b::ks) 0 0 0 0 false):=by
 have hq:2≤(b::ks).length:=by
  cases ks with
  | nil=>exact absurd rfl hk
  | cons _ _=>simp
 refine⟨?_,?_⟩
 ·rw[wholeG,Bool.and_eq_true,wholeL_iff]
  refine⟨?_,fun k hk=>(h.kids k (List.mem_cons_of_mem _ hk)).whole⟩
  simp[formedG,kidsG]at hq ⊢
  omega
 ·rw[codable,Bool.and_eq_true,codableL_iff]
  exact⟨rfl,fun k hk=>(h.kids k (List.mem_cons_of_mem _ hk)).cod⟩
theorem f55 (caps top:Int) (hcaps:caps≤1000):∀(N:Nat) (r:Re),r.wt≤N→r.wt≤1000000→GoodC caps top r→Does55 r
 | 0,r,h,_,_=>by have:=r.wt_pos;omega
 | N+1,.mk op set kids mn mx md n neg,h,hN,hw=>by
   intro hl f hf H
   have hkl:=Re.wtL_len kids
   have hwt:1+set.length+Re.wtL kids=(Re.mk op set kids mn mx md n neg).wt:=by simp[Re.wt]
   have hop:=hw.op
   have hlen:=codeG_len caps top _ f hw
   obtain⟨hwk,hkd,hrp,hnn,ho1,ho2⟩:=whole_facts hw.whole
   have hgk:=hw.kids
   have ih:=fun k (hk:k∈kids)=>f55 caps top hcaps N k (by have:=Re.wtL_mem hk;omega) (by have:=Re.wtL_mem hk;omega) (hgk k hk)
   have e0:reAV (.mk op set kids mn mx md n neg)=.agg (nodeL op set kids mn mx md n neg):=congrArg AV.agg reC_mk
   rcases hop with rfl|rfl|rfl|rfl|rfl|rfl|rfl
   ·have hk0:kids=[]:=List.length_eq_zero_iff.1 (by simpa [kidsG] using hkd)
    subst hk0
    rw[e0]
    refine call_runO (k:=5) (els:=(codeG (.mk 0 set [] mn mx md n neg) f).map insAV) Try.func55 rfl rfl rfl rfl (fun _=>rfl) (by simp[AV.plain,AV.plainL,plain_span,plain_kids,plain_reC]) (plain_ins _) ?_ H
    have hc:codeG (.mk 0 set [] mn mx md n neg) f=[]:=by rw[codeG];rfl
    rw[← hlen,hc]
    simp +contextual (disch:=omega) only[Try.f55,dd55,go_sem,↓reduceIte,List.reduceReplicate,Nat.reduceAdd,Nat.reduceSub,reduceCtorEq,Nat.reduceLeDiff,Nat.reduceMul,Nat.reduceLT,Nat.reduceEqDiff,Int.reduceBNe,Int.reduceBEq,Int.reduceEq,Int.reduceLT,Int.reduceLE,Int.reduceGT,Int.reduceGE,mu55,Nat.reduceBEq,↓wrap_up,↓wrap_down,↓wrap_pred,↓wrap_sub_nat,Int.reduceToNat]
    exact own_end (c:=[]) rfl rfl rfl rfl rfl (fun j=>.nil)
   ·rw[e0]
    refine call_runO (k:=5) (els:=(codeG (.mk 1 set kids mn mx md n neg) f).map insAV) Try.func55 rfl rfl rfl rfl (fun _=>rfl) (by simp[AV.plain,AV.plainL,plain_span,plain_kids,plain_reC]) (plain_ins _) ?_ H
    have hc:codeG (.mk 1 set kids mn mx md n neg) f=[⟨1,0,0,0,set⟩]:=by rw[codeG];rfl
    rw[← hlen,hc]
    simp +contextual (disch:=omega) only[Try.f55,dd55,go_sem,↓reduceIte,List.reduceReplicate,Nat.reduceAdd,Nat.reduceSub,reduceCtorEq,Nat.reduceLeDiff,Nat.reduceMul,Nat.reduceLT,Nat.reduceEqDiff,Int.reduceBNe,Int.reduceBEq,Int.reduceEq,Int.reduceLT,Int.reduceLE,Int.reduceGT,Int.reduceGE,mu55,Nat.reduceBEq,↓wrap_up,↓wrap_down,↓wrap_pred,↓wrap_sub_nat,Int.reduceToNat]
    exact own_end (c:=[⟨1,0,0,0,set⟩]) rfl rfl rfl rfl rfl (fun j=>keep_ins [⟨1,0,0,0,set⟩])
   ·rw[e0]
    refine call_runO (k:=5) (els:=(codeG (.mk 2 set kids mn mx md n neg) f).map insAV) Try.func55 rfl rfl rfl rfl (fun _=>rfl) (by simp[AV.plain,AV.plainL,plain_span,plain_kids,plain_reC]) (plain_ins _) ?_ H
    have hc:codeG (.mk 2 set kids mn mx md n neg) f=codeCat kids f:=by rw[codeG];rfl
    have hL:lenG (.mk 2 set kids mn mx md n neg)=lenL kids:=by rw[lenG];rfl
    rw[hL]at hlen hl hf ⊢
    rw[hc]at hlen ⊢
    simp +contextual (disch:=omega) only[Try.f55,dd55,go_sem,↓reduceIte,List.reduceReplicate,Nat.reduceAdd,Nat.reduceSub,reduceCtorEq,Nat.reduceLeDiff,Nat.reduceMul,Nat.reduceLT,Nat.reduceEqDiff,Int.reduceBNe,Int.reduceBEq,Int.reduceEq,Int.reduceLT,Int.reduceLE,Int.reduceGT,Int.reduceGE,mu55,Nat.reduceBEq,↓wrap_up,↓wrap_down,↓wrap_pred,↓wrap_sub_nat,Int.reduceToNat]
    refine W_count (M:=(mskOf (pol1.mask 55) (pol1.gc 55) (pol1.acts 55) 0 9)) rfl kids.length (fun i=>(⟨132,[(6,I i),(5,.ms 1 5 (lenL (kids.take i)) 0 (lenL (kids.take i))),(2,.rf 0 1 0 0),(1,I f)],[.row 8 [.agg (nodeL 2 set kids mn mx md n neg)] 0,.row 5 ((codeCat (kids.take i) f).map insAV) 0]⟩:St)) (fun _=>True) ?_ ?_ trivial _ (by first|rfl|(refine prep_to (n:=2) (m:=⟨some [6,5,2,1],some 2,[]⟩) rfl rfl ?_ ?_ ?_<;>first|rfl|(simp[keepT,AV.underL,AV.under,MB.under,underL_plain,under_plain,underL_append,plain_ints,plain_span,plain_ins,plain_prg,-List.map_take,-List.map_replicate,-List.map_set,lenL,plain_kids,codeCat];done)|(simp[keepT,AV.underL,AV.under,MB.under,underL_plain,under_plain,underL_append,plain_ints,plain_span,plain_ins,plain_prg,-List.map_take,-List.map_replicate,-List.map_set,lenL,plain_kids,codeCat];omega)))
    ·intro i hi _
     obtain⟨k,hk⟩:∃ k,kids[i]?=some k:=⟨_,List.getElem?_eq_getElem hi⟩
     have hkm:=List.mem_of_getElem? hk
     have hl8:=reC_len k
     have ht8:=reC_take k
     have e1:=lenL_take hk
     have e2:=codeCat_take hk f
     have e4:=lenL_take_le kids (i+1)
     have hck:=codeCat_len caps top (kids.take i) f (fun k h=>hgk k (List.mem_of_mem_take h))
     have hk5:=codeG_len caps top k (f+lenL (kids.take i)) (hgk k hkm)
     have ihk:=ih k hkm (by omega) (f+lenL (kids.take i)) (by omega)
     have hadd:(f:Int)+((lenL (kids.take i):Nat):Int)=((f+lenL (kids.take i):Nat):Int):=by omega
     have happ:=fun b0=>app_row (H:=[b0,.row 5 ((codeCat (kids.take i) f).map insAV) 0,.row 5 ((codeG k (f+lenL (kids.take i))).map insAV) 0]) (i:=1) (j:=2) (n:=lenL (kids.take i)) (m:=lenG k) rfl rfl (by rw[List.length_map];exact hck) hk5 (Nat.zero_le _) (by omega)
     simp +contextual (disch:=omega) only[Try.f55,dd55,go_sem,↓reduceIte,List.reduceReplicate,Nat.reduceAdd,Nat.reduceSub,reduceCtorEq,Nat.reduceLeDiff,Nat.reduceMul,Nat.reduceLT,Nat.reduceEqDiff,Int.reduceBNe,Int.reduceBEq,Int.reduceEq,Int.reduceLT,Int.reduceLE,Int.reduceGT,Int.reduceGE,mu55,Nat.reduceBEq,↓wrap_up,↓wrap_down,↓wrap_pred,↓wrap_sub_nat,Int.reduceToNat,hk,ihk,hadd,happ,hl8,ht8]
     rw[e1,e2,List.map_append]
     exact(by first|rfl|(refine prep_to (n:=2) (m:=⟨some [6,5,2,1],some 2,[]⟩) rfl rfl ?_ ?_ ?_<;>first|rfl|(simp[keepT,AV.underL,AV.under,MB.under,underL_plain,under_plain,underL_append,plain_ints,plain_span,plain_ins,plain_prg,-List.map_take,-List.map_replicate,-List.map_set,plain_kids];done)|(simp[keepT,AV.underL,AV.under,MB.under,underL_plain,under_plain,underL_append,plain_ints,plain_span,plain_ins,plain_prg,-List.map_take,-List.map_replicate,-List.map_set,plain_kids];omega)))
    ·intro _
     rw[List.take_length]
     simp +contextual (disch:=omega) only[Try.f55,dd55,go_sem,↓reduceIte,List.reduceReplicate,Nat.reduceAdd,Nat.reduceSub,reduceCtorEq,Nat.reduceLeDiff,Nat.reduceMul,Nat.reduceLT,Nat.reduceEqDiff,Int.reduceBNe,Int.reduceBEq,Int.reduceEq,Int.reduceLT,Int.reduceLE,Int.reduceGT,Int.reduceGE,mu55,Nat.reduceBEq,↓wrap_up,↓wrap_down,↓wrap_pred,↓wrap_sub_nat,Int.reduceToNat]
     exact own_end rfl rfl rfl hlen rfl (fun j=>keep_ins _)
   ·match kids,hkd with
    | [],hkd=>simp[kidsG]at hkd
    | [_],hkd=>simp[kidsG]at hkd
    | k1::k2::ks,hkd=>
    have g1:=hgk k1 (List.mem_cons_self ..)
    have g2:=hgk k2 (List.mem_cons_of_mem _ (List.mem_cons_self ..))
    have hc:codeG (.mk 3 set (k1::k2::ks) mn mx md n neg) f=⟨2,(f+1:Nat),(f+lenG k1+2:Nat),0,[]⟩::(codeG k1 (f+1)++(⟨3,(f+lenL (k1::k2::ks)+2 * (k2::ks).length:Nat),0,0,[]⟩::codeAlt (k2::ks) (f+lenG k1+2))):=by
     rw[codeG,if_neg (by omega),if_neg (by omega),if_neg (by omega),if_pos rfl,codeAlt,if_neg (by simp)]
    have hL:lenG (.mk 3 set (k1::k2::ks) mn mx md n neg)=lenG k1+lenL (k2::ks)+2 * (ks.length+1):=by
     rw[lenG,if_neg (by omega),if_pos rfl,lenL]
     simp only[List.length_cons]
     omega
    have hal:=codeAlt_len caps top (k2::ks) (f+lenG k1+2) (fun k h=>hgk k (List.mem_cons_of_mem _ h)) (by simp)
    have hjmp:f+lenL (k1::k2::ks)+2 * (k2::ks).length=f+lenG k1+2+(lenL (k2::ks)+2 * ks.length):=by
     rw[lenL];simp only[List.length_cons];omega
    rw[hL]at hlen hl hf ⊢
    rw[hc,hjmp]at hlen ⊢
    simp only[List.length_cons,Nat.add_sub_cancel]at hal
    have hl2:lenL (k2::ks)=lenG k2+lenL ks:=rfl
    have ih1:=ih k1 (List.mem_cons_self ..) (by omega) (f+1) (by omega)
    have hk1:=codeG_len caps top k1 (f+1) g1
    have hsec:∀ H,call Try.prog pol1 55 [if ks.length=0 then reAV k2 else .agg [I 3,.sl true [],.sl false ((k2::ks).map reAV),I 0,I 0,I 0,I 0,.bool false],I (f+lenG k1+2:Nat)] H =
     some (.ms H.length 5 (lenL (k2::ks)+2 * ks.length) 0 (lenL (k2::ks)+2 * ks.length),H++[.row 5 ((codeAlt (k2::ks) (f+lenG k1+2)).map insAV) 0]):=by
     intro H
     split
     ·rename_i h0
      have:ks=[]:=List.length_eq_zero_iff.1 h0
      subst this
      have ih2:=ih k2 (List.mem_cons_of_mem _ (List.mem_cons_self ..)) (by omega) (f+lenG k1+2) (by omega) H
      rw[ih2]
      simp[codeAlt,lenL]
     ·rename_i h0
      have hne:ks≠[]:=fun e=>h0 (by rw[e];rfl)
      have ihr:=f55 caps top hcaps N (.mk 3 [] (k2::ks) 0 0 0 0 false) (by simp only[Re.wt,Re.wtL,List.length_nil]at h ⊢;have:=k1.wt_pos;omega) (by simp only[Re.wt,Re.wtL,List.length_nil]at hN ⊢;have:=k1.wt_pos;omega) (good_rest hw hne)
      have hlr:lenG (.mk 3 [] (k2::ks) 0 0 0 0 false)=lenL (k2::ks)+2 * ks.length:=by
       rw[lenG,if_neg (by omega),if_pos rfl];simp
      have hcr:codeG (.mk 3 [] (k2::ks) 0 0 0 0 false) (f+lenG k1+2)=codeAlt (k2::ks) (f+lenG k1+2):=by rw[codeG];rfl
      have ih2:=ihr (by omega) (f+lenG k1+2) (by omega) H
      rw[hlr,hcr]at ih2
      rw[← ih2]
      refine call_frz' rfl ?_ (by simp[AV.plain,AV.plainL,plain_reC])
      have hby:∀ i,pol1.byref 55 i=false:=fun i=>rfl
      have hz:fz (.agg [I 3,.sl true [],.sl false ((k2::ks).map reAV),I 0,I 0,I 0,I 0,.bool false]) H=some (reAV (.mk 3 [] (k2::ks) 0 0 0 0 false),H):=by
       rw[show reAV (.mk 3 [] (k2::ks) 0 0 0 0 false)=.agg (nodeL 3 [] (k2::ks) 0 0 0 0 false) from congrArg AV.agg reC_mk]
       have hzk:∀ H,fzL (fzJ 6) ((k2::ks).map reAV) H=some ((k2::ks).map reAV,H):=fun H=>fzL_plain _ _ H (plain_kids _)
       simp only[fz,fzA,fzL,hzk,List.map_nil]
       rfl
      have h2:∀ x H,fz (I x) H=some (I x,H):=fun x H=>rfl
      simp only[frzArgs,hby,Bool.false_eq_true,if_false,hz,h2]
    rw[e0]
    refine call_runO (k:=5) Try.func55 rfl rfl rfl rfl (fun _=>rfl) (by simp[AV.plain,AV.plainL,plain_span,plain_kids,plain_reC]) (plain_ins _) ?_ H
    have hl8:=reC_len k1
    have ht8:=reC_take k1
    have hl9:=reC_len k2
    have ht9:=reC_take k2
    have hok:=reC_ok k2
    have hadd:((f:Int)+(lenG k1:Int))=((f+lenG k1:Nat):Int):=by omega
    have had2:((f+lenG k1:Nat):Int)+2=((f+lenG k1+2:Nat):Int):=by omega
    generalize hS:codeAlt (k2::ks) (f+lenG k1+2)=S at *
    generalize hM:lenL (k2::ks)+2 * ks.length=m at *
    have hLm:lenG k1+lenL (k2::ks)+2 * (ks.length+1)=1+lenG k1+1+m:=by omega
    rw[hLm]at hlen hl hf ⊢
    generalize codeG k1 (f+1)=K at *
    have had3:((f+lenG k1+2:Nat):Int)+(m:Int)=((f+lenG k1+2+m:Nat):Int):=by omega
    have hap1:=fun b0 X Y Z x y=>app_one (H:=[b0,.row 5 [] 0,X,Y,Z]) (i:=1) (n:=0) (t:=true) (y:=.agg [I 2,I x,I y,I 0,.sl true []]) rfl rfl rfl (Nat.zero_le _) (by omega)
    have hap2:=fun b0 Y Z y=>app_row (H:=[b0,.row 5 [y] 0,.row 5 (K.map insAV) 0,Y,Z]) (i:=1) (j:=2) (n:=1) (m:=lenG k1) rfl rfl rfl hk1 (Nat.zero_le _) (by omega)
    have hap3:=fun b0 X Y Z y w=>app_one (H:=[b0,.row 5 (y::K.map insAV) 0,X,Y,Z]) (i:=1) (n:=1+lenG k1) (t:=true) (y:=.agg [I 3,I w,I 0,I 0,.sl true []]) rfl (by simp[hk1];omega) rfl (Nat.zero_le _) (by omega)
    have hap4:=fun b0 X Y y w=>app_row (H:=[b0,.row 5 (y::(K.map insAV++[w])) 0,X,Y,.row 5 (S.map insAV) 0]) (i:=1) (j:=4) (n:=1+lenG k1+1) (m:=m) rfl rfl (by simp[hk1];omega) hal (Nat.zero_le _) (by omega)
    have fin:∀(H:List MB) (y w:AV),(∀ j H,fzA j y H=some (insAV ⟨2,(f+1:Nat),(f+lenG k1+2:Nat),0,[]⟩,H))→(∀ j H,fzA j w H=some (insAV ⟨3,(f+lenG k1+2+m:Nat),0,0,[]⟩,H))→getRow H 1=some (5,y::(K.map insAV++[w]++S.map insAV),0)→retPol pol1 55 [] (.ms 1 5 (1+lenG k1+1+m) 0 (1+lenG k1+1+m)) H=some (.ms 0 5 (1+lenG k1+1+m) 0 (1+lenG k1+1+m),[.row 5 ((⟨2,(f+1:Nat),(f+lenG k1+2:Nat),0,[]⟩::(K++(⟨3,(f+lenG k1+2+m:Nat),0,0,[]⟩::S))).map insAV) 0]):=by
     intro H y w hy hw hr
     refine own_end rfl rfl hr hlen rfl (fun j=>?_)
     simp only[List.map_cons,List.map_append,List.append_assoc,List.singleton_append]
     exact .cons (hy j) ((keep_ins K).append (.cons (hw j) (keep_ins S)))
    cases ks with
    | nil=>
      simp only[List.length_nil,if_true]at hsec
      simp +contextual (disch:=omega) only[Try.f55,dd55,go_sem,↓reduceIte,List.reduceReplicate,Nat.reduceAdd,Nat.reduceSub,reduceCtorEq,Nat.reduceLeDiff,Nat.reduceMul,Nat.reduceLT,Nat.reduceEqDiff,Int.reduceBNe,Int.reduceBEq,Int.reduceEq,Int.reduceLT,Int.reduceLE,Int.reduceGT,Int.reduceGE,mu55,Nat.reduceBEq,↓wrap_up,↓wrap_down,↓wrap_pred,↓wrap_sub_nat,Int.reduceToNat,ih1,hsec,hadd,had2,had3,hap1,hap2,hap3,hap4,hl8,ht8,hl9,ht9,hok]
      refine Eq.trans (fin _ (.agg [I 2,I (f+1:Nat),I (f+lenG k1+2:Nat),I 0,.sl true []]) (.agg [I 3,I (f+lenG k1+2+m:Nat),I 0,I 0,.sl true []]) (fun j H=>rfl) (fun j H=>rfl) ?_) ?_
      ·rfl
      ·simp only[List.map_cons,List.map_append]
    | cons k3 ks=>
      simp only[List.length_cons,Nat.add_eq_zero_iff,Nat.one_ne_zero,and_false,if_false,List.map_cons]at hsec
      have hlk:(ks.map reAV).all (fun y=>decide (y.cells.length=8))=true:=by simp[AV.cells,reC_len]
      simp only[AV.cells]at hlk
      have hl3:=reC_len k3
      have htk:List.take ks.length (ks.map reAV)=ks.map reAV:=List.take_of_length_le (by simp)
      have hdr:List.drop 8 (reC k2)=[]:=List.drop_eq_nil_of_le (by rw[hl9];omega)
      simp +contextual (disch:=omega) only[Try.f55,dd55,go_sem,↓reduceIte,List.reduceReplicate,Nat.reduceAdd,Nat.reduceSub,reduceCtorEq,Nat.reduceLeDiff,Nat.reduceMul,Nat.reduceLT,Nat.reduceEqDiff,Int.reduceBNe,Int.reduceBEq,Int.reduceEq,Int.reduceLT,Int.reduceLE,Int.reduceGT,Int.reduceGE,mu55,Nat.reduceBEq,↓wrap_up,↓wrap_down,↓wrap_pred,↓wrap_sub_nat,Int.reduceToNat,ih1,hsec,hadd,had2,had3,hap1,hap2,hap3,hap4,hl8,ht8,hl9,ht9,hok,hlk,hl3,htk,hdr]
      refine Eq.trans (fin _ (.agg [I 2,I (f+1:Nat),I (f+lenG k1+2:Nat),I 0,.sl true []]) (.agg [I 3,I (f+lenG k1+2+m:Nat),I 0,I 0,.sl true []]) (fun j H=>rfl) (fun j H=>rfl) ?_) ?_
      ·rfl
      ·simp only[List.map_cons,List.map_append]
   ·obtain⟨k,rfl⟩:∃ k,kids=[k]:=List.length_eq_one_iff.1 (by simpa [kidsG] using hkd)
    have h116:=f116 caps top set k mn mx md n neg hw hN (ih k (List.mem_singleton.2 rfl)) hl f hf
    rw[e0]at h116 ⊢
    refine call_runO (k:=5) (els:=(codeG (.mk 4 set [k] mn mx md n neg) f).map insAV) Try.func55 rfl rfl rfl rfl (fun _=>rfl) (by simp[AV.plain,AV.plainL,plain_span,plain_kids,plain_reC]) (plain_ins _) ?_ H
    simp only[nodeL,List.map_cons,List.map_nil]at h116
    generalize lenG (.mk 4 set [k] mn mx md n neg)=LL at *
    generalize codeG (.mk 4 set [k] mn mx md n neg) f=C at *
    simp +contextual (disch:=omega) only[Try.f55,dd55,go_sem,↓reduceIte,List.reduceReplicate,Nat.reduceAdd,Nat.reduceSub,reduceCtorEq,Nat.reduceLeDiff,Nat.reduceMul,Nat.reduceLT,Nat.reduceEqDiff,Int.reduceBNe,Int.reduceBEq,Int.reduceEq,Int.reduceLT,Int.reduceLE,Int.reduceGT,Int.reduceGE,mu55,Nat.reduceBEq,↓wrap_up,↓wrap_down,↓wrap_pred,↓wrap_sub_nat,Int.reduceToNat,h116]
    exact own_end rfl rfl rfl hlen rfl (fun j=>keep_ins _)
   ·obtain⟨k,rfl⟩:∃ k,kids=[k]:=List.length_eq_one_iff.1 (by simpa [kidsG] using hkd)
    have hn1:=hnn (.inl rfl)
    rw[e0]
    refine call_runO (k:=5) (els:=(codeG (.mk 5 set [k] mn mx md n neg) f).map insAV) Try.func55 rfl rfl rfl rfl (fun _=>rfl) (by simp[AV.plain,AV.plainL,plain_span,plain_kids,plain_reC]) (plain_ins _) ?_ H
    have hc:codeG (.mk 5 set [k] mn mx md n neg) f=⟨4,0,0,2 * n - 2,[]⟩::(codeG k (f+1)++[⟨4,0,0,2 * n - 1,[]⟩]):=by rw[codeG];rfl
    have hL:lenG (.mk 5 set [k] mn mx md n neg)=1+lenG k+1:=by
     rw[lenG,if_neg (by omega),if_neg (by omega),if_pos rfl];simp[lenL];omega
    rw[hL]at hlen hl hf ⊢
    rw[hc]at hlen ⊢
    have hl8:=reC_len k
    have ht8:=reC_take k
    have ihk:=ih k (List.mem_singleton.2 rfl) (by omega) (f+1) (by omega)
    have hk5:=codeG_len caps top k (f+1) (hgk k (List.mem_singleton.2 rfl))
    generalize codeG k (f+1)=K at *
    have hap1:=fun b0 w=>app_one (H:=[b0,.row 5 [] 0]) (i:=1) (n:=0) (t:=true) (y:=.agg [I 4,I 0,I 0,I w,.sl true []]) rfl rfl rfl (Nat.zero_le _) (by omega)
    have hap2:=fun b0 y=>app_row (H:=[b0,.row 5 [y] 0,.row 5 (K.map insAV) 0]) (i:=1) (j:=2) (n:=1) (m:=lenG k) rfl rfl rfl hk5 (Nat.zero_le _) (by omega)
    have hap3:=fun b0 y w=>app_one (H:=[b0,.row 5 (y::K.map insAV) 0,.row 5 (K.map insAV) 0]) (i:=1) (n:=1+lenG k) (t:=true) (y:=.agg [I 4,I 0,I 0,I w,.sl true []]) rfl (by simp[hk5];omega) rfl (Nat.zero_le _) (by omega)
    simp +contextual (disch:=omega) only[Try.f55,dd55,go_sem,↓reduceIte,List.reduceReplicate,Nat.reduceAdd,Nat.reduceSub,reduceCtorEq,Nat.reduceLeDiff,Nat.reduceMul,Nat.reduceLT,Nat.reduceEqDiff,Int.reduceBNe,Int.reduceBEq,Int.reduceEq,Int.reduceLT,Int.reduceLE,Int.reduceGT,Int.reduceGE,mu55,Nat.reduceBEq,↓wrap_up,↓wrap_down,↓wrap_pred,↓wrap_sub_nat,Int.reduceToNat,ihk,hap1,hap2,hap3,hl8,ht8]
    repeat' (first|intro _|apply And.intro|(unfold dOk;kernel_rfl)|exact St.beq_refl _|(show altO _ _ _ _=true;kernel_rfl)|(show (_ || _)=true;kernel_rfl)|(show (_ && _)=true;kernel_rfl))
    refine own_end (c:=⟨4,0,0,2 * n - 2,[]⟩::(K++[⟨4,0,0,2 * n - 1,[]⟩])) rfl rfl rfl (by simpa using hlen) (by simp only[List.map_append,List.map_cons,List.map_nil]) (fun j=>?_)
    simp only[List.map_append,List.map_cons,List.map_nil]
    exact .cons (fun H=>rfl) ((keep_ins K).append (.one fun H=>rfl))
   ·rw[e0]
    refine call_runO (k:=5) (els:=(codeG (.mk 11 set kids mn mx md n neg) f).map insAV) Try.func55 rfl rfl rfl rfl (fun _=>rfl) (by simp[AV.plain,AV.plainL,plain_span,plain_kids,plain_reC]) (plain_ins _) ?_ H
    have hc:codeG (.mk 11 set kids mn mx md n neg) f=[⟨5,0,0,n,[]⟩]:=by rw[codeG];rfl
    rw[← hlen,hc]
    simp +contextual (disch:=omega) only[Try.f55,dd55,go_sem,↓reduceIte,List.reduceReplicate,Nat.reduceAdd,Nat.reduceSub,reduceCtorEq,Nat.reduceLeDiff,Nat.reduceMul,Nat.reduceLT,Nat.reduceEqDiff,Int.reduceBNe,Int.reduceBEq,Int.reduceEq,Int.reduceLT,Int.reduceLE,Int.reduceGT,Int.reduceGE,mu55,Nat.reduceBEq,↓wrap_up,↓wrap_down,↓wrap_pred,↓wrap_sub_nat,Int.reduceToNat]
    exact own_end (c:=[⟨5,0,0,n,[]⟩]) rfl rfl rfl rfl rfl (fun j=>.one fun H=>rfl)
end
section
attribute [local go_sem] evAppend ty0 ty3 ty4 ty24 ty26 ty28 ty36 ty100 ty167
open Go.Proofs Go.RowKit Go.IntWalk
set_option maxRecDepth 100000
set_option linter.unusedSimpArgs false
set_option linter.unusedVariables false
set_option maxHeartbeats 8000000
theorem f103 (b0 b3:MB) (pc tc:List AV) (hp:AV.plainL pc=true) (htc:AV.plainL tc=true) (caps top:Int) (ht:top≤1114111) (hpc:pc[8]?=some (I caps)) (htc2:tc=[I top]):∀(N:Nat) (r:Re),r.wt≤N→r.wt≤1000000 →
 ∀(d s:Nat) (g:Bool),s≤256→d≤1000000 →
 ∃(ok g':Bool) (s':Nat),call Try.prog pol1 103 [.pt (reC r),I d,.rf 1 1 0 0,.rf 2 1 0 0,.pt pc,.pt tc,.rf 4 1 0 0]
  [b0,.row 1 [I s] 0,.row 1 [.bool g] 0,b3,.row 1 [.clo 103 [.rf 1 1 0 0,.rf 2 1 0 0,.pt pc,.pt tc,.rf 4 1 0 0]] 0] =
  some (.bool ok,[b0,.row 1 [I s'] 0,.row 1 [.bool g'] 0,b3,.row 1 [.clo 103 [.rf 1 1 0 0,.rf 2 1 0 0,.pt pc,.pt tc,.rf 4 1 0 0]] 0]) ∧
  ok=decide (s+r.size≤256∧d+r.depth≤25)∧(ok=true→s' = s+r.size∧g' = (g && wholeG caps top r))
 | 0,r,h,_,_,_,_,_,_=>by have:=r.wt_pos;omega
 | N+1,.mk op set kids mn mx md n neg,h,hN,d,s,g,hs,hd=>by
   have hkl:=Re.wtL_len kids
   have hwt:1+set.length+Re.wtL kids=(Re.mk op set kids mn mx md n neg).wt:=by simp[Re.wt]
   have ih:=fun k (hk:k∈kids)=>f103 b0 b3 pc tc hp htc caps top ht hpc htc2 N k (by have:=Re.wtL_mem hk;omega) (by have:=Re.wtL_mem hk;omega)
   have f104':=f104 caps top ht op set kids mn mx md n neg (by omega) (by omega)
   rw[show (.pt (reC (.mk op set kids mn mx md n neg)):AV)=.pt (nodeL op set kids mn mx md n neg) from congrArg AV.pt reC_mk]
   have hsz:(Re.mk op set kids mn mx md n neg).size=1+Re.sizeL kids:=by simp[Re.size]
   have hdz:(Re.mk op set kids mn mx md n neg).depth=1+Re.depthL kids:=by simp[Re.depth]
   have hwh:wholeG caps top (.mk op set kids mn mx md n neg)=(formedG caps top (.mk op set kids mn mx md n neg) && wholeL caps top kids):=by rw[wholeG]
   have fr:∀(s:Int) (g:Bool),frzArgs pol1 103 0 [.pt (nodeL op set kids mn mx md n neg),I d,.rf 1 1 0 0,.rf 2 1 0 0,.pt pc,.pt tc,.rf 4 1 0 0]
    [b0,.row 1 [I s] 0,.row 1 [.bool g] 0,b3,.row 1 [.clo 103 [.rf 1 1 0 0,.rf 2 1 0 0,.pt pc,.pt tc,.rf 4 1 0 0]] 0] =
    some ([.pt (nodeL op set kids mn mx md n neg),I d,.rf 1 1 0 0,.rf 2 1 0 0,.pt pc,.pt tc,.rf 4 1 0 0],[b0,.row 1 [I s] 0,.row 1 [.bool g] 0,b3,.row 1 [.clo 103 [.rf 1 1 0 0,.rf 2 1 0 0,.pt pc,.pt tc,.rf 4 1 0 0]] 0]):=fun s g=>
    frzArgs_mix _ _ _ (by simp[mixOk,show pol1.byref 103 2=true from rfl,show pol1.byref 103 3=true from rfl,show pol1.byref 103 4=true from rfl,show pol1.byref 103 5=true from rfl,show pol1.byref 103 6=true from rfl,AV.plain,AV.plainL,plain_span,plain_kids])
   have rt:∀(x:Bool) (s s':Int) (g g':Bool),retPol pol1 103 [b0,.row 1 [I s] 0,.row 1 [.bool g] 0,b3,.row 1 [.clo 103 [.rf 1 1 0 0,.rf 2 1 0 0,.pt pc,.pt tc,.rf 4 1 0 0]] 0] (.bool x) [b0,.row 1 [I s'] 0,.row 1 [.bool g'] 0,b3,.row 1 [.clo 103 [.rf 1 1 0 0,.rf 2 1 0 0,.pt pc,.pt tc,.rf 4 1 0 0]] 0] =
    some (.bool x,[b0,.row 1 [I s'] 0,.row 1 [.bool g'] 0,b3,.row 1 [.clo 103 [.rf 1 1 0 0,.rf 2 1 0 0,.pt pc,.pt tc,.rf 4 1 0 0]] 0]):=fun x s s' g g'=>
    retPol_keep rfl rfl rfl (by simp[keptOk,MB.beq_refl,MB.under,AV.underL,AV.under]) rfl
   have hs1:((s:Int)+1)=((s+1:Nat):Int):=rfl
   subst htc2
   by_cases hc:256 < s+1∨24 < d
   ·refine⟨false,g,s+1,?_,?_,fun h=>by cases h⟩
    ·refine call_run2 (pol:=pol1) Try.func103 rfl rfl rfl rfl (fr s g) ?_
     have hc':256 < s+1∨(¬ 256 < s+1∧24 < d):=by omega
     rcases hc' with h1|⟨h1,h2⟩
     all_goals (
      simp +contextual (disch:=omega) only[Try.f103,dd103,go_sem,↓reduceIte,List.reduceReplicate,Nat.reduceAdd,Nat.reduceSub,reduceCtorEq,Nat.reduceLeDiff,Nat.reduceMul,Nat.reduceLT,Nat.reduceEqDiff,Int.reduceBNe,Int.reduceBEq,Int.reduceEq,Int.reduceLT,Int.reduceLE,Int.reduceGT,Int.reduceGE,mu103,Nat.reduceBEq,↓wrap_up,↓wrap_down,↓wrap_pred,↓wrap_sub_nat,Int.reduceToNat,hs1,rt]
      repeat' (first|intro _|apply And.intro|(unfold dOk;kernel_rfl)|exact St.beq_refl _|(show altO _ _ _ _=true;kernel_rfl)|(show (_ || _)=true;kernel_rfl)|(show (_ && _)=true;kernel_rfl)))
    ·rw[hsz,hdz]
     symm;rw[decide_eq_false_iff_not]
     omega
   ·have key:∃ r:AV×List MB,(∃(ok g':Bool) (s':Nat),r=(.bool ok,[b0,.row 1 [I s'] 0,.row 1 [.bool g'] 0,b3,.row 1 [.clo 103 [.rf 1 1 0 0,.rf 2 1 0 0,.pt pc,.pt [I top],.rf 4 1 0 0]] 0]) ∧
     ok=decide (s+(Re.mk op set kids mn mx md n neg).size≤256∧d+(Re.mk op set kids mn mx md n neg).depth≤25)∧(ok=true→s' = s+(Re.mk op set kids mn mx md n neg).size∧g' = (g && wholeG caps top (.mk op set kids mn mx md n neg)))) ∧
     call Try.prog pol1 103 [.pt (nodeL op set kids mn mx md n neg),I d,.rf 1 1 0 0,.rf 2 1 0 0,.pt pc,.pt [I top],.rf 4 1 0 0]
      [b0,.row 1 [I s] 0,.row 1 [.bool g] 0,b3,.row 1 [.clo 103 [.rf 1 1 0 0,.rf 2 1 0 0,.pt pc,.pt [I top],.rf 4 1 0 0]] 0]=some r:=by
     rw[hsz,hdz,hwh]
     refine call_run2E (pol:=pol1) Try.func103 rfl rfl rfl rfl (fr s g) ?_
     generalize formedG caps top (.mk op set kids mn mx md n neg)=fg at *
     clear hwh hsz hdz
     have hd0:d≤24:=by omega
     have hs0:s+1≤256:=by omega
     cases g
     ·simp +contextual (disch:=omega) only[Try.f103,dd103,go_sem,↓reduceIte,List.reduceReplicate,Nat.reduceAdd,Nat.reduceSub,reduceCtorEq,Nat.reduceLeDiff,Nat.reduceMul,Nat.reduceLT,Nat.reduceEqDiff,Int.reduceBNe,Int.reduceBEq,Int.reduceEq,Int.reduceLT,Int.reduceLE,Int.reduceGT,Int.reduceGE,mu103,Nat.reduceBEq,↓wrap_up,↓wrap_down,↓wrap_pred,↓wrap_sub_nat,Int.reduceToNat,hs1]
      refine W_count (M:=(mskOf (pol1.mask 103) (pol1.gc 103) (pol1.acts 103) 0 6)) rfl kids.length (fun i=>(⟨47,[(32,I i),(31,I kids.length),(6,.rf 4 1 0 0),(1,I d),(0,.pt (nodeL op set kids mn mx md n neg))],[b0,.row 1 [I ((s+1+Re.sizeL (kids.take i):Nat):Int)] 0,.row 1 [.bool (false && wholeL caps top (kids.take i))] 0,b3,.row 1 [.clo 103 [.rf 1 1 0 0,.rf 2 1 0 0,.pt pc,.pt [I top],.rf 4 1 0 0]] 0]⟩:St))
       (fun i=>s+1+Re.sizeL (kids.take i)≤256∧d+1+Re.depthL (kids.take i)≤25) ?_ ?_ ⟨by simp[Re.sizeL];omega,by simp[Re.depthL];omega⟩ _ ?_
      ·rintro i hi ⟨hb1,hb2⟩
       obtain⟨k,hk⟩:∃ k,kids[i]?=some k:=⟨_,List.getElem?_eq_getElem hi⟩
       obtain⟨ok,g2,s2,hcall,hok,himp⟩:=ih k (List.mem_of_getElem? hk) (d+1) (s+1+Re.sizeL (kids.take i)) (false && wholeL caps top (kids.take i)) (by omega) (by omega)
       have e1:=Re.sizeL_take hk
       have e2:=Re.depthL_take hk
       have e3:=wholeL_take (caps:=caps) (top:=top) hk
       have e4:=Re.sizeL_le (l:=kids) (i:=i+1)
       have e5:=Re.depthL_le (l:=kids) (i:=i+1)
       have hl8:=reC_len k
       have ht8:=reC_take k
       have hd1:((d:Int)+1)=((d+1:Nat):Int):=rfl
       cases ok with
       | false=>
         have hcf:=of_decide_eq_false hok.symm
         simp +contextual (disch:=omega) only[Try.f103,dd103,go_sem,↓reduceIte,List.reduceReplicate,Nat.reduceAdd,Nat.reduceSub,reduceCtorEq,Nat.reduceLeDiff,Nat.reduceMul,Nat.reduceLT,Nat.reduceEqDiff,Int.reduceBNe,Int.reduceBEq,Int.reduceEq,Int.reduceLT,Int.reduceLE,Int.reduceGT,Int.reduceGE,mu103,Nat.reduceBEq,↓wrap_up,↓wrap_down,↓wrap_pred,↓wrap_sub_nat,Int.reduceToNat,hk,hl8,ht8,hd1,hcall]
         repeat' (first|intro _|apply And.intro|(unfold dOk;kernel_rfl)|exact St.beq_refl _|(show altO _ _ _ _=true;kernel_rfl)|(show (_ || _)=true;kernel_rfl)|(show (_ && _)=true;kernel_rfl))
         refine⟨_,⟨false,g2,s2,rfl,?_,fun h=>by cases h⟩,rt false _ _ _ _⟩
         symm;rw[decide_eq_false_iff_not];omega
       | true=>
         have hct:=of_decide_eq_true hok.symm
         obtain⟨rfl,rfl⟩:=himp rfl
         rw[e1,e2,e3,← Bool.and_assoc]
         simp +contextual (disch:=omega) only[Try.f103,dd103,go_sem,↓reduceIte,List.reduceReplicate,Nat.reduceAdd,Nat.reduceSub,reduceCtorEq,Nat.reduceLeDiff,Nat.reduceMul,Nat.reduceLT,Nat.reduceEqDiff,Int.reduceBNe,Int.reduceBEq,Int.reduceEq,Int.reduceLT,Int.reduceLE,Int.reduceGT,Int.reduceGE,mu103,Nat.reduceBEq,↓wrap_up,↓wrap_down,↓wrap_pred,↓wrap_sub_nat,Int.reduceToNat,hk,hl8,ht8,hd1,hcall]
         repeat' (first|intro _|apply And.intro|(unfold dOk;kernel_rfl)|exact St.beq_refl _|(show altO _ _ _ _=true;kernel_rfl)|(show (_ || _)=true;kernel_rfl)|(show (_ && _)=true;kernel_rfl))
         rw[Nat.add_assoc (s+1)]
         rfl
      ·rintro⟨hb1,hb2⟩
       rw[List.take_length]at hb1 hb2 ⊢
       simp +contextual (disch:=omega) only[Try.f103,dd103,go_sem,↓reduceIte,List.reduceReplicate,Nat.reduceAdd,Nat.reduceSub,reduceCtorEq,Nat.reduceLeDiff,Nat.reduceMul,Nat.reduceLT,Nat.reduceEqDiff,Int.reduceBNe,Int.reduceBEq,Int.reduceEq,Int.reduceLT,Int.reduceLE,Int.reduceGT,Int.reduceGE,mu103,Nat.reduceBEq,↓wrap_up,↓wrap_down,↓wrap_pred,↓wrap_sub_nat,Int.reduceToNat]
       refine⟨_,⟨true,(false && wholeL caps top kids),s+1+Re.sizeL kids,rfl,?_,fun _=>⟨by omega,by simp⟩⟩,rt true _ _ _ _⟩
       rfl
      ·rfl
     ·simp +contextual (disch:=omega) only[Try.f103,dd103,go_sem,↓reduceIte,List.reduceReplicate,Nat.reduceAdd,Nat.reduceSub,reduceCtorEq,Nat.reduceLeDiff,Nat.reduceMul,Nat.reduceLT,Nat.reduceEqDiff,Int.reduceBNe,Int.reduceBEq,Int.reduceEq,Int.reduceLT,Int.reduceLE,Int.reduceGT,Int.reduceGE,mu103,Nat.reduceBEq,↓wrap_up,↓wrap_down,↓wrap_pred,↓wrap_sub_nat,Int.reduceToNat,hs1,f104',hpc]
      refine W_count (M:=(mskOf (pol1.mask 103) (pol1.gc 103) (pol1.acts 103) 0 6)) rfl kids.length (fun i=>(⟨47,[(32,I i),(31,I kids.length),(6,.rf 4 1 0 0),(1,I d),(0,.pt (nodeL op set kids mn mx md n neg))],[b0,.row 1 [I ((s+1+Re.sizeL (kids.take i):Nat):Int)] 0,.row 1 [.bool (fg && wholeL caps top (kids.take i))] 0,b3,.row 1 [.clo 103 [.rf 1 1 0 0,.rf 2 1 0 0,.pt pc,.pt [I top],.rf 4 1 0 0]] 0]⟩:St))
       (fun i=>s+1+Re.sizeL (kids.take i)≤256∧d+1+Re.depthL (kids.take i)≤25) ?_ ?_ ⟨by simp[Re.sizeL];omega,by simp[Re.depthL];omega⟩ _ ?_
      ·rintro i hi ⟨hb1,hb2⟩
       obtain⟨k,hk⟩:∃ k,kids[i]?=some k:=⟨_,List.getElem?_eq_getElem hi⟩
       obtain⟨ok,g2,s2,hcall,hok,himp⟩:=ih k (List.mem_of_getElem? hk) (d+1) (s+1+Re.sizeL (kids.take i)) (fg && wholeL caps top (kids.take i)) (by omega) (by omega)
       have e1:=Re.sizeL_take hk
       have e2:=Re.depthL_take hk
       have e3:=wholeL_take (caps:=caps) (top:=top) hk
       have e4:=Re.sizeL_le (l:=kids) (i:=i+1)
       have e5:=Re.depthL_le (l:=kids) (i:=i+1)
       have hl8:=reC_len k
       have ht8:=reC_take k
       have hd1:((d:Int)+1)=((d+1:Nat):Int):=rfl
       cases ok with
       | false=>
         have hcf:=of_decide_eq_false hok.symm
         simp +contextual (disch:=omega) only[Try.f103,dd103,go_sem,↓reduceIte,List.reduceReplicate,Nat.reduceAdd,Nat.reduceSub,reduceCtorEq,Nat.reduceLeDiff,Nat.reduceMul,Nat.reduceLT,Nat.reduceEqDiff,Int.reduceBNe,Int.reduceBEq,Int.reduceEq,Int.reduceLT,Int.reduceLE,Int.reduceGT,Int.reduceGE,mu103,Nat.reduceBEq,↓wrap_up,↓wrap_down,↓wrap_pred,↓wrap_sub_nat,Int.reduceToNat,hk,hl8,ht8,hd1,hcall]
         repeat' (first|intro _|apply And.intro|(unfold dOk;kernel_rfl)|exact St.beq_refl _|(show altO _ _ _ _=true;kernel_rfl)|(show (_ || _)=true;kernel_rfl)|(show (_ && _)=true;kernel_rfl))
         refine⟨_,⟨false,g2,s2,rfl,?_,fun h=>by cases h⟩,rt false _ _ _ _⟩
         symm;rw[decide_eq_false_iff_not];omega
       | true=>
         have hct:=of_decide_eq_true hok.symm
         obtain⟨rfl,rfl⟩:=himp rfl
         rw[e1,e2,e3,← Bool.and_assoc]
         simp +contextual (disch:=omega) only[Try.f103,dd103,go_sem,↓reduceIte,List.reduceReplicate,Nat.reduceAdd,Nat.reduceSub,reduceCtorEq,Nat.reduceLeDiff,Nat.reduceMul,Nat.reduceLT,Nat.reduceEqDiff,Int.reduceBNe,Int.reduceBEq,Int.reduceEq,Int.reduceLT,Int.reduceLE,Int.reduceGT,Int.reduceGE,mu103,Nat.reduceBEq,↓wrap_up,↓wrap_down,↓wrap_pred,↓wrap_sub_nat,Int.reduceToNat,hk,hl8,ht8,hd1,hcall]
         repeat' (first|intro _|apply And.intro|(unfold dOk;kernel_rfl)|exact St.beq_refl _|(show altO _ _ _ _=true;kernel_rfl)|(show (_ || _)=true;kernel_rfl)|(show (_ && _)=true;kernel_rfl))
         rw[Nat.add_assoc (s+1)]
         rfl
      ·rintro⟨hb1,hb2⟩
       rw[List.take_length]at hb1 hb2 ⊢
       simp +contextual (disch:=omega) only[Try.f103,dd103,go_sem,↓reduceIte,List.reduceReplicate,Nat.reduceAdd,Nat.reduceSub,reduceCtorEq,Nat.reduceLeDiff,Nat.reduceMul,Nat.reduceLT,Nat.reduceEqDiff,Int.reduceBNe,Int.reduceBEq,Int.reduceEq,Int.reduceLT,Int.reduceLE,Int.reduceGT,Int.reduceGE,mu103,Nat.reduceBEq,↓wrap_up,↓wrap_down,↓wrap_pred,↓wrap_sub_nat,Int.reduceToNat]
       refine⟨_,⟨true,(fg && wholeL caps top kids),s+1+Re.sizeL kids,rfl,?_,fun _=>⟨by omega,by simp⟩⟩,rt true _ _ _ _⟩
       rfl
      ·rw[show (fg && wholeL caps top (List.take 0 kids))=fg by simp[wholeL]]
       rfl
    obtain⟨r,⟨ok,g',s',rfl,h1,h2⟩,h3⟩:=key
    exact⟨ok,g',s',h3,h1,h2⟩
structure Pat where
 re:Re
 caps:Int
 runes:Bool
abbrev patC (p:Pat):List AV:=reC p.re++[I p.caps,.bool p.runes]
abbrev patAV (p:Pat):AV:=.agg (patC p)
theorem plain_patC (p:Pat):AV.plainL (patC p)=true:=by
 rw[plainL_iff]
 intro x hx
 rcases List.mem_append.1 hx with h|h
 ·exact(plainL_iff _).1 (plain_reC p.re) x h
 ·simp at h;rcases h with rfl|rfl<;>rfl
def topI (r:Bool):Int:=if r then 1114111 else 255
theorem topI_le (r:Bool):topI r≤1114111:=by cases r<;>simp[topI]
def validP (p:Pat):Int:=if 256 < p.re.size∨24 < p.re.depth then 4 else if p.caps < 0∨9 < p.caps∨wholeG p.caps (topI p.runes) p.re=false then 1 else 0
theorem f48 (p:Pat) (hw:p.re.wt≤1000000) (H:List MB):call Try.prog pol1 48 [patAV p] H=some (I (validP p),H):=by
 obtain⟨re,caps,runes⟩:=p
 simp only at hw
 refine call_run Try.func48 rfl rfl rfl rfl rfl rfl (fun _=>rfl) (by simp[AV.plainL,AV.plain];exact plain_patC _) rfl ?_ H
 have hl8:=reC_len re
 have hpl:=plain_patC ⟨re,caps,runes⟩
 have hget8:(reC re++[I caps,.bool runes])[8]?=some (I caps):=by rw[List.getElem?_append_right (by omega),hl8];rfl
 have hget9:(reC re++[I caps,.bool runes])[9]?=some (.bool runes):=by rw[List.getElem?_append_right (by omega),hl8];rfl
 have hz:fz (.rf 0 1 0 0) [.row 10 [.agg (reC re++[I caps,.bool runes])] 0]=some (.pt (reC re++[I caps,.bool runes]),[.row 10 [.agg (reC re++[I caps,.bool runes])] 1]):=
  fz_rf (x:=.agg (reC re++[I caps,.bool runes])) (k:=10) (z:=0) rfl rfl rfl hpl
 have hlen:(reC re).length+(0+1+1)=10:=by omega
 have h102:=f102 runes
 have hall:=reC_ok re
 have hz2:∀(b0 b1 b2:MB) (t:Int),fz (.rf 3 1 0 0) [b0,b1,b2,.row 1 [I t] 0]=some (.pt [I t],[b0,b1,b2,.row 1 [I t] 1]):=fun b0 b1 b2 t=>fz_rf (x:=I t) (k:=1) (z:=0) rfl rfl rfl rfl
 have htk8:∀ l,List.take 8 (reC re++l)=reC re:=fun l=>by
  rw[List.take_append_of_le_length (by omega)];exact List.take_of_length_le (by omega)
 rw[show (if runes=true then(1114111:Int) else 255)=topI runes from rfl]at h102
 have ht:=topI_le runes
 have h103:=fun(b0 b3:MB) (g:Bool)=>f103 b0 b3 (reC re++[I caps,.bool runes]) [I (topI runes)] hpl rfl caps (topI runes) ht hget8 rfl re.wt re (Nat.le_refl _) hw 1 0 g (by omega) (by omega)
 unfold validP
 simp only
 have hcp:(0≤caps∧caps≤9)∨(0≤caps∧¬ caps≤9)∨¬ 0≤caps:=by omega
 generalize topI runes=top at *
 rcases hcp with ⟨hc1,hc2⟩|⟨hc1,hc2⟩|hc1
 ·obtain⟨ok,g',s',hcall,hok,himp⟩:=h103 (.row 10 [.agg (reC re++[I caps,.bool runes])] 1) (.row 1 [I top] 1) true
  rw[show ((1:Nat):Int)=1 from rfl,show ((0:Nat):Int)=0 from rfl]at hcall
  cases ok with
  | false=>
    have hcf:=of_decide_eq_false hok.symm
    rw[if_pos (by omega)]
    simp +contextual (disch:=omega) only[Try.f48,dd48,go_sem,↓reduceIte,List.reduceReplicate,Nat.reduceAdd,Nat.reduceSub,reduceCtorEq,Nat.reduceLeDiff,Nat.reduceMul,Nat.reduceLT,Nat.reduceEqDiff,Int.reduceBNe,Int.reduceBEq,Int.reduceEq,Int.reduceLT,Int.reduceLE,Int.reduceGT,Int.reduceGE,mu48,Nat.reduceBEq,↓wrap_up,↓wrap_down,↓wrap_pred,↓wrap_sub_nat,Int.reduceToNat,hl8,hget8,hget9,hz,hz2,h102,hall,htk8,hcall,List.all_append,lookD,look]
    exact fzEq rfl rfl
  | true=>
    have hct:=of_decide_eq_true hok.symm
    obtain⟨_,hg'⟩:=himp rfl
    rw[if_neg (by omega)]
    cases hwg:wholeG caps top re with
    | true=>
      rw[if_neg (by simp;omega)]
      rw[hwg]at hg'
      simp only[Bool.and_true]at hg'
      subst hg'
      simp +contextual (disch:=omega) only[Try.f48,dd48,go_sem,↓reduceIte,List.reduceReplicate,Nat.reduceAdd,Nat.reduceSub,reduceCtorEq,Nat.reduceLeDiff,Nat.reduceMul,Nat.reduceLT,Nat.reduceEqDiff,Int.reduceBNe,Int.reduceBEq,Int.reduceEq,Int.reduceLT,Int.reduceLE,Int.reduceGT,Int.reduceGE,mu48,Nat.reduceBEq,↓wrap_up,↓wrap_down,↓wrap_pred,↓wrap_sub_nat,Int.reduceToNat,hl8,hget8,hget9,hz,hz2,h102,hall,htk8,hcall,List.all_append,lookD,look]
      exact fzEq rfl rfl
    | false=>
      rw[if_pos (by simp)]
      rw[hwg]at hg'
      simp only[Bool.and_false]at hg'
      subst hg'
      simp +contextual (disch:=omega) only[Try.f48,dd48,go_sem,↓reduceIte,List.reduceReplicate,Nat.reduceAdd,Nat.reduceSub,reduceCtorEq,Nat.reduceLeDiff,Nat.reduceMul,Nat.reduceLT,Nat.reduceEqDiff,Int.reduceBNe,Int.reduceBEq,Int.reduceEq,Int.reduceLT,Int.reduceLE,Int.reduceGT,Int.reduceGE,mu48,Nat.reduceBEq,↓wrap_up,↓wrap_down,↓wrap_pred,↓wrap_sub_nat,Int.reduceToNat,hl8,hget8,hget9,hz,hz2,h102,hall,htk8,hcall,List.all_append,lookD,look]
      exact fzEq rfl rfl
 ·obtain⟨ok,g',s',hcall,hok,himp⟩:=h103 (.row 10 [.agg (reC re++[I caps,.bool runes])] 1) (.row 1 [I top] 1) false
  rw[show ((1:Nat):Int)=1 from rfl,show ((0:Nat):Int)=0 from rfl]at hcall
  cases ok with
  | false=>
    have hcf:=of_decide_eq_false hok.symm
    rw[if_pos (by omega)]
    simp +contextual (disch:=omega) only[Try.f48,dd48,go_sem,↓reduceIte,List.reduceReplicate,Nat.reduceAdd,Nat.reduceSub,reduceCtorEq,Nat.reduceLeDiff,Nat.reduceMul,Nat.reduceLT,Nat.reduceEqDiff,Int.reduceBNe,Int.reduceBEq,Int.reduceEq,Int.reduceLT,Int.reduceLE,Int.reduceGT,Int.reduceGE,mu48,Nat.reduceBEq,↓wrap_up,↓wrap_down,↓wrap_pred,↓wrap_sub_nat,Int.reduceToNat,hl8,hget8,hget9,hz,hz2,h102,hall,htk8,hcall,List.all_append,lookD,look]
    exact fzEq rfl rfl
  | true=>
    have hct:=of_decide_eq_true hok.symm
    obtain⟨_,hg'⟩:=himp rfl
    rw[if_neg (by omega)]
    rw[if_pos (by omega)]
    simp only[Bool.false_and]at hg'
    subst hg'
    simp +contextual (disch:=omega) only[Try.f48,dd48,go_sem,↓reduceIte,List.reduceReplicate,Nat.reduceAdd,Nat.reduceSub,reduceCtorEq,Nat.reduceLeDiff,Nat.reduceMul,Nat.reduceLT,Nat.reduceEqDiff,Int.reduceBNe,Int.reduceBEq,Int.reduceEq,Int.reduceLT,Int.reduceLE,Int.reduceGT,Int.reduceGE,mu48,Nat.reduceBEq,↓wrap_up,↓wrap_down,↓wrap_pred,↓wrap_sub_nat,Int.reduceToNat,hl8,hget8,hget9,hz,hz2,h102,hall,htk8,hcall,List.all_append,lookD,look]
    exact fzEq rfl rfl
 ·obtain⟨ok,g',s',hcall,hok,himp⟩:=h103 (.row 10 [.agg (reC re++[I caps,.bool runes])] 1) (.row 1 [I top] 1) false
  rw[show ((1:Nat):Int)=1 from rfl,show ((0:Nat):Int)=0 from rfl]at hcall
  cases ok with
  | false=>
    have hcf:=of_decide_eq_false hok.symm
    rw[if_pos (by omega)]
    simp +contextual (disch:=omega) only[Try.f48,dd48,go_sem,↓reduceIte,List.reduceReplicate,Nat.reduceAdd,Nat.reduceSub,reduceCtorEq,Nat.reduceLeDiff,Nat.reduceMul,Nat.reduceLT,Nat.reduceEqDiff,Int.reduceBNe,Int.reduceBEq,Int.reduceEq,Int.reduceLT,Int.reduceLE,Int.reduceGT,Int.reduceGE,mu48,Nat.reduceBEq,↓wrap_up,↓wrap_down,↓wrap_pred,↓wrap_sub_nat,Int.reduceToNat,hl8,hget8,hget9,hz,hz2,h102,hall,htk8,hcall,List.all_append,lookD,look]
    exact fzEq rfl rfl
  | true=>
    have hct:=of_decide_eq_true hok.symm
    obtain⟨_,hg'⟩:=himp rfl
    rw[if_neg (by omega)]
    rw[if_pos (by omega)]
    simp only[Bool.false_and]at hg'
    subst hg'
    simp +contextual (disch:=omega) only[Try.f48,dd48,go_sem,↓reduceIte,List.reduceReplicate,Nat.reduceAdd,Nat.reduceSub,reduceCtorEq,Nat.reduceLeDiff,Nat.reduceMul,Nat.reduceLT,Nat.reduceEqDiff,Int.reduceBNe,Int.reduceBEq,Int.reduceEq,Int.reduceLT,Int.reduceLE,Int.reduceGT,Int.reduceGE,mu48,Nat.reduceBEq,↓wrap_up,↓wrap_down,↓wrap_pred,↓wrap_sub_nat,Int.reduceToNat,hl8,hget8,hget9,hz,hz2,h102,hall,htk8,hcall,List.all_append,lookD,look]
    exact fzEq rfl rfl
end
end Go.Ev
