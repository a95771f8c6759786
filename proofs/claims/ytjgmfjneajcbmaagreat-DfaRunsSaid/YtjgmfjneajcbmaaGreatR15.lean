/- Functions of the program, each with what it computes; no further conditions. -/
import Derived.Test.YtjgmfjneajcbmaaGreatR06
import Derived.Test.YtjgmfjneajcbmaaGreatR14
import Derived.Test.YtjgmfjneajcbmaaGreatR12
import Derived.Test.YtjgmfjneajcbmaaGreatR11
import Derived.Test.YtjgmfjneajcbmaaGreatR10
set_option linter.unusedVariables false
set_option linter.unusedSimpArgs false
namespace Go.Ev
attribute [local go_sem] eq_self bindW_some bindW_map bindW_ite bindW_iteN W_seq W_region W_draw W_cond W_condK W_ret W_skip W_exit W_scope W_label blockK_norm blockK_ret blockK_exit WO_nil WO_cons WO_guard WD_nil WD_cons WD_guard guardV guardW_boolT guardW_boolF guardW_tup fpL_some fpL_none footprint footprint0 fineF thenK_norm thenK_ret thenK_exit put_some put_none ev_tmp ev_con ev_func ofK_int ofK_bool ofK_str ofK_nil ofK_agg ofC_int ofC_bool ofC_str ofC_nil ofC_nilp one_int one_bool one_str one_nil one_nilp evOp evBuiltin evCall evLen getElem_16 getElem_4 List.length_cons List.length_nil List.cons_append List.nil_append List.append_nil if_false if_true Bool.false_eq_true Bool.true_eq_false Option.map_some Option.map_none List.map_cons List.map_nil evBinOp evBin evUn asB_bool splitB_decide splitB_true splitB_false splitB_beq splitB_bne splitB_not endK_ret endK_norm List.getElem?_cons_zero List.getElem?_cons_succ evResults evResult packRes retK_norm retK_ret cellsAt mkVal evFieldAddr evField evIndexAddr evPart evStore evBuild evBuildSlice fillC fillE evSlice evMakeSlice evConvert getRow AV.cells List.head?_cons List.drop_zero List.drop_succ_cons List.take_zero List.take_succ_cons List.drop_nil List.take_nil List.all_cons List.all_nil AV.ok Bool.and_self Bool.and_true Bool.true_and and_self and_true true_and Nat.zero_add Nat.add_zero setCells splice pairsOk pairsX altW_none altW_some cfg_al WI_nil WI_cons FP.apart heapEq_refl sameAt_refl Bool.or_true Bool.true_or Bool.or_false srcElems elemsOf mutDst indDst evLenH evMapUpd evLookup getMp keyOk resOk strOf roundK_norm roundK_exit roundK_ret List.length_map List.getElem?_map Int.toNat_natCast decide_true decide_false Bool.not_true Bool.not_false List.set set_0 set_1 set_2 set_3 set_4 look_hit look lookD_hit lookD_cons lookD_nil ins_hit ins upd_hit upd rem1_hit rem1 dropT dropSt_eq initT cfg_dd cfg_bd cfg_ra actL_nil actL_cons act1 updT_hit updT frzB retE_norm retE_ret bndO bnd evEq eqCells not_false_eq_true not_true_eq_false toList_some Array.size_empty endE_norm endE_ret head_take1 List.contains_nil List.contains_cons Bool.or_self dlt_t dlt_f dle_t dle_f dgt_t dgt_f dge_t dge_f beq_t beq_f bne_t bne_f lt_T le_T nle_T nle_F Go.IntWalk.i64_in Go.IntWalk.i64_quo Go.IntWalk.rem_in
section
attribute [local go_sem] W_block evAppend tySzE List.head?_drop Nat.mul_one sameAt_zero sameAt_two sameAt_three sameAt_four sameAt_five room_ok ty0 ty3 ty4 ty22 ty34 ty54
open Go.Proofs Go.RowKit Go.IntWalk
set_option maxRecDepth 100000
set_option maxHeartbeats 4000000
def endsL (ins:List Ins) (first:List Nat) (xs:List Int):List Int:=(List.range (xs.length+1)).map fun p=>runL ins (xs.drop p) p first (-1)
def endsC (ins:List Ins) (size:Nat) (first:List Nat) (xs:List Int) (c:CS):Nat→CS
 | 0=>c
 | n+1=>runC ins size (xs.drop n) first ((endsC ins size first xs c n).need size first)
theorem runC_made (ins:List Ins) (size:Nat):∀(xs:List Int) (l:List Nat) (c:CS),(runC ins size xs l c).made≤c.made+xs.length
 | xs,l,c=>by
   by_cases hl:l=[]
   ·subst hl;rw[runC_nil];omega
   ·cases xs with
    | nil=>simp[runC,hl]
    | cons x xs=>
      simp only[runC,if_neg hl]
      have h1:=runC_made ins size xs (nextL ins l x) (c.need size (nextL ins l x))
      have h2:=CS.need_made c size (nextL ins l x)
      simp only[List.length_cons]
      omega
theorem endsC_made (ins:List Ins) (size:Nat) (first:List Nat) (xs:List Int) (c:CS):∀ n,(endsC ins size first xs c n).made≤c.made+n * (xs.length+1)
 | 0=>by simp[endsC]
 | n+1=>by
   have h1:=endsC_made ins size first xs c n
   have h2:=runC_made ins size (xs.drop n) first ((endsC ins size first xs c n).need size first)
   have h3:=CS.need_made (endsC ins size first xs c n) size first
   rw[List.length_drop]at h2
   simp only[endsC]
   rw[Nat.succ_mul]
   omega
theorem fill_set {l:List Int} {N n:Nat} {v:Int} (hl:l.length=N) (h:n < N) (hv:l[n]?=some v):(l.take n++List.replicate (N - n) 0).set n v=l.take (n+1)++List.replicate (N - (n+1)) 0:=by
 have ht:(l.take n).length=n:=by rw[List.length_take];omega
 rw[List.set_append_right _ _ (by omega),ht,Nat.sub_self,List.take_add_one,hv]
 obtain⟨m,hm⟩:∃ m,N - n=m+1:=⟨N - n - 1,by omega⟩
 rw[hm,show N - (n+1)=m by omega]
 simp[List.replicate_succ]
theorem fill_at {l:List Int} {N n:Nat} (hl:l.length=N) (h:n < N):(l.take n++List.replicate (N - n) 0)[n]?=some 0:=by
 have ht:(l.take n).length=n:=by rw[List.length_take];omega
 rw[List.getElem?_append_right (by omega),ht,Nat.sub_self,List.getElem?_replicate,if_pos (by omega)]
theorem fill_len {l:List Int} {N n:Nat} (hl:l.length=N) (h:n≤N):(l.take n++List.replicate (N - n) 0).length=N:=by
 rw[List.length_append,List.length_take,List.length_replicate];omega
theorem endsL_len (ins:List Ins) (first:List Nat) (xs:List Int):(endsL ins first xs).length=xs.length+1:=by simp[endsL]
theorem endsL_at (ins:List Ins) (first:List Nat) (xs:List Int) {n:Nat} (h:n < xs.length+1):(endsL ins first xs)[n]?=some (runL ins (xs.drop n) n first (-1)):=by simp[endsL,h]
structure ES where
 n:Nat
 H:List MB
 a:Lay2
theorem kf20e {ins:List Ins} {first:List Nat} {size:Nat} {P:Nat→Prop} {D C:Nat} {a:Lay2} {c:CS} {H:List MB} (hi:DI ins first size P D C a c H) (ho:InsOk ins) (hf1:∀ n∈first,n < ins.length) (hf2:first.length≤ins.length) (xs:List Int) (hx:xs.length≤65536) (hmd:c.made+5000000000≤4000000000000) :
  ∃ r,(∃ H' a',r=(AV.tup [.sl false ((endsL ins first xs).map I),I 0],H')∧DI ins first size P D C a' (endsC ins size first xs c (xs.length+1)) H'∧KeepsLow P H H')∧call Tryz.prog pol1 20 [.rf D 1 0 0,.sl false (xs.map I)] H=some r:=by
 have rp:∀ H1 r H,retPol pol1 20 H1 r H=some (r,H):=fun H1 r H=>rfl
 have hel:=endsL_len ins first xs
 have hpx:AV.plain (.sl false (xs.map I))=true:=by simp[AV.plain,plain_ints]
 refine call_run2E (pol:=pol1) Tryz.func20 rfl rfl rfl rfl (frzArgs_mix _ _ _ (by simp only[mixOk,hpx,Bool.or_true,Bool.true_and];rfl)) ?_
 simp +contextual (disch:=omega) only[Tryz.f20,dd20,go_sem,↓reduceIte,List.reduceReplicate,Nat.reduceAdd,Nat.reduceSub,reduceCtorEq,Nat.reduceLeDiff,Nat.reduceMul,Nat.reduceLT,Nat.reduceEqDiff,Int.reduceBNe,Int.reduceBEq,Int.reduceEq,Int.reduceLT,Int.reduceLE,Int.reduceGT,Int.reduceGE,List.length_append,List.map_append,mu20,Nat.reduceBEq,↓wrap_up,↓wrap_down,↓wrap_pred,↓wrap_sub_nat,Int.reduceToNat]
 have hi1:DI ins first size (fun i=>P i∨i=H.length) D C a c (H++[.row 1 (List.replicate (xs.length+1) (I 0)) 0]):=
  (hi.push _).repro (fun i hp=>by
    rw[List.length_append]
    rcases hp with hp|hp
    ·have:=hi.lo.1 i hp;omega
    ·rw[hp];simp) (fun i hp=>by
    rcases hp with hp|hp
    ·exact hi.off hp
    ·exact hi.new (by omega))
 refine W_for (σ:=ES) (M:=(mskOf (pol1.mask 20) (pol1.gc 20) (pol1.acts 20) H.length 5)) rfl (fun x=>(⟨29,[(17,I x.n),(16,I (xs.length+1:Nat)),(6,.ms H.length 1 (xs.length+1) 0 (xs.length+1)),(1,.sl false (xs.map I)),(0,.rf D 1 0 0)],x.H⟩:St))
  (fun x=>x.n≤xs.length+1∧DI ins first size (fun i=>P i∨i=H.length) D C x.a (endsC ins size first xs c x.n) x.H∧x.H[H.length]?=some (.row 1 (((endsL ins first xs).take x.n++List.replicate (xs.length+1 - x.n) 0).map I) 0)∧KeepsLow P H x.H)
  (fun x=>xs.length+1 - x.n) ⟨0,H++[MB.row 1 (List.replicate (xs.length+1) (I 0)) 0],a⟩ ?_ ⟨Nat.zero_le _,hi1,by simp,⟨by simp,fun i hp=>List.getElem?_append_left (hi.lo.1 i hp)⟩⟩ _ ?_
 ·rintro⟨n,H1,a1⟩ ⟨q1,q2,q3,q4⟩
  simp only at q1 q2 q3 q4 ⊢
  have hmd1:=endsC_made ins size first xs c n
  have hmul:n * (xs.length+1)≤65537 * 65537:=Nat.mul_le_mul (by omega) (by omega)
  by_cases hn:n < xs.length+1
  ·obtain⟨_,⟨H2,a2,rfl,d2,le2,low2⟩,hc⟩:=kf31 q2 ho hf1 hf2 xs (by omega) n (by omega) (by omega)
   have hE:H2[H.length]?=_:=(low2.2 H.length (.inr rfl)).trans q3
   have hat:=endsL_at ins first xs hn
   have h1:=fill_at hel hn
   have h2:=fill_set hel hn hat
   have h3:=fill_len hel (n:=n) (by omega)
   have h1':(((endsL ins first xs).take n++List.replicate (xs.length+1 - n) 0).map I)[n]?=some (I 0):=by rw[List.getElem?_map,h1];rfl
   have h2':(((endsL ins first xs).take n++List.replicate (xs.length+1 - n) 0).map I).set n (I (runL ins (xs.drop n) n first (-1)))=((endsL ins first xs).take (n+1)++List.replicate (xs.length+1 - (n+1)) 0).map I:=by rw[← h2,List.map_set]
   have h3':(((endsL ins first xs).take n++List.replicate (xs.length+1 - n) 0).map I).length=xs.length+1:=by rw[List.length_map,h3]
   generalize ((endsL ins first xs).take n++List.replicate (xs.length+1 - n) 0).map I=E at *
   have hlt:=(List.getElem?_eq_some_iff.1 hE).1
   simp +contextual (disch:=omega) only[Tryz.f20,dd20,go_sem,↓reduceIte,List.reduceReplicate,Nat.reduceAdd,Nat.reduceSub,reduceCtorEq,Nat.reduceLeDiff,Nat.reduceMul,Nat.reduceLT,Nat.reduceEqDiff,Int.reduceBNe,Int.reduceBEq,Int.reduceEq,Int.reduceLT,Int.reduceLE,Int.reduceGT,Int.reduceGE,mu20,Nat.reduceBEq,↓wrap_up,↓wrap_down,↓wrap_pred,↓wrap_sub_nat,Int.reduceToNat,hc,hE,h1',h2',h3']
   refine⟨⟨n+1,H2.set H.length (.row 1 (((endsL ins first xs).take (n+1)++List.replicate (xs.length+1 - (n+1)) 0).map I) 0),a2⟩,⟨by show n+1≤_;omega,d2.frame (by simp) (fun i hp hi=>List.getElem?_set_ne (fun e=>hp (.inr e.symm))),List.getElem?_set_self hlt,⟨by rw[List.length_set];exact Nat.le_trans q4.1 low2.1,fun i hp=>?_⟩⟩,by show xs.length+1 - (n+1) < xs.length+1 - n;omega,rfl⟩
   rw[List.getElem?_set_ne (by have:=hi.lo.1 i hp;omega),low2.2 i (.inl hp)]
   exact q4.2 i hp
  ·obtain rfl:n=xs.length+1:=by omega
   rw[List.take_of_length_le (by omega),Nat.sub_self,List.replicate_zero,List.append_nil]at q3
   have hlt:=(List.getElem?_eq_some_iff.1 q3).1
   have hrow:getRow H1 H.length=some (1,(endsL ins first xs).map I,0):=by unfold getRow;rw[q3]
   have hfz:=fz_row (tot:=xs.length+1) hrow (by rw[List.length_map];exact hel) (plain_ints _)
   have hm:mark H1 H.length (xs.length+1)=H1.set H.length (.row 1 ((endsL ins first xs).map I) (xs.length+1)):=by
    unfold mark;rw[hrow];simp
   rw[hm]at hfz
   simp +contextual (disch:=omega) only[Tryz.f20,dd20,go_sem,↓reduceIte,List.reduceReplicate,Nat.reduceAdd,Nat.reduceSub,reduceCtorEq,Nat.reduceLeDiff,Nat.reduceMul,Nat.reduceLT,Nat.reduceEqDiff,Int.reduceBNe,Int.reduceBEq,Int.reduceEq,Int.reduceLT,Int.reduceLE,Int.reduceGT,Int.reduceGE,List.length_append,List.map_append,mu20,Nat.reduceBEq,↓wrap_up,↓wrap_down,↓wrap_pred,↓wrap_sub_nat,Int.reduceToNat,hfz]
   refine⟨_,⟨H1.set H.length (.row 1 ((endsL ins first xs).map I) (xs.length+1)),a1,rfl,?_,⟨by rw[List.length_set];exact q4.1,fun i hp=>?_⟩⟩,rp _ _ _⟩
   ·have d3:=q2.frame (H':=H1.set H.length (.row 1 ((endsL ins first xs).map I) (xs.length+1))) (by simp) (fun i hp hi=>List.getElem?_set_ne (fun e=>hp (.inr e.symm)))
    exact d3.repro (fun i hp=>d3.lo.1 i (.inl hp)) (fun i hp=>d3.off (.inl hp))
   ·rw[List.getElem?_set_ne (by have:=hi.lo.1 i hp;omega)]
    exact q4.2 i hp
 ·simp only[List.take_zero,List.nil_append,Nat.sub_zero,List.map_replicate]
  rfl
end
section
attribute [local go_sem] W_block List.length_append List.map_append tySzE List.head?_drop Nat.mul_one sameAt_zero sameAt_two sameAt_three sameAt_four sameAt_five room_ok ty0 ty3 ty4 ty22
open Go.Proofs Go.RowKit Go.IntWalk
set_option maxRecDepth 100000
set_option maxHeartbeats 8000000
theorem app_i {H:List MB} {i n:Nat} {rs:List Int} {c:Int} {t:Bool} (hi:getRow H i=some (1,rs.map I,0)) (hn:rs.length=n) (hr:n+1≤4000000000) :
  evAppend Tryz.prog H 22 22 (.ms i 1 n 0 n) (.sl t [I c])=some (.ms i 1 (n+1) 0 (n+1),H.set i (.row 1 ((rs++[c]).map I) 0)):=by
 have hs:srcElems Tryz.prog H 3 (.sl t [I c])=some [I c]:=rfl
 rw[evAppend_end (e:=3) (by kernel_rfl) (by kernel_rfl) (k:=1) (by kernel_rfl) (by_:=8) (by kernel_rfl) (ze:=I 0) (by kernel_rfl) rfl (by omega) hs rfl hi (by rw[List.length_map];exact hn) (Nat.zero_le _) (room_ok (by simpa using hr) (by omega))]
 rw[List.map_append]
 rfl
def ktextT:List Int:=[97,97,97,98,98,99,97,98,10,32,65,200]
def textAt (l:List Int) (i:Nat):Int:=ktextT.getD (pickI l i 12).toNat 0
def textN (l:List Int) (n:Nat):List Int:=(List.range n).map (textAt l)
theorem textN_snoc (l:List Int) (n:Nat):textN l (n+1)=textN l n++[textAt l n]:=by simp[textN,List.range_succ]
theorem textN_len (l:List Int) (n:Nat):(textN l n).length=n:=by simp[textN]
def textI (l:List Int) (most:Nat):List Int:=textN l (min l.length most)
theorem kf17t (l:List Int) (hl:∀ x∈l,In64 x) (most:Nat) (hm:most≤1000000) (H:List MB):call Tryz.prog pol1 19 [.sl false (l.map I),I most] H=some (.sl false ((textI l most).map I),H):=by
 have hpl:=plain_ints l
 refine call_run Tryz.func19 rfl rfl rfl rfl rfl rfl (fun _=>rfl) (by simp[AV.plain,AV.plainL,hpl]) (by simp[AV.plain,plain_ints]) ?_ H
 have hP:=fun i=>f57 l i 12 hl (by omega)
 simp +contextual (disch:=omega) only[Tryz.f19,dd19,go_sem,↓reduceIte,evAppend,List.reduceReplicate,Nat.reduceAdd,Nat.reduceSub,reduceCtorEq,Nat.reduceLeDiff,Nat.reduceMul,Nat.reduceLT,Nat.reduceEqDiff,Int.reduceBNe,Int.reduceBEq,Int.reduceEq,Int.reduceLT,Int.reduceLE,Int.reduceGT,Int.reduceGE,mu19,Nat.reduceBEq,↓wrap_up,↓wrap_down,↓wrap_pred,↓wrap_sub_nat,Int.reduceToNat]
 refine W_count (M:=(mskOf (pol1.mask 19) (pol1.gc 19) (pol1.acts 19) 0 3)) rfl (min l.length most) (fun i=>(⟨28,[(6,I i),(5,.ms 0 1 i 0 i),(1,I most),(0,.sl false (l.map I))],[.row 1 ((textN l i).map I) 0]⟩:St)) (fun _=>True) ?_ ?_ trivial _ ?_
 ·intro i hi _
  have h1:i < l.length:=by omega
  have h2:i < most:=by omega
  have hp:=pick_lt (l:=l) (i:=i) (m:=12) (by omega)
  have ht:textAt l i=ktextT.getD (pickI l i 12).toNat 0:=rfl
  have hP:=hP i
  generalize pickI l i 12=p at *
  obtain⟨n,rfl⟩:∃ n:Nat,p=n:=⟨p.toNat,by omega⟩
  have hg:([I 97,I 97,I 97,I 98,I 98,I 99,I 97,I 98,I 10,I 32,I 65,I 200]:List AV)[n]?=some (I (textAt l i)):=by
   rw[ht,Int.toNat_natCast]
   have h12:∀ n,n < 12→ktextT[n]?=some (ktextT.getD n 0):=by decide
   have e:([I 97,I 97,I 97,I 98,I 98,I 99,I 97,I 98,I 10,I 32,I 65,I 200]:List AV)=ktextT.map I:=rfl
   rw[e,List.getElem?_map,h12 n (by omega)];rfl
  have happ:=fun(K:List MB) (t:Bool)=>app_i (H:=.row 1 ((textN l i).map I) 0::K) (i:=0) (c:=textAt l i) (t:=t) rfl (textN_len l i) (by omega)
  simp +contextual (disch:=omega) only[Tryz.f19,dd19,go_sem,↓reduceIte,List.reduceReplicate,Nat.reduceAdd,Nat.reduceSub,reduceCtorEq,Nat.reduceLeDiff,Nat.reduceMul,Nat.reduceLT,Nat.reduceEqDiff,Int.reduceBNe,Int.reduceBEq,Int.reduceEq,Int.reduceLT,Int.reduceLE,Int.reduceGT,Int.reduceGE,mu19,Nat.reduceBEq,↓wrap_up,↓wrap_down,↓wrap_pred,↓wrap_sub_nat,Int.reduceToNat,hP,hg,happ]
  rw[textN_snoc]
  exact(by first|rfl|(refine prep_to (n:=1) (m:=⟨some [6,5,1,0],some 1,[]⟩) rfl rfl ?_ ?_ ?_<;>first|rfl|(simp[keepT,AV.underL,AV.under,MB.under,underL_plain,under_plain,underL_append,plain_ints,plain_span,plain_ins,plain_prg,-List.map_take,-List.map_replicate,-List.map_set];done)|(simp[keepT,AV.underL,AV.under,MB.under,underL_plain,under_plain,underL_append,plain_ints,plain_span,plain_ins,plain_prg,-List.map_take,-List.map_replicate,-List.map_set];omega)))
 ·intro _
  have hx:(min l.length most=l.length∨min l.length most=most)∧min l.length most≤l.length:=by omega
  have hlen:=textN_len l (min l.length most)
  unfold textI
  generalize min l.length most=m at *
  by_cases h1:m < l.length
  ·have h2:m=most:=by omega
   subst h2
   simp +contextual (disch:=omega) only[Tryz.f19,dd19,go_sem,↓reduceIte,evAppend,List.reduceReplicate,Nat.reduceAdd,Nat.reduceSub,reduceCtorEq,Nat.reduceLeDiff,Nat.reduceMul,Nat.reduceLT,Nat.reduceEqDiff,Int.reduceBNe,Int.reduceBEq,Int.reduceEq,Int.reduceLT,Int.reduceLE,Int.reduceGT,Int.reduceGE,mu19,Nat.reduceBEq,↓wrap_up,↓wrap_down,↓wrap_pred,↓wrap_sub_nat,Int.reduceToNat]
   exact⟨_,fz_row (k:=1) rfl (by simpa using hlen) (plain_ints _)⟩
  ·have h2:m=l.length:=by omega
   subst h2
   simp +contextual (disch:=omega) only[Tryz.f19,dd19,go_sem,↓reduceIte,evAppend,List.reduceReplicate,Nat.reduceAdd,Nat.reduceSub,reduceCtorEq,Nat.reduceLeDiff,Nat.reduceMul,Nat.reduceLT,Nat.reduceEqDiff,Int.reduceBNe,Int.reduceBEq,Int.reduceEq,Int.reduceLT,Int.reduceLE,Int.reduceGT,Int.reduceGE,mu19,Nat.reduceBEq,↓wrap_up,↓wrap_down,↓wrap_pred,↓wrap_sub_nat,Int.reduceToNat]
   exact⟨_,fz_row (k:=1) rfl (by simpa using hlen) (plain_ints _)⟩
 ·exact(by first|rfl|(refine prep_to (n:=1) (m:=⟨some [6,5,1,0],some 1,[]⟩) rfl rfl ?_ ?_ ?_<;>first|rfl|(simp[keepT,AV.underL,AV.under,MB.under,underL_plain,under_plain,underL_append,plain_ints,plain_span,plain_ins,plain_prg,-List.map_take,-List.map_replicate,-List.map_set];done)|(simp[keepT,AV.underL,AV.under,MB.under,underL_plain,under_plain,underL_append,plain_ints,plain_span,plain_ins,plain_prg,-List.map_take,-List.map_replicate,-List.map_set];omega)))
end
section
attribute [local go_sem] W_block evAppend List.length_append List.map_append ty0 ty3 ty4 ty23 ty31 ty33 ty46 ty48 ty87 ty91
open Go.Proofs Go.RowKit Go.IntWalk
set_option maxRecDepth 100000
set_option maxHeartbeats 4000000
def T24 (caps:Int) (runes:Bool) (g:AV):List Ins→St
 | []=>(⟨40,[(4,I 0),(3,.rf 2 1 0 0),(2,.rf 1 1 0 0),(1,.rf 0 1 0 0)],[.row 3 [g] 0,.row 3 [.agg [.sl true [],I 0,.bool false]] 0,.row 3 [.agg [.sl true [],I caps,.bool runes]] 0]⟩:St)
 | x::xs=>(⟨40,[(4,I ((xs.length+1:Nat):Int)),(3,.rf 2 1 0 0),(2,.rf 1 1 0 0),(1,.rf 0 1 0 0)],[.row 3 [g] 0,.row 3 [.agg [.sl true [],I 0,.bool false]] 0,.row 3 [.agg [.ms 4 5 (xs.length+1) 0 (xs.length+1),I caps,.bool runes]] 0,.row 5 [insAV x] 0,.row 5 (insAV x::xs.map insAV) 0]⟩:St)
theorem f24 (g:Prg) (hl:g.ins.length≤1000000) (H:List MB):call Tryz.prog pol1 14 [prgAV g] H=some (prgAV g,H):=by
 refine call_run Tryz.func14 rfl rfl rfl rfl rfl rfl (fun _=>rfl) (by simp[AV.plain,AV.plainL,plain_ints,plain_span,plain_ins,plain_prg]) (by simp[AV.plain,AV.plainL,plain_ints,plain_span,plain_ins,plain_prg]) ?_ H
 simp +contextual (disch:=omega) only[Tryz.f14,dd14,go_sem,↓reduceIte,List.reduceReplicate,Nat.reduceAdd,Nat.reduceSub,reduceCtorEq,Nat.reduceLeDiff,Nat.reduceMul,Nat.reduceLT,Nat.reduceEqDiff,Int.reduceBNe,Int.reduceBEq,Int.reduceEq,Int.reduceLT,Int.reduceLE,Int.reduceGT,Int.reduceGE,mu14,Nat.reduceBEq,↓wrap_up,↓wrap_down,↓wrap_pred,↓wrap_sub_nat,Int.reduceToNat]
 refine W_count (M:=(mskOf (pol1.mask 14) (pol1.gc 14) (pol1.acts 14) 0 3)) rfl g.ins.length (fun i=>T24 g.caps g.runes (prgAV g) (g.ins.take i)) (fun i=>True) ?_ ?_ trivial _ (by first|rfl|(refine prep_cut rfl (by rfl) (by rfl) (by rfl) ?_ ?_<;>simp[AV.underL,AV.under,MB.under,underL_plain,under_plain,plain_ints,plain_span,plain_ins,plain_prg,-List.map_take]))
 ·intro i hi _
  obtain⟨p,hp⟩:∃ p,g.ins[i]?=some p:=⟨_,List.getElem?_eq_getElem hi⟩
  have hlen:(g.ins.take i).length=i:=by simp;omega
  rw[List.take_add_one,hp]
  generalize g.ins.take i=xs at *
  cases xs with
  | nil=>
    simp only[List.length_nil]at hlen
    subst hlen
    simp only[T24]
    simp +contextual (disch:=omega) only[Tryz.f14,dd14,go_sem,↓reduceIte,List.reduceReplicate,Nat.reduceAdd,Nat.reduceSub,reduceCtorEq,Nat.reduceLeDiff,Nat.reduceMul,Nat.reduceLT,Nat.reduceEqDiff,Int.reduceBNe,Int.reduceBEq,Int.reduceEq,Int.reduceLT,Int.reduceLE,Int.reduceGT,Int.reduceGE,mu14,Nat.reduceBEq,↓wrap_up,↓wrap_down,↓wrap_pred,↓wrap_sub_nat,Int.reduceToNat,hp]
    exact⟨by simp[roomFor],(by first|rfl|(refine prep_cut rfl (by rfl) (by rfl) (by rfl) ?_ ?_<;>simp[AV.underL,AV.under,MB.under,underL_plain,under_plain,plain_ints,plain_span,plain_ins,plain_prg,-List.map_take]))⟩
  | cons x xs=>
    simp only[List.length_cons]at hlen
    subst hlen
    simp only[T24]
    simp +contextual (disch:=omega) only[Tryz.f14,dd14,go_sem,↓reduceIte,List.reduceReplicate,Nat.reduceAdd,Nat.reduceSub,reduceCtorEq,Nat.reduceLeDiff,Nat.reduceMul,Nat.reduceLT,Nat.reduceEqDiff,Int.reduceBNe,Int.reduceBEq,Int.reduceEq,Int.reduceLT,Int.reduceLE,Int.reduceGT,Int.reduceGE,mu14,Nat.reduceBEq,↓wrap_up,↓wrap_down,↓wrap_pred,↓wrap_sub_nat,Int.reduceToNat,hp]
    refine⟨by simp[roomFor];omega,?_⟩
    refine prep_cut (n:=5) rfl (by rfl) rfl ?_ ?_ ?_
    ·simp[List.take_of_length_le]
    ·simp[AV.underL,AV.under]
    ·simp[AV.underL,AV.under,MB.under,underL_plain,under_plain,plain_span,plain_ins,plain_prg,underL_append]
 ·intro _
  rw[List.take_length]
  rcases g with ⟨ins,caps,runes⟩
  cases ins with
  | nil=>
    simp only[T24]
    simp +contextual (disch:=omega) only[Tryz.f14,dd14,go_sem,↓reduceIte,List.reduceReplicate,Nat.reduceAdd,Nat.reduceSub,reduceCtorEq,Nat.reduceLeDiff,Nat.reduceMul,Nat.reduceLT,Nat.reduceEqDiff,Int.reduceBNe,Int.reduceBEq,Int.reduceEq,Int.reduceLT,Int.reduceLE,Int.reduceGT,Int.reduceGE,mu14,Nat.reduceBEq,↓wrap_up,↓wrap_down,↓wrap_pred,↓wrap_sub_nat,Int.reduceToNat]
    exact⟨_,rfl⟩
  | cons x xs=>
    simp only[T24]
    simp +contextual (disch:=omega) only[Tryz.f14,dd14,go_sem,↓reduceIte,List.reduceReplicate,Nat.reduceAdd,Nat.reduceSub,reduceCtorEq,Nat.reduceLeDiff,Nat.reduceMul,Nat.reduceLT,Nat.reduceEqDiff,Int.reduceBNe,Int.reduceBEq,Int.reduceEq,Int.reduceLT,Int.reduceLE,Int.reduceGT,Int.reduceGE,mu14,Nat.reduceBEq,↓wrap_up,↓wrap_down,↓wrap_pred,↓wrap_sub_nat,Int.reduceToNat]
    simp only[fz,fzA_agg,fzL]
    rw[fzA_ms (n:=5) (els:=insAV x::xs.map insAV) (k:=5) (z:=0) rfl (by simp) (by simp)
     (by rw[List.drop_zero,List.take_of_length_le (by simp)];exact fzL_plain _ _ _ (plain_ins (x::xs)))]
    exact⟨_,rfl⟩
end
section
attribute [local go_sem] evAppend List.length_append List.map_append ty0 ty3 ty4 ty22 ty23 ty31 ty33 ty40 ty87
open Go.Proofs Go.RowKit Go.IntWalk
set_option maxRecDepth 100000
set_option maxHeartbeats 4000000
abbrev insAVt (i:Ins):AV:=.agg [I i.op,I i.x,I i.y,I i.n,.sl true (i.set.map spanAV)]
def T21 (l:List Int) (n caps:Int) (runes:Bool):List Ins→St
 | []=>(⟨119,[(5,I ((0:Nat):Int)),(4,.rf 1 1 0 0),(3,I n),(2,.rf 0 1 0 0),(0,.sl false (l.map I))],[.row 3 [.agg [.sl true [],I 0,.bool false]] 0,.row 3 [.agg [.sl true [],I caps,.bool runes]] 0]⟩:St)
 | x::xs=>(⟨119,[(5,I ((xs.length+1:Nat):Int)),(4,.rf 1 1 0 0),(3,I n),(2,.rf 0 1 0 0),(0,.sl false (l.map I))],[.row 3 [.agg [.sl true [],I 0,.bool false]] 0,.row 3 [.agg [.ms 3 5 (xs.length+1) 0 (xs.length+1),I caps,.bool runes]] 0,.row 5 [insAVt x] 0,.row 5 (insAVt x::xs.map insAVt) 0]⟩:St)
structure SomeOk (g:Prg):Prop where
 len:1≤g.ins.length∧g.ins.length≤12
 caps:0≤g.caps∧g.caps≤2
 ok:∀ i∈g.ins,okIns g.ins.length g.caps g.runes i=true
 last:lastGood g=true
 sets:∀ i∈g.ins,i.set.length≤1
theorem underL_insT (n:Nat) (l:List Ins):AV.underL n (l.map insAVt)=true:=by
 induction l with
 | nil=>rfl
 | cons a l ih=>simp[AV.underL,AV.under,underL_plain,plain_span,ih]
theorem fzT_one (j:List AV→List MB→Option (List AV×List MB)) (i:Ins) (H:List MB):fzA j (insAVt i) H=some (insAV i,H):=by
 simp only[fzA_agg,fzL,fzA_int,fzA_sl,fzL_plain _ _ _ (plain_span i.set)]
theorem fz_allT {id tot:Nat} {ins:List Ins} {caps:Int} {runes:Bool} {H:List MB} (hr:getRow H id=some (5,ins.map insAVt,0)) (hn:tot=ins.length) :
  ∃ H',fz (.agg [.ms id 5 tot 0 tot,I caps,.bool runes]) H=some (prgAV ⟨ins,caps,runes⟩,H'):=by
 subst hn
 simp only[fz,fzA_agg,fzL]
 rw[fzA_ms (n:=5) (k:=5) (ys:=ins.map insAV) hr (by simp) (by simp) (by
  rw[List.drop_zero,List.take_of_length_le (by simp)];exact fzL_map (fun i H=>fzT_one _ i H) _ _)]
 exact⟨_,rfl⟩
theorem lastGood_app (xs:List Ins) (x:Ins) (c:Int) (r:Bool) (h:x.op=0∨x.op=2∨x.op=3):lastGood ⟨xs++[x],c,r⟩=true:=by
 simp[lastGood];omega
theorem ok_zero (n:Nat) (c:Int) (r:Bool):okIns n c r ⟨0,0,0,0,[]⟩=true:=by simp[okIns]
theorem next21 {n:Nat} {caps:Int} {runes:Bool} {xs:List Ins} {x:Ins} (h1:xs.length < n) (h2:∀ i∈xs,okIns n caps runes i=true∧i.set.length≤1) (hx:okIns n caps runes x=true∧x.set.length≤1)
  (hl:xs.length+1=n→x.op=0∨x.op=2∨x.op=3) :
  (xs++[x]).length≤n∧(∀ i∈xs++[x],okIns n caps runes i=true∧i.set.length≤1)∧((xs++[x]).length=n→lastGood ⟨xs++[x],caps,runes⟩=true):=
 ⟨by simp;omega,fun i hi=>by
   rcases List.mem_append.1 hi with h|h
   ·exact h2 i h
   ·rw[List.mem_singleton.1 h];exact hx,fun h=>lastGood_app _ _ _ _ (hl (by simpa using h))⟩
theorem f21 (l:List Int) (hl:∀ x∈l,In64 x):∃ r,(∃ g,SomeOk g∧r=prgAV g)∧∀ H,call Tryz.prog pol1 9 [.sl false (l.map I)] H=some (r,H):=by
 obtain⟨n,hn1,hn2,hn3⟩:∃ n:Nat,(n:Int)=1+pickI l 0 12∧1≤n∧n≤12:=by
  have:=pick_lt (l:=l) (i:=0) (m:=12) (by omega)
  exact⟨(1+pickI l 0 12).toNat,by omega,by omega,by omega⟩
 have hw:IntKind.i64.wrap (1+pickI l 0 12)=n:=by rw[i64_in]<;>omega
 have hcaps:=pick_lt (l:=l) (i:=1) (m:=3) (by omega)
 refine call_runA Tryz.func9 rfl rfl rfl rfl rfl rfl (fun _=>rfl) (by simp[AV.plain,AV.plainL,plain_ints,plain_span,plain_ins,plain_prg]) ?_ ?_
 ·rintro _ ⟨g,_,rfl⟩;exact plain_prg g
 have hP:=fun i m h=>f57 l i m hl h
 simp +contextual (disch:=omega) only[Tryz.f9,dd9,go_sem,↓reduceIte,W_block,List.reduceReplicate,Nat.reduceAdd,Nat.reduceSub,reduceCtorEq,Nat.reduceLeDiff,Nat.reduceMul,Nat.reduceLT,Nat.reduceEqDiff,Int.reduceBNe,Int.reduceBEq,Int.reduceEq,Int.reduceLT,Int.reduceLE,Int.reduceGT,Int.reduceGE,mu9,Nat.reduceBEq,↓wrap_up,↓wrap_down,↓wrap_pred,↓wrap_sub_nat,Int.reduceToNat,hP 0 12 (by omega),hP 1 3 (by omega),hP 2 3 (by omega),hw]
 generalize pickI l 1 3=caps at *
 generalize (pickI l 2 3 == 0)=runes at *
 refine W_for (M:=(mskOf (pol1.mask 9) (pol1.gc 9) (pol1.acts 9) 0 4)) rfl (T21 l n caps runes) (fun xs=>xs.length≤n∧(∀ i∈xs,okIns n caps runes i=true∧i.set.length≤1)∧(xs.length=n→lastGood ⟨xs,caps,runes⟩=true)) (fun xs=>n - xs.length) [] ?_ ⟨by simp,by simp,by simp;omega⟩ _ (by first|rfl|(refine prep_cut rfl (by rfl) (by rfl) (by rfl) ?_ ?_<;>simp[AV.underL,AV.under,MB.under,underL_plain,under_plain,plain_ints,plain_span,plain_ins,plain_prg,-List.map_take]))
 rintro xs ⟨h1,h2,h3⟩
 by_cases hlt:xs.length < n
 ·have hk:=pick_lt (l:=l) (i:=3+xs.length) (m:=1048576) (by omega)
  have hPk:=hP (3+xs.length) 1048576 (by omega)
  generalize pickI l (3+xs.length) 1048576=k at *
  have hm3:∀ z:Int,0 < caps→0≤z % (2 * caps)∧z % (2 * caps) < 2 * caps:=fun z h=>⟨Int.emod_nonneg _ (by omega),Int.emod_lt_of_pos _ (by omega)⟩
  have hmod:∀ z:Int,0≤z % n∧z % n < n:=fun z=>⟨Int.emod_nonneg _ (by omega),Int.emod_lt_of_pos _ (by omega)⟩
  have hm1:=fun z=>(hmod z).1
  have hm2:=fun z=>(hmod z).2
  cases xs with
  | nil=>
    simp only[T21]
    simp only[List.length_nil]at hPk hlt
    simp +contextual (disch:=omega) only[Tryz.f9,dd9,go_sem,↓reduceIte,List.reduceReplicate,Nat.reduceAdd,Nat.reduceSub,reduceCtorEq,Nat.reduceLeDiff,Nat.reduceMul,Nat.reduceLT,Nat.reduceEqDiff,Int.reduceBNe,Int.reduceBEq,Int.reduceEq,Int.reduceLT,Int.reduceLE,Int.reduceGT,Int.reduceGE,mu9,Nat.reduceBEq,↓wrap_up,↓wrap_down,↓wrap_pred,↓wrap_sub_nat,Int.reduceToNat,W_block (id:=1),hPk]
    refine W_cut (fun s=>∃ x:Ins,x.set.length≤1∧okIns n caps runes x=true∧s=⟨119,[(7,.rf 2 1 0 0),(5,I ((0:Nat):Int)),(4,.rf 1 1 0 0),(3,I n),(2,.rf 0 1 0 0),(0,.sl false (l.map I))],
     [.row 3 [.agg [.sl true [],I 0,.bool false]] 0,.row 3 [.agg [.sl true [],I caps,.bool runes]] 0,.row 5 [insAVt x] 0]⟩) ?_ ?_
    ·simp +contextual (disch:=omega) only[Tryz.f9,dd9,go_sem,↓reduceIte,W_block,List.reduceReplicate,Nat.reduceAdd,Nat.reduceSub,reduceCtorEq,Nat.reduceLeDiff,Nat.reduceMul,Nat.reduceLT,Nat.reduceEqDiff,Int.reduceBNe,Int.reduceBEq,Int.reduceEq,Int.reduceLT,Int.reduceLE,Int.reduceGT,Int.reduceGE,mu9,Nat.reduceBEq,↓wrap_up,↓wrap_down,↓wrap_pred,↓wrap_sub_nat,Int.reduceToNat,cut_norm]
     repeat' (first|intro _|apply And.intro)
     all_goals first
      | omega
      | (unfold dOk;kernel_rfl)
      | kernel_rfl
      | (refine⟨⟨_,_,_,_,[]⟩,?_,?_,rfl⟩<;>simp[okIns,refSpans,badAt,lastOk,hm1,hm2]<;>done)
      | (refine⟨⟨_,_,_,_,[]⟩,?_,?_,rfl⟩<;>simp[okIns,refSpans,badAt,lastOk,hm1,hm2]<;>omega)
      | (refine⟨⟨_,_,_,_,[]⟩,?_,?_,rfl⟩
         ·simp
         ·have q:=hm3 (k / 8) (by omega)
          simp[okIns,refSpans,badAt,lastOk]
          omega)
      | (refine⟨⟨_,_,_,_,[(97,_)]⟩,?_,?_,rfl⟩
         ·simp
         ·simp[okIns,refSpans,badAt,lastOk]
          (try split)<;>omega)
    ·rintro _ ⟨z,hz1,hz2,rfl⟩
     have hop:=okIns_op hz2
     by_cases h1n:0+1=n
     ·by_cases ha:z.op=1
      ·simp +contextual (disch:=omega) only[Tryz.f9,dd9,go_sem,↓reduceIte,W_block,List.reduceReplicate,Nat.reduceAdd,Nat.reduceSub,reduceCtorEq,Nat.reduceLeDiff,Nat.reduceMul,Nat.reduceLT,Nat.reduceEqDiff,Int.reduceBNe,Int.reduceBEq,Int.reduceEq,Int.reduceLT,Int.reduceLE,Int.reduceGT,Int.reduceGE,mu9,Nat.reduceBEq,↓wrap_up,↓wrap_down,↓wrap_pred,↓wrap_sub_nat,Int.reduceToNat]
       refine⟨by simp[roomFor],[]++[⟨0,0,0,0,[]⟩],next21 (by simpa using hlt) h2 ⟨ok_zero _ _ _,by simp⟩ (fun h=>by simp only[List.length_nil,List.length_cons]at h;first|exact Or.inl rfl|omega),by simp;omega,?_⟩
       exact(by first|rfl|(refine prep_cut rfl (by rfl) (by rfl) (by rfl) ?_ ?_<;>simp[AV.underL,AV.under,MB.under,underL_plain,under_plain,plain_ints,plain_span,plain_ins,plain_prg,-List.map_take,underL_insT]))
      ·by_cases hb:4≤z.op
       ·simp +contextual (disch:=omega) only[Tryz.f9,dd9,go_sem,↓reduceIte,W_block,List.reduceReplicate,Nat.reduceAdd,Nat.reduceSub,reduceCtorEq,Nat.reduceLeDiff,Nat.reduceMul,Nat.reduceLT,Nat.reduceEqDiff,Int.reduceBNe,Int.reduceBEq,Int.reduceEq,Int.reduceLT,Int.reduceLE,Int.reduceGT,Int.reduceGE,mu9,Nat.reduceBEq,↓wrap_up,↓wrap_down,↓wrap_pred,↓wrap_sub_nat,Int.reduceToNat]
        refine⟨by simp[roomFor],[]++[⟨0,0,0,0,[]⟩],next21 (by simpa using hlt) h2 ⟨ok_zero _ _ _,by simp⟩ (fun h=>by simp only[List.length_nil,List.length_cons]at h;first|exact Or.inl rfl|omega),by simp;omega,?_⟩
        exact(by first|rfl|(refine prep_cut rfl (by rfl) (by rfl) (by rfl) ?_ ?_<;>simp[AV.underL,AV.under,MB.under,underL_plain,under_plain,plain_ints,plain_span,plain_ins,plain_prg,-List.map_take,underL_insT]))
       ·simp +contextual (disch:=omega) only[Tryz.f9,dd9,go_sem,↓reduceIte,W_block,List.reduceReplicate,Nat.reduceAdd,Nat.reduceSub,reduceCtorEq,Nat.reduceLeDiff,Nat.reduceMul,Nat.reduceLT,Nat.reduceEqDiff,Int.reduceBNe,Int.reduceBEq,Int.reduceEq,Int.reduceLT,Int.reduceLE,Int.reduceGT,Int.reduceGE,mu9,Nat.reduceBEq,↓wrap_up,↓wrap_down,↓wrap_pred,↓wrap_sub_nat,Int.reduceToNat]
        refine⟨by simp[roomFor],[]++[z],next21 (by simpa using hlt) h2 ⟨hz2,hz1⟩ (fun h=>by simp only[List.length_nil,List.length_cons]at h;first|exact Or.inl rfl|omega),by simp;omega,?_⟩
        exact(by first|rfl|(refine prep_cut rfl (by rfl) (by rfl) (by rfl) ?_ ?_<;>simp[AV.underL,AV.under,MB.under,underL_plain,under_plain,plain_ints,plain_span,plain_ins,plain_prg,-List.map_take,underL_insT]))
     ·simp +contextual (disch:=omega) only[Tryz.f9,dd9,go_sem,↓reduceIte,W_block,List.reduceReplicate,Nat.reduceAdd,Nat.reduceSub,reduceCtorEq,Nat.reduceLeDiff,Nat.reduceMul,Nat.reduceLT,Nat.reduceEqDiff,Int.reduceBNe,Int.reduceBEq,Int.reduceEq,Int.reduceLT,Int.reduceLE,Int.reduceGT,Int.reduceGE,mu9,Nat.reduceBEq,↓wrap_up,↓wrap_down,↓wrap_pred,↓wrap_sub_nat,Int.reduceToNat]
      refine⟨by simp[roomFor],[]++[z],next21 (by simpa using hlt) h2 ⟨hz2,hz1⟩ (fun h=>by simp only[List.length_nil,List.length_cons]at h;first|exact Or.inl rfl|omega),by simp;omega,?_⟩
      exact(by first|rfl|(refine prep_cut rfl (by rfl) (by rfl) (by rfl) ?_ ?_<;>simp[AV.underL,AV.under,MB.under,underL_plain,under_plain,plain_ints,plain_span,plain_ins,plain_prg,-List.map_take,underL_insT]))
  | cons x xs=>
    simp only[T21]
    simp only[List.length_cons]at hPk hlt
    simp +contextual (disch:=omega) only[Tryz.f9,dd9,go_sem,↓reduceIte,List.reduceReplicate,Nat.reduceAdd,Nat.reduceSub,reduceCtorEq,Nat.reduceLeDiff,Nat.reduceMul,Nat.reduceLT,Nat.reduceEqDiff,Int.reduceBNe,Int.reduceBEq,Int.reduceEq,Int.reduceLT,Int.reduceLE,Int.reduceGT,Int.reduceGE,mu9,Nat.reduceBEq,↓wrap_up,↓wrap_down,↓wrap_pred,↓wrap_sub_nat,Int.reduceToNat,W_block (id:=1),hPk]
    refine W_cut (fun s=>∃ z:Ins,z.set.length≤1∧okIns n caps runes z=true∧s=⟨119,[(7,.rf 4 1 0 0),(5,I ((xs.length+1:Nat):Int)),(4,.rf 1 1 0 0),(3,I n),(2,.rf 0 1 0 0),(0,.sl false (l.map I))],
     [.row 3 [.agg [.sl true [],I 0,.bool false]] 0,.row 3 [.agg [.ms 3 5 (xs.length+1) 0 (xs.length+1),I caps,.bool runes]] 0,.row 5 [insAVt x] 0,.row 5 (insAVt x::xs.map insAVt) 0,.row 5 [insAVt z] 0]⟩) ?_ ?_
    ·simp +contextual (disch:=omega) only[Tryz.f9,dd9,go_sem,↓reduceIte,W_block,List.reduceReplicate,Nat.reduceAdd,Nat.reduceSub,reduceCtorEq,Nat.reduceLeDiff,Nat.reduceMul,Nat.reduceLT,Nat.reduceEqDiff,Int.reduceBNe,Int.reduceBEq,Int.reduceEq,Int.reduceLT,Int.reduceLE,Int.reduceGT,Int.reduceGE,mu9,Nat.reduceBEq,↓wrap_up,↓wrap_down,↓wrap_pred,↓wrap_sub_nat,Int.reduceToNat,cut_norm]
     repeat' (first|intro _|apply And.intro)
     all_goals first
      | omega
      | (unfold dOk;kernel_rfl)
      | kernel_rfl
      | (refine⟨⟨_,_,_,_,[]⟩,?_,?_,rfl⟩<;>simp[okIns,refSpans,badAt,lastOk,hm1,hm2]<;>done)
      | (refine⟨⟨_,_,_,_,[]⟩,?_,?_,rfl⟩<;>simp[okIns,refSpans,badAt,lastOk,hm1,hm2]<;>omega)
      | (refine⟨⟨_,_,_,_,[]⟩,?_,?_,rfl⟩
         ·simp
         ·have q:=hm3 (k / 8) (by omega)
          simp[okIns,refSpans,badAt,lastOk]
          omega)
      | (refine⟨⟨_,_,_,_,[(97,_)]⟩,?_,?_,rfl⟩
         ·simp
         ·simp[okIns,refSpans,badAt,lastOk]
          (try split)<;>omega)
    ·rintro _ ⟨z,hz1,hz2,rfl⟩
     have hop:=okIns_op hz2
     by_cases h1n:xs.length+1+1=n
     ·by_cases ha:z.op=1
      ·simp +contextual (disch:=omega) only[Tryz.f9,dd9,go_sem,↓reduceIte,W_block,List.reduceReplicate,Nat.reduceAdd,Nat.reduceSub,reduceCtorEq,Nat.reduceLeDiff,Nat.reduceMul,Nat.reduceLT,Nat.reduceEqDiff,Int.reduceBNe,Int.reduceBEq,Int.reduceEq,Int.reduceLT,Int.reduceLE,Int.reduceGT,Int.reduceGE,mu9,Nat.reduceBEq,↓wrap_up,↓wrap_down,↓wrap_pred,↓wrap_sub_nat,Int.reduceToNat]
       refine⟨by simp[roomFor];omega,(x::xs)++[⟨0,0,0,0,[]⟩],next21 (by simpa using hlt) h2 ⟨ok_zero _ _ _,by simp⟩ (fun h=>by simp only[List.length_nil,List.length_cons]at h;first|exact Or.inl rfl|omega),by simp;omega,?_⟩
       simp only[List.cons_append,T21,List.length_append,List.length_cons,List.length_nil,Nat.zero_add]
       refine prep_cut (n:=4) rfl (by rfl) rfl ?_ ?_ ?_
       ·simp[List.take_of_length_le]
       ·simp[AV.underL,AV.under,underL_plain,plain_ints]
       ·simp[AV.underL,AV.under,MB.under,underL_plain,plain_span,underL_insT,underL_append]
      ·by_cases hb:4≤z.op
       ·simp +contextual (disch:=omega) only[Tryz.f9,dd9,go_sem,↓reduceIte,W_block,List.reduceReplicate,Nat.reduceAdd,Nat.reduceSub,reduceCtorEq,Nat.reduceLeDiff,Nat.reduceMul,Nat.reduceLT,Nat.reduceEqDiff,Int.reduceBNe,Int.reduceBEq,Int.reduceEq,Int.reduceLT,Int.reduceLE,Int.reduceGT,Int.reduceGE,mu9,Nat.reduceBEq,↓wrap_up,↓wrap_down,↓wrap_pred,↓wrap_sub_nat,Int.reduceToNat]
        refine⟨by simp[roomFor];omega,(x::xs)++[⟨0,0,0,0,[]⟩],next21 (by simpa using hlt) h2 ⟨ok_zero _ _ _,by simp⟩ (fun h=>by simp only[List.length_nil,List.length_cons]at h;first|exact Or.inl rfl|omega),by simp;omega,?_⟩
        simp only[List.cons_append,T21,List.length_append,List.length_cons,List.length_nil,Nat.zero_add]
        refine prep_cut (n:=4) rfl (by rfl) rfl ?_ ?_ ?_
        ·simp[List.take_of_length_le]
        ·simp[AV.underL,AV.under,underL_plain,plain_ints]
        ·simp[AV.underL,AV.under,MB.under,underL_plain,plain_span,underL_insT,underL_append]
       ·simp +contextual (disch:=omega) only[Tryz.f9,dd9,go_sem,↓reduceIte,W_block,List.reduceReplicate,Nat.reduceAdd,Nat.reduceSub,reduceCtorEq,Nat.reduceLeDiff,Nat.reduceMul,Nat.reduceLT,Nat.reduceEqDiff,Int.reduceBNe,Int.reduceBEq,Int.reduceEq,Int.reduceLT,Int.reduceLE,Int.reduceGT,Int.reduceGE,mu9,Nat.reduceBEq,↓wrap_up,↓wrap_down,↓wrap_pred,↓wrap_sub_nat,Int.reduceToNat]
        refine⟨by simp[roomFor];omega,(x::xs)++[z],next21 (by simpa using hlt) h2 ⟨hz2,hz1⟩ (fun h=>by simp only[List.length_nil,List.length_cons]at h;first|exact Or.inl rfl|omega),by simp;omega,?_⟩
        simp only[List.cons_append,T21,List.length_append,List.length_cons,List.length_nil,Nat.zero_add]
        refine prep_cut (n:=4) rfl (by rfl) rfl ?_ ?_ ?_
        ·simp[List.take_of_length_le]
        ·simp[AV.underL,AV.under,underL_plain,plain_ints]
        ·simp[AV.underL,AV.under,MB.under,underL_plain,plain_span,underL_insT,underL_append]
     ·simp +contextual (disch:=omega) only[Tryz.f9,dd9,go_sem,↓reduceIte,W_block,List.reduceReplicate,Nat.reduceAdd,Nat.reduceSub,reduceCtorEq,Nat.reduceLeDiff,Nat.reduceMul,Nat.reduceLT,Nat.reduceEqDiff,Int.reduceBNe,Int.reduceBEq,Int.reduceEq,Int.reduceLT,Int.reduceLE,Int.reduceGT,Int.reduceGE,mu9,Nat.reduceBEq,↓wrap_up,↓wrap_down,↓wrap_pred,↓wrap_sub_nat,Int.reduceToNat]
      refine⟨by simp[roomFor];omega,(x::xs)++[z],next21 (by simpa using hlt) h2 ⟨hz2,hz1⟩ (fun h=>by simp only[List.length_nil,List.length_cons]at h;first|exact Or.inl rfl|omega),by simp;omega,?_⟩
      simp only[List.cons_append,T21,List.length_append,List.length_cons,List.length_nil,Nat.zero_add]
      refine prep_cut (n:=4) rfl (by rfl) rfl ?_ ?_ ?_
      ·simp[List.take_of_length_le]
      ·simp[AV.underL,AV.under,underL_plain,plain_ints]
      ·simp[AV.underL,AV.under,MB.under,underL_plain,plain_span,underL_insT,underL_append]
 ·have hn':xs.length=n:=by omega
  cases xs with
  | nil=>simp at hn';omega
  | cons x xs=>
    simp only[T21]
    simp only[List.length_cons]at hn'
    simp +contextual (disch:=omega) only[Tryz.f9,dd9,go_sem,↓reduceIte,W_block,List.reduceReplicate,Nat.reduceAdd,Nat.reduceSub,reduceCtorEq,Nat.reduceLeDiff,Nat.reduceMul,Nat.reduceLT,Nat.reduceEqDiff,Int.reduceBNe,Int.reduceBEq,Int.reduceEq,Int.reduceLT,Int.reduceLE,Int.reduceGT,Int.reduceGE,mu9,Nat.reduceBEq,↓wrap_up,↓wrap_down,↓wrap_pred,↓wrap_sub_nat,Int.reduceToNat]
    exact⟨_,⟨⟨x::xs,caps,runes⟩,⟨by simp;omega,by simp only[];omega,fun i hi=>by simp only[List.length_cons,hn'];exact(h2 i hi).1,h3 hn',fun i hi=>(h2 i hi).2⟩,rfl⟩,fz_allT (ins:=x::xs) rfl (by simp)⟩
end
end Go.Ev
namespace Go.Ev
attribute [local go_sem] eq_self bindW_some bindW_map bindW_ite bindW_iteN W_seq W_region W_draw W_cond W_condK W_ret W_skip W_exit W_scope W_label blockK_norm blockK_ret blockK_exit WO_nil WO_cons WO_guard WD_nil WD_cons WD_guard guardV guardW_boolT guardW_boolF guardW_tup fpL_some fpL_none footprint footprint0 fineF thenK_norm thenK_ret thenK_exit put_some put_none ev_tmp ev_con ev_func ofK_int ofK_bool ofK_str ofK_nil ofK_agg ofC_int ofC_bool ofC_str ofC_nil ofC_nilp one_int one_bool one_str one_nil one_nilp evOp evBuiltin evCall evLen getElem_16 getElem_4 List.length_cons List.length_nil List.cons_append List.nil_append List.append_nil if_false if_true Bool.false_eq_true Bool.true_eq_false Option.map_some Option.map_none List.map_cons List.map_nil evBinOp evBin evUn asB_bool splitB_decide splitB_true splitB_false splitB_beq splitB_bne splitB_not endK_ret endK_norm List.getElem?_cons_zero List.getElem?_cons_succ evResults evResult packRes retK_norm retK_ret cellsAt mkVal evFieldAddr evField evIndexAddr evPart evStore evBuild evBuildSlice fillC fillE evSlice evMakeSlice evConvert getRow AV.cells List.head?_cons List.drop_zero List.drop_succ_cons List.take_zero List.take_succ_cons List.drop_nil List.take_nil List.all_cons List.all_nil AV.ok Bool.and_self Bool.and_true Bool.true_and and_self and_true true_and Nat.zero_add Nat.add_zero setCells splice pairsOk pairsX altW_none altW_some cfg_al WI_nil WI_cons FP.apart heapEq_refl sameAt_refl Bool.or_true Bool.true_or Bool.or_false srcElems elemsOf mutDst indDst evLenH evMapUpd evLookup getMp keyOk resOk strOf roundK_norm roundK_exit roundK_ret List.length_map List.getElem?_map Int.toNat_natCast decide_true decide_false Bool.not_true Bool.not_false List.set set_0 set_1 set_2 set_3 set_4 look_hit look lookD_hit lookD_cons lookD_nil ins_hit ins upd_hit upd rem1_hit rem1 dropT dropSt_eq initT cfg_dd cfg_bd cfg_ra actL_nil actL_cons act1 updT_hit updT frzB retE_norm retE_ret bndO bnd evEq eqCells not_false_eq_true not_true_eq_false toList_some Array.size_empty endE_norm endE_ret head_take1 List.contains_nil List.contains_cons Bool.or_self dlt_t dlt_f dle_t dle_f dgt_t dgt_f dge_t dge_f beq_t beq_f bne_t bne_f lt_T le_T nle_T nle_F Go.IntWalk.i64_in Go.IntWalk.i64_quo Go.IntWalk.rem_in
section
attribute [local go_sem] W_block evAppend List.length_append List.map_append tySzE List.head?_drop Nat.mul_one sameAt_zero sameAt_two sameAt_three sameAt_four sameAt_five room_ok
open Go.Proofs Go.RowKit Go.IntWalk
set_option maxRecDepth 100000
set_option maxHeartbeats 8000000
section
variable {α:Type} (A K:List α) (x y v:α)
theorem pre_get:(A++x::K)[A.length]?=some x:=by simp
theorem pre_get1:(A++x::y::K)[A.length+1]?=some y:=by
 rw[List.getElem?_append_right (by omega)];simp
theorem pre_set:(A++x::K).set A.length v=A++v::K:=by simp
theorem pre_set1:(A++x::y::K).set (A.length+1) v=A++x::v::K:=by
 rw[List.set_append_right _ _ (by omega)];simp
end
section
variable {k:IntKind} {a b:Int}
end
end
section
attribute [local go_sem] W_block evAppend List.length_append List.map_append
open Go.Proofs Go.RowKit Go.IntWalk
set_option maxRecDepth 100000
set_option maxHeartbeats 4000000
def assertI (n:Int) (b a:Option Int):Bool:=
 let w:=fun(o:Option Int)=>match o with
  | some x=>wordI x
  | none=>false
 let e:=fun(o:Option Int)=>match o with
  | some x=>x == 10
  | none=>true
 if n=0 then b.isNone else if n=1 then a.isNone else if n=2 then e b else if n=3 then e a else if n=4 then w b != w a else if n=5 then w b == w a else false
def befS (t:List Int) (k:Nat):Option Int:=if k=0 then none else t[k - 1]?
end
inductive Goal where
 | nil
 | mk (kind:Int) (re:Re) (k fr:Int) (next:Goal)
def goalA:Goal→AV
 | .nil=>.nilp
 | .mk kind re k fr next=>.pt (I kind::(reC re++[I k,I fr,goalA next]))
abbrev goalC (kind:Int) (re:Re) (k fr:Int) (next:Goal):List AV:=I kind::(reC re++[I k,I fr,goalA next])
theorem plainL_append:∀(a b:List AV),AV.plainL (a++b)=(AV.plainL a && AV.plainL b)
 | [],b=>by simp[AV.plainL]
 | x::a,b=>by simp[AV.plainL,plainL_append a b,Bool.and_assoc]
theorem plain_goal:∀ g:Goal,AV.plain (goalA g)=true
 | .nil=>rfl
 | .mk kind re k fr next=>by
   have h1:=plain_goal next
   have h2:=plain_reC re
   simp[goalA,AV.plain,AV.plainL,plainL_append,h1,h2]
theorem plain_goalC (kind:Int) (re:Re) (k fr:Int) (next:Goal):AV.plainL (goalC kind re k fr next)=true:=by
 have h1:=plain_goal next
 have h2:=plain_reC re
 simp[AV.plain,AV.plainL,plainL_append,h1,h2]
abbrev Caps:=List (Int×Int)
abbrev capA (c:Caps):AV:=.sl false (c.map spanAV)
structure SS where
 steps:Int
 empty:Bool
 ends:List Int
 caps:List Caps
def withI (c:Caps) (n fr to:Int):Caps:=if 1≤n∧n≤c.length then c.set (n - 1).toNat (fr,to) else c
def Re.op:Re→Int | .mk op _ _ _ _ _ _ _=>op
def Re.set:Re→List (Int×Int) | .mk _ set _ _ _ _ _ _=>set
def Re.kids:Re→List Re | .mk _ _ kids _ _ _ _ _=>kids
def Re.mn:Re→Int | .mk _ _ _ mn _ _ _ _=>mn
def Re.mx:Re→Int | .mk _ _ _ _ mx _ _ _=>mx
def Re.md:Re→Int | .mk _ _ _ _ _ md _ _=>md
def Re.n:Re→Int | .mk _ _ _ _ _ _ n _=>n
def stepS (fuel:Int) (s:SS):SS:=⟨s.steps+1,s.empty || decide (fuel < s.steps+1),s.ends,s.caps⟩
abbrev RunT:=Goal→Int→Caps→SS→Option (Bool×SS)
def orR (a:Option (Bool×SS)) (f:SS→Option (Bool×SS)):Option (Bool×SS):=
 match a with
 | none=>none
 | some (true,s)=>some (true,s)
 | some (false,s)=>f s
def repR (fuel:Int) (R:RunT) (re:Re) (k:Int) (next:Goal) (i:Int) (c:Caps) (s:SS):Option (Bool×SS):=
 let s1:=stepS fuel s
 if s1.empty=true then some (true,s1)
 else
  match re.kids with
  | []=>none
  | kid::_=>
    let once:=Goal.mk 0 kid 0 0 (.mk 2 re k i next)
    let more:Bool:=decide (re.mx = -1) || decide (k < re.mx)
    if k < re.mn then R once i c s1
    else if re.md=1 then orR (R next i c s1) fun s2=>if more then R once i c s2 else some (false,s2)
    else orR (if more then R once i c s1 else some (false,s1)) fun s2=>R next i c s2
def catG (next:Goal):List Re→Goal
 | []=>next
 | k::ks=>.mk 0 k 0 0 (catG next ks)
def altR (R:RunT) (next:Goal) (i:Int) (c:Caps):List Re→SS→Option (Bool×SS)
 | [],s=>some (false,s)
 | k::ks,s=>orR (R (.mk 0 k 0 0 next) i c s) (altR R next i c ks)
def nodeR (t:List Int) (fuel:Int) (R:RunT) (re:Re) (next:Goal) (i:Int) (c:Caps) (s:SS):Option (Bool×SS):=
 if re.op=4 then repR fuel R re 0 next i c s
 else
  let s1:=stepS fuel s
  if s1.empty=true then some (true,s1)
  else if re.op=1 then
   match t[i.toNat]? with
   | some x=>if hasSpan re.set x=true then R next (i+1) c s1 else some (false,s1)
   | none=>some (false,s1)
  else if re.op=2 then R (catG next re.kids) i c s1
  else if re.op=3 then altR R next i c re.kids s1
  else if re.op=5 then
   match re.kids with
   | []=>none
   | kid::_=>R (.mk 0 kid 0 0 (.mk 3 re 0 i next)) i c s1
  else if re.op=11 then(if assertI re.n (befS t i.toNat) t[i.toNat]?=true then R next i c s1 else some (false,s1))
  else R next i c s1
def runG (t:List Int) (fuel:Int):Nat→RunT
 | 0,_,_,_,_=>none
 | _+1,.nil,i,c,s=>some (false,⟨s.steps,s.empty,s.ends++[i],s.caps++[c]⟩)
 | d+1,.mk kind re k fr next,i,c,s=>
   if kind=1 then repR fuel (runG t fuel d) re k next i c s
   else if kind=2 then(if re.mn≤k∧i=fr then some (false,s) else runG t fuel d (.mk 1 re (k+1) 0 next) i c s)
   else if kind=3 then runG t fuel d next i (withI c re.n fr i) s
   else nodeR t fuel (runG t fuel d) re next i c s
end Go.Ev
namespace Go.Ev
attribute [local go_sem] eq_self bindW_some bindW_map bindW_ite bindW_iteN W_seq W_region W_draw W_cond W_condK W_ret W_skip W_exit W_scope W_label blockK_norm blockK_ret blockK_exit WO_nil WO_cons WO_guard WD_nil WD_cons WD_guard guardV guardW_boolT guardW_boolF guardW_tup fpL_some fpL_none footprint footprint0 fineF thenK_norm thenK_ret thenK_exit put_some put_none ev_tmp ev_con ev_func ofK_int ofK_bool ofK_str ofK_nil ofK_agg ofC_int ofC_bool ofC_str ofC_nil ofC_nilp one_int one_bool one_str one_nil one_nilp evOp evBuiltin evCall evLen getElem_16 getElem_4 List.length_cons List.length_nil List.cons_append List.nil_append List.append_nil if_false if_true Bool.false_eq_true Bool.true_eq_false Option.map_some Option.map_none List.map_cons List.map_nil evBinOp evBin evUn asB_bool splitB_decide splitB_true splitB_false splitB_beq splitB_bne splitB_not endK_ret endK_norm List.getElem?_cons_zero List.getElem?_cons_succ evResults evResult packRes retK_norm retK_ret cellsAt mkVal evFieldAddr evField evIndexAddr evPart evStore evBuild evBuildSlice fillC fillE evSlice evMakeSlice evConvert getRow AV.cells List.head?_cons List.drop_zero List.drop_succ_cons List.take_zero List.take_succ_cons List.drop_nil List.take_nil List.all_cons List.all_nil AV.ok Bool.and_self Bool.and_true Bool.true_and and_self and_true true_and Nat.zero_add Nat.add_zero setCells splice pairsOk pairsX altW_none altW_some cfg_al WI_nil WI_cons FP.apart heapEq_refl sameAt_refl Bool.or_true Bool.true_or Bool.or_false srcElems elemsOf mutDst indDst evLenH evMapUpd evLookup getMp keyOk resOk strOf roundK_norm roundK_exit roundK_ret List.length_map List.getElem?_map Int.toNat_natCast decide_true decide_false Bool.not_true Bool.not_false List.set set_0 set_1 set_2 set_3 set_4 look_hit look lookD_hit lookD_cons lookD_nil ins_hit ins upd_hit upd rem1_hit rem1 dropT dropSt_eq initT cfg_dd cfg_bd cfg_ra actL_nil actL_cons act1 updT_hit updT frzB retE_norm retE_ret bndO bnd evEq eqCells not_false_eq_true not_true_eq_false toList_some Array.size_empty endE_norm endE_ret head_take1 List.contains_nil List.contains_cons Bool.or_self dlt_t dlt_f dle_t dle_f dgt_t dgt_f dge_t dge_f beq_t beq_f bne_t bne_f lt_T le_T nle_T nle_F Go.IntWalk.i64_in Go.IntWalk.i64_quo Go.IntWalk.rem_in
section
attribute [local go_sem] W_block evAppend List.length_append List.map_append tySzE List.head?_drop Nat.mul_one sameAt_zero sameAt_two sameAt_three sameAt_four sameAt_five room_ok ty0 ty3 ty4 ty22 ty23 ty40 ty77 ty166 ty181 ty184
open Go.Proofs Go.RowKit Go.IntWalk
set_option maxRecDepth 100000
set_option maxHeartbeats 8000000
section
variable {α:Type} (A K:List α) (x y z v:α)
theorem pre_get2:(A++x::y::z::K)[A.length+2]?=some z:=by
 rw[List.getElem?_append_right (by omega)];simp
theorem pre_set2:(A++x::y::z::K).set (A.length+2) v=A++x::y::v::K:=by
 rw[List.set_append_right _ _ (by omega)];simp
end
abbrev sB (m:Nat) (t:List Int) (fuel steps:Int) (empty:Bool) (e:Nat):MB:=.row 7 [.agg [.sl false (t.map I),I (-1),I fuel,I steps,.bool empty,.ms (m+1) 1 e 0 e,.ms (m+2) 1 e 0 e]] 0
abbrev srH (A:List MB) (t:List Int) (fuel:Int) (s:SS) (e:Nat) (K:List MB):List MB:=
 A++sB A.length t fuel s.steps s.empty e::.row 1 (s.ends.map I) 0::.row 1 (s.caps.map capA) 0::K
theorem plain_caps (l:List Caps):AV.plainL (l.map capA)=true:=by
 induction l with
 | nil=>rfl
 | cons a l ih=>simp[AV.plainL,AV.plain,plain_span,ih]
theorem keptOk_pre3 (n:Nat) (x y z x' y' z':MB) (K L:List MB) (h1:MB.under n x' = true) (h2:MB.under n y' = true) (h3:MB.under n z' = true):∀ A:List MB,keptOk n (A++x::y::z::K) (A++x'::y'::z'::(K++L))=true
 | []=>by
   simp only[List.nil_append,keptOk,h1,h2,h3,Bool.or_true,Bool.true_and]
   exact keptOk_self n L K
 | a::A=>by simp[keptOk,MB.beq_refl,keptOk_pre3 n x y z x' y' z' K L h1 h2 h3 A]
theorem take_pre3 {α:Type} (x y z x' y' z':α) (K L:List α):∀ A:List α,(A++x'::y'::z'::(K++L)).take (A++x::y::z::K).length=A++x'::y'::z'::K
 | []=>by simp
 | a::A=>by
   simp only[List.cons_append,List.length_cons,List.take_succ_cons,take_pre3 x y z x' y' z' K L A]
theorem ret_sr {f:Nat} (hk:pol1.keep f=false) (ho:pol1.own f=false) (b:Bool) (A K L:List MB) (t:List Int) (fuel:Int) (s s':SS) (e e':Nat) :
  retPol pol1 f (srH A t fuel s e K) (.bool b) (srH A t fuel s' e' (K++L))=some (.bool b,srH A t fuel s' e' K):=
 retPol_keep hk ho rfl (keptOk_pre3 _ _ _ _ _ _ _ _ _ (by simp[MB.under,AV.underL,AV.under,underL_plain,plain_ints]<;>omega) (by simp[MB.under,underL_plain,plain_ints]) (by simp[MB.under,underL_plain,plain_caps]) A) (take_pre3 _ _ _ _ _ _ _ _ _)
theorem ret_sr0 {f:Nat} (hk:pol1.keep f=false) (ho:pol1.own f=false) (b:Bool) (A K:List MB) (t:List Int) (fuel:Int) (s s':SS) (e e':Nat) :
  retPol pol1 f (srH A t fuel s e K) (.bool b) (srH A t fuel s' e' K)=some (.bool b,srH A t fuel s' e' K):=by
 have:=ret_sr hk ho b A K [] t fuel s s' e e'
 rwa [List.append_nil]at this
theorem f161 (A K:List MB) (t:List Int) (fuel:Int) (s:SS) (e:Nat) (hs:0≤s.steps∧s.steps≤1000000000000) :
  call Tryz.prog pol1 149 [.rf A.length 1 0 0] (srH A t fuel s e K)=some (.bool (!(stepS fuel s).empty),srH A t fuel (stepS fuel s) e K):=by
 have fr:frzArgs pol1 149 0 [.rf A.length 1 0 0] (srH A t fuel s e K)=some ([.rf A.length 1 0 0],srH A t fuel s e K):=frzArgs_mix _ _ _ rfl
 refine call_run2 (pol:=pol1) Tryz.func149 rfl rfl rfl rfl fr ?_
 have hw:IntKind.i64.wrap (s.steps+1)=s.steps+1:=by rw[i64_in]<;>omega
 have ret:=fun b s'=>ret_sr0 (f:=149) rfl rfl b A K t fuel s s' e e
 obtain⟨steps,empty,ends,caps⟩:=s
 simp only at hs hw
 by_cases h:fuel < steps+1
 ·have e1:stepS fuel ⟨steps,empty,ends,caps⟩=⟨steps+1,true,ends,caps⟩:=by simp[stepS,h]
  rw[e1]
  simp +contextual (disch:=omega) only[Tryz.f149,dd149,go_sem,↓reduceIte,List.reduceReplicate,Nat.reduceAdd,Nat.reduceSub,reduceCtorEq,Nat.reduceLeDiff,Nat.reduceMul,Nat.reduceLT,Nat.reduceEqDiff,Int.reduceBNe,Int.reduceBEq,Int.reduceEq,Int.reduceLT,Int.reduceLE,Int.reduceGT,Int.reduceGE,mu149,Nat.reduceBEq,↓wrap_up,↓wrap_down,↓wrap_pred,↓wrap_sub_nat,Int.reduceToNat,pre_get,pre_set,hw]
  repeat' (first|intro _|apply And.intro|(unfold dOk;kernel_rfl)|exact St.beq_refl _|(show altO _ _ _ _=true;kernel_rfl)|(show (_ || _)=true;kernel_rfl)|(show (_ && _)=true;kernel_rfl))
  exact ret false ⟨steps+1,true,ends,caps⟩
 ·have e1:stepS fuel ⟨steps,empty,ends,caps⟩=⟨steps+1,empty,ends,caps⟩:=by simp[stepS,h]
  rw[e1]
  simp +contextual (disch:=omega) only[Tryz.f149,dd149,go_sem,↓reduceIte,List.reduceReplicate,Nat.reduceAdd,Nat.reduceSub,reduceCtorEq,Nat.reduceLeDiff,Nat.reduceMul,Nat.reduceLT,Nat.reduceEqDiff,Int.reduceBNe,Int.reduceBEq,Int.reduceEq,Int.reduceLT,Int.reduceLE,Int.reduceGT,Int.reduceGE,mu149,Nat.reduceBEq,↓wrap_up,↓wrap_down,↓wrap_pred,↓wrap_sub_nat,Int.reduceToNat,pre_get,pre_set,hw]
  repeat' (first|intro _|apply And.intro|(unfold dOk;kernel_rfl)|exact St.beq_refl _|(show altO _ _ _ _=true;kernel_rfl)|(show (_ || _)=true;kernel_rfl)|(show (_ && _)=true;kernel_rfl))
  exact ret (!empty) ⟨steps+1,empty,ends,caps⟩
theorem f162 (l:List (Int×Int)) (x:Int) (hl:l.length≤1000000) (H:List MB):call Tryz.prog pol1 150 [.sl false (l.map spanAV),I x] H=some (.bool (hasSpan l x),H):=by
 refine call_run Tryz.func150 rfl rfl rfl rfl rfl rfl (fun _=>rfl) (by simp[AV.plain,AV.plainL,plain_span]) rfl ?_ H
 simp +contextual (disch:=omega) only[Tryz.f150,dd150,go_sem,↓reduceIte,List.reduceReplicate,Nat.reduceAdd,Nat.reduceSub,reduceCtorEq,Nat.reduceLeDiff,Nat.reduceMul,Nat.reduceLT,Nat.reduceEqDiff,Int.reduceBNe,Int.reduceBEq,Int.reduceEq,Int.reduceLT,Int.reduceLE,Int.reduceGT,Int.reduceGE,mu150,Nat.reduceBEq,↓wrap_up,↓wrap_down,↓wrap_pred,↓wrap_sub_nat,Int.reduceToNat]
 refine W_count (M:=(mskOf (pol1.mask 150) (pol1.gc 150) (pol1.acts 150) 0 2)) rfl l.length (fun i=>(⟨28,[(5,I i),(1,I x),(0,.sl false (l.map spanAV))],[]⟩:St)) (fun i=>∀ k p,k < i→l[k]?=some p→¬ (p.1≤x∧x≤p.2)) ?_ ?_ (fun k p h=>by omega) _ (by first|rfl|(refine prep_cut rfl (by rfl) (by rfl) (by rfl) ?_ ?_<;>simp[AV.underL,AV.under,MB.under,underL_plain,under_plain,plain_ints,plain_span,plain_ins,plain_prg,-List.map_take]))
 ·intro i hi hg
  obtain⟨p,hp⟩:∃ p,l[i]?=some p:=⟨_,List.getElem?_eq_getElem hi⟩
  by_cases hin:p.1≤x∧x≤p.2
  ·rw[hasSpan_at hp hin]
   simp +contextual (disch:=omega) only[Tryz.f150,dd150,go_sem,↓reduceIte,List.reduceReplicate,Nat.reduceAdd,Nat.reduceSub,reduceCtorEq,Nat.reduceLeDiff,Nat.reduceMul,Nat.reduceLT,Nat.reduceEqDiff,Int.reduceBNe,Int.reduceBEq,Int.reduceEq,Int.reduceLT,Int.reduceLE,Int.reduceGT,Int.reduceGE,mu150,Nat.reduceBEq,↓wrap_up,↓wrap_down,↓wrap_pred,↓wrap_sub_nat,Int.reduceToNat,hp,spanAV]
   exact fzEq rfl rfl
  ·have ext:∀ k q,k < i+1→l[k]?=some q→¬ (q.1≤x∧x≤q.2):=fun k q hk hq=>by
    rcases Nat.lt_or_ge k i with h|h
    ·exact hg k q h hq
    ·obtain rfl:k=i:=by omega
     rw[hp]at hq
     obtain rfl:=Option.some.inj hq
     exact hin
   by_cases h1:p.1≤x
   ·simp +contextual (disch:=omega) only[Tryz.f150,dd150,go_sem,↓reduceIte,List.reduceReplicate,Nat.reduceAdd,Nat.reduceSub,reduceCtorEq,Nat.reduceLeDiff,Nat.reduceMul,Nat.reduceLT,Nat.reduceEqDiff,Int.reduceBNe,Int.reduceBEq,Int.reduceEq,Int.reduceLT,Int.reduceLE,Int.reduceGT,Int.reduceGE,mu150,Nat.reduceBEq,↓wrap_up,↓wrap_down,↓wrap_pred,↓wrap_sub_nat,Int.reduceToNat,hp,spanAV]
    exact⟨ext,(by first|rfl|(refine prep_cut rfl (by rfl) (by rfl) (by rfl) ?_ ?_<;>simp[AV.underL,AV.under,MB.under,underL_plain,under_plain,plain_ints,plain_span,plain_ins,plain_prg,-List.map_take]))⟩
   ·simp +contextual (disch:=omega) only[Tryz.f150,dd150,go_sem,↓reduceIte,List.reduceReplicate,Nat.reduceAdd,Nat.reduceSub,reduceCtorEq,Nat.reduceLeDiff,Nat.reduceMul,Nat.reduceLT,Nat.reduceEqDiff,Int.reduceBNe,Int.reduceBEq,Int.reduceEq,Int.reduceLT,Int.reduceLE,Int.reduceGT,Int.reduceGE,mu150,Nat.reduceBEq,↓wrap_up,↓wrap_down,↓wrap_pred,↓wrap_sub_nat,Int.reduceToNat,hp,spanAV]
    exact⟨ext,(by first|rfl|(refine prep_cut rfl (by rfl) (by rfl) (by rfl) ?_ ?_<;>simp[AV.underL,AV.under,MB.under,underL_plain,under_plain,plain_ints,plain_span,plain_ins,plain_prg,-List.map_take]))⟩
 ·intro hg
  rw[hasSpan_no hg]
  simp +contextual (disch:=omega) only[Tryz.f150,dd150,go_sem,↓reduceIte,List.reduceReplicate,Nat.reduceAdd,Nat.reduceSub,reduceCtorEq,Nat.reduceLeDiff,Nat.reduceMul,Nat.reduceLT,Nat.reduceEqDiff,Int.reduceBNe,Int.reduceBEq,Int.reduceEq,Int.reduceLT,Int.reduceLE,Int.reduceGT,Int.reduceGE,mu150,Nat.reduceBEq,↓wrap_up,↓wrap_down,↓wrap_pred,↓wrap_sub_nat,Int.reduceToNat]
  exact fzEq rfl rfl
theorem f167 (x:Int) (H:List MB):call Tryz.prog pol1 167 [I x] H=some (.bool (wordI x),H):=by
 refine call_run Tryz.func167 rfl rfl rfl rfl rfl rfl (fun _=>rfl) rfl rfl ?_ H
 simp +contextual (disch:=omega) only[Tryz.f167,dd167,go_sem,↓reduceIte,List.reduceReplicate,Nat.reduceAdd,Nat.reduceSub,reduceCtorEq,Nat.reduceLeDiff,Nat.reduceMul,Nat.reduceLT,Nat.reduceEqDiff,Int.reduceBNe,Int.reduceBEq,Int.reduceEq,Int.reduceLT,Int.reduceLE,Int.reduceGT,Int.reduceGE,mu167,Nat.reduceBEq,↓wrap_up,↓wrap_down,↓wrap_pred,↓wrap_sub_nat,Int.reduceToNat]
 repeat' (first|intro _|apply And.intro|refine fzEq rfl (congrArg AV.bool ?_))
 all_goals (rw[Bool.eq_iff_iff];simp[wordI]<;>omega)
theorem f165 (n:Int) (t:List Int) (k:Nat) (hn:0≤n∧n≤5) (hk:k≤t.length) (ht:t.length≤1000000000) (H:List MB):call Tryz.prog pol1 153 [I n,.sl false (t.map I),I k] H=some (.bool (assertI n (befS t k) t[k]?),H):=by
 refine call_run Tryz.func153 rfl rfl rfl rfl rfl rfl (fun _=>rfl) (by simp[AV.plain,AV.plainL,plain_ints]) rfl ?_ H
 rcases k with _|k
 ·rcases t with _|⟨x,t⟩
  ·simp +contextual (disch:=omega) only[Tryz.f153,dd153,go_sem,↓reduceIte,List.reduceReplicate,Nat.reduceAdd,Nat.reduceSub,reduceCtorEq,Nat.reduceLeDiff,Nat.reduceMul,Nat.reduceLT,Nat.reduceEqDiff,Int.reduceBNe,Int.reduceBEq,Int.reduceEq,Int.reduceLT,Int.reduceLE,Int.reduceGT,Int.reduceGE,mu153,Nat.reduceBEq,↓wrap_up,↓wrap_down,↓wrap_pred,↓wrap_sub_nat,Int.reduceToNat,f167]
   repeat' (first|intro _|apply And.intro|(unfold dOk;kernel_rfl)|(show (_ && _)=true;kernel_rfl)|(show (_ || _)=true;kernel_rfl)|refine fzEq rfl (congrArg AV.bool ?_))
   all_goals (simp_all [assertI,befS];try (intros;omega))
  ·simp +contextual (disch:=omega) only[Tryz.f153,dd153,go_sem,↓reduceIte,List.reduceReplicate,Nat.reduceAdd,Nat.reduceSub,reduceCtorEq,Nat.reduceLeDiff,Nat.reduceMul,Nat.reduceLT,Nat.reduceEqDiff,Int.reduceBNe,Int.reduceBEq,Int.reduceEq,Int.reduceLT,Int.reduceLE,Int.reduceGT,Int.reduceGE,mu153,Nat.reduceBEq,↓wrap_up,↓wrap_down,↓wrap_pred,↓wrap_sub_nat,Int.reduceToNat,f167]
   repeat' (first|intro _|apply And.intro|(unfold dOk;kernel_rfl)|(show (_ && _)=true;kernel_rfl)|(show (_ || _)=true;kernel_rfl)|refine fzEq rfl (congrArg AV.bool ?_))
   all_goals (simp_all [assertI,befS];try (intros;omega))
 ·obtain⟨x,hx⟩:∃ x,t[k]?=some x:=⟨_,List.getElem?_eq_getElem (by omega)⟩
  by_cases hl:k+1 < t.length
  ·obtain⟨y,hy⟩:∃ y,t[k+1]?=some y:=⟨_,List.getElem?_eq_getElem hl⟩
   simp +contextual (disch:=omega) only[Tryz.f153,dd153,go_sem,↓reduceIte,List.reduceReplicate,Nat.reduceAdd,Nat.reduceSub,reduceCtorEq,Nat.reduceLeDiff,Nat.reduceMul,Nat.reduceLT,Nat.reduceEqDiff,Int.reduceBNe,Int.reduceBEq,Int.reduceEq,Int.reduceLT,Int.reduceLE,Int.reduceGT,Int.reduceGE,mu153,Nat.reduceBEq,↓wrap_up,↓wrap_down,↓wrap_pred,↓wrap_sub_nat,Int.reduceToNat,f167,hx,hy]
   repeat' (first|intro _|apply And.intro|(unfold dOk;kernel_rfl)|(show (_ && _)=true;kernel_rfl)|(show (_ || _)=true;kernel_rfl)|refine fzEq rfl (congrArg AV.bool ?_))
   all_goals (simp_all [assertI,befS];try (intros;omega))
   all_goals (cases wordI x<;>cases wordI y<;>rfl)
  ·have hy:t[k+1]?=none:=List.getElem?_eq_none (by omega)
   simp +contextual (disch:=omega) only[Tryz.f153,dd153,go_sem,↓reduceIte,List.reduceReplicate,Nat.reduceAdd,Nat.reduceSub,reduceCtorEq,Nat.reduceLeDiff,Nat.reduceMul,Nat.reduceLT,Nat.reduceEqDiff,Int.reduceBNe,Int.reduceBEq,Int.reduceEq,Int.reduceLT,Int.reduceLE,Int.reduceGT,Int.reduceGE,mu153,Nat.reduceBEq,↓wrap_up,↓wrap_down,↓wrap_pred,↓wrap_sub_nat,Int.reduceToNat,f167,hx]
   repeat' (first|intro _|apply And.intro|(unfold dOk;kernel_rfl)|(show (_ && _)=true;kernel_rfl)|(show (_ || _)=true;kernel_rfl)|refine fzEq rfl (congrArg AV.bool ?_))
   all_goals (simp_all [assertI,befS];try (intros;omega))
theorem f153 (c:Caps) (n fr to:Int) (hc:c.length≤1000) (H:List MB):call Tryz.prog pol1 132 [capA c,I n,I fr,I to] H=some (capA (withI c n fr to),H):=by
 refine call_run Tryz.func132 rfl rfl rfl rfl rfl rfl (fun _=>rfl) (by simp[AV.plain,AV.plainL,plain_span]) (by simp[AV.plain,plain_span]) ?_ H
 unfold withI
 rcases c with _|⟨x,c⟩
 ·rw[if_neg (by simp;omega)]
  by_cases h1:1≤n
  ·simp +contextual (disch:=omega) only[Tryz.f132,dd132,go_sem,↓reduceIte,List.reduceReplicate,Nat.reduceAdd,Nat.reduceSub,reduceCtorEq,Nat.reduceLeDiff,Nat.reduceMul,Nat.reduceLT,Nat.reduceEqDiff,Int.reduceBNe,Int.reduceBEq,Int.reduceEq,Int.reduceLT,Int.reduceLE,Int.reduceGT,Int.reduceGE,mu132,Nat.reduceBEq,↓wrap_up,↓wrap_down,↓wrap_pred,↓wrap_sub_nat,Int.reduceToNat]
   exact⟨_,rfl⟩
  ·simp +contextual (disch:=omega) only[Tryz.f132,dd132,go_sem,↓reduceIte,List.reduceReplicate,Nat.reduceAdd,Nat.reduceSub,reduceCtorEq,Nat.reduceLeDiff,Nat.reduceMul,Nat.reduceLT,Nat.reduceEqDiff,Int.reduceBNe,Int.reduceBEq,Int.reduceEq,Int.reduceLT,Int.reduceLE,Int.reduceGT,Int.reduceGE,mu132,Nat.reduceBEq,↓wrap_up,↓wrap_down,↓wrap_pred,↓wrap_sub_nat,Int.reduceToNat]
   exact⟨_,rfl⟩
 ·simp only[List.length_cons]at hc
  have hroom:=room_ok (n:=c.length+1) (b:=16) (by omega) (by omega)
  have hal:((c.map spanAV).all fun y=>decide ((match y with | .agg cs=>cs|x=>[x]).length=2) && (match y with | .agg cs=>cs|x=>[x]).all AV.ok)=true:=by
   rw[List.all_eq_true];intro y hy;obtain⟨p,_,rfl⟩:=List.mem_map.1 hy;rfl
  have hz:∀ d:Caps,d.length=c.length+1→∃ H',fz (.ms 0 2 (c.length+1) 0 (c.length+1)) [.row 2 (d.map spanAV) 0]=some (capA d,H'):=fun d hd=>
   ⟨_,fz_row rfl (by rw[List.length_map];exact hd) (plain_span d)⟩
  by_cases h1:1≤n
  ·by_cases h2:n≤((x::c).length:Int)
   ·rw[if_pos ⟨h1,h2⟩]
    obtain⟨j,rfl⟩:∃ j:Nat,n=(j:Int)+1:=⟨(n - 1).toNat,by omega⟩
    simp only[List.length_cons]at h2
    obtain⟨y,hy⟩:∃ y,(x::c)[j]?=some y:=⟨_,List.getElem?_eq_getElem (by simp;omega)⟩
    have hy2:(spanAV x::List.map spanAV c)[j]?=some (spanAV y):=by
     have:((x::c).map spanAV)[j]?=some (spanAV y):=by rw[List.getElem?_map,hy];rfl
     exact this
    have hw:IntKind.i64.wrap ((j:Int)+1 - 1)=(j:Int):=by rw[i64_in]<;>omega
    have hj:((j:Int)+1 - 1)=(j:Int):=by omega
    have hset:(spanAV x::List.map spanAV c).set j (.agg [I fr,I to])=((x::c).set j (fr,to)).map spanAV:=by rw[List.map_set];rfl
    simp +contextual (disch:=omega) only[Tryz.f132,dd132,go_sem,↓reduceIte,List.reduceReplicate,Nat.reduceAdd,Nat.reduceSub,reduceCtorEq,Nat.reduceLeDiff,Nat.reduceMul,Nat.reduceLT,Nat.reduceEqDiff,Int.reduceBNe,Int.reduceBEq,Int.reduceEq,Int.reduceLT,Int.reduceLE,Int.reduceGT,Int.reduceGE,mu132,Nat.reduceBEq,↓wrap_up,↓wrap_down,↓wrap_pred,↓wrap_sub_nat,Int.reduceToNat,hroom,hw,hy2,hj,hset]
    exact⟨hal,hz _ (by simp)⟩
   ·rw[if_neg (by omega)]
    simp only[List.length_cons]at h2
    simp +contextual (disch:=omega) only[Tryz.f132,dd132,go_sem,↓reduceIte,List.reduceReplicate,Nat.reduceAdd,Nat.reduceSub,reduceCtorEq,Nat.reduceLeDiff,Nat.reduceMul,Nat.reduceLT,Nat.reduceEqDiff,Int.reduceBNe,Int.reduceBEq,Int.reduceEq,Int.reduceLT,Int.reduceLE,Int.reduceGT,Int.reduceGE,mu132,Nat.reduceBEq,↓wrap_up,↓wrap_down,↓wrap_pred,↓wrap_sub_nat,Int.reduceToNat,hroom]
    exact⟨hal,hz (x::c) rfl⟩
  ·rw[if_neg (by omega)]
   simp +contextual (disch:=omega) only[Tryz.f132,dd132,go_sem,↓reduceIte,List.reduceReplicate,Nat.reduceAdd,Nat.reduceSub,reduceCtorEq,Nat.reduceLeDiff,Nat.reduceMul,Nat.reduceLT,Nat.reduceEqDiff,Int.reduceBNe,Int.reduceBEq,Int.reduceEq,Int.reduceLT,Int.reduceLE,Int.reduceGT,Int.reduceGE,mu132,Nat.reduceBEq,↓wrap_up,↓wrap_down,↓wrap_pred,↓wrap_sub_nat,Int.reduceToNat,hroom]
   exact⟨hal,hz (x::c) rfl⟩
section
variable {cs xs:List AV} {k:IntKind} {n:Int} {b:Bool} {x a c d e f:Nat}
theorem cl_agg:(AV.agg cs).cells=cs:=rfl
theorem cl_int:(AV.int k n).cells=[.int k n]:=rfl
theorem cl_bool:(AV.bool b).cells=[.bool b]:=rfl
theorem cl_sl:(AV.sl b xs).cells=[.sl b xs]:=rfl
theorem cl_rf:(AV.rf a c d e).cells=[.rf a c d e]:=rfl
theorem cl_pt:(AV.pt xs).cells=[.pt xs]:=rfl
theorem cl_nilp:AV.nilp.cells=[.nilp]:=rfl
end
theorem cl_goal (g:Goal):(goalA g).cells=[goalA g]:=by cases g<;>rfl
theorem ok_goal (g:Goal):AV.ok (goalA g)=true:=by cases g<;>rfl
theorem re_take (r:Re) (n:Nat) (l:List AV):List.take (n+8) (reC r++l)=reC r++List.take n l:=by
 rw[List.take_append,reC_len,List.take_of_length_le (by rw[reC_len];omega)];congr 2
theorem re_drop (r:Re) (n:Nat) (l:List AV):List.drop (n+8) (reC r++l)=List.drop n l:=by
 rw[List.drop_append,reC_len,List.drop_of_length_le (by rw[reC_len];omega),List.nil_append];congr 1
end
end Go.Ev
