/- Functions of the program, each with what it computes; no further conditions. -/
import Derived.Test.YtjgmfjneajcbmaaR06
import Derived.Test.YtjgmfjneajcbmaaR14
set_option linter.unusedVariables false
set_option linter.unusedSimpArgs false
namespace Go.Ev
attribute [local go_sem] eq_self bindW_some bindW_map bindW_ite bindW_iteN W_seq W_region W_draw W_cond W_condK W_ret W_skip W_exit W_scope W_label W_block blockK_norm blockK_ret blockK_exit WO_nil WO_cons WO_guard WD_nil WD_cons WD_guard guardV guardW_boolT guardW_boolF guardW_tup fpL_some fpL_none footprint footprint0 fineF thenK_norm thenK_ret thenK_exit put_some put_none ev_tmp ev_con ev_func ofK_int ofK_bool ofK_str ofK_nil ofK_agg ofC_int ofC_bool ofC_str ofC_nil ofC_nilp one_int one_bool one_str one_nil one_nilp evOp evBuiltin evCall evLen evAppend getElem_16 getElem_4 List.length_cons List.length_nil List.cons_append List.nil_append List.append_nil if_false if_true Bool.false_eq_true Bool.true_eq_false Option.map_some Option.map_none List.map_cons List.map_nil evBinOp evBin evUn asB_bool splitB_decide splitB_true splitB_false splitB_beq splitB_bne splitB_not endK_ret endK_norm List.getElem?_cons_zero List.getElem?_cons_succ evResults evResult packRes retK_norm retK_ret cellsAt mkVal evFieldAddr evField evIndexAddr evPart evStore evBuild evBuildSlice fillC fillE evSlice evMakeSlice evConvert getRow AV.cells List.head?_cons List.drop_zero List.drop_succ_cons List.take_zero List.take_succ_cons List.drop_nil List.take_nil List.all_cons List.all_nil AV.ok Bool.and_self Bool.and_true Bool.true_and and_self and_true true_and Nat.zero_add Nat.add_zero setCells splice pairsOk pairsX altW_none altW_some cfg_al WI_nil WI_cons FP.apart heapEq_refl sameAt_refl Bool.or_true Bool.true_or Bool.or_false srcElems elemsOf mutDst indDst evLenH evMapUpd evLookup getMp keyOk resOk strOf roundK_norm roundK_exit roundK_ret List.length_map List.getElem?_map Int.toNat_natCast decide_true decide_false Bool.not_true Bool.not_false List.set set_0 set_1 set_2 set_3 set_4 look_hit look lookD_hit lookD_cons lookD_nil ins_hit ins upd_hit upd rem1_hit rem1 dropT dropSt_eq initT cfg_dd cfg_bd cfg_ra actL_nil actL_cons act1 updT_hit updT frzB retE_norm retE_ret bndO bnd evEq eqCells not_false_eq_true not_true_eq_false toList_some Array.size_empty tySzE List.head?_drop Nat.mul_one sameAt_zero sameAt_two sameAt_three sameAt_four sameAt_five endE_norm endE_ret head_take1 List.contains_nil List.contains_cons Bool.or_self dlt_t dlt_f dle_t dle_f dgt_t dgt_f dge_t dge_f beq_t beq_f bne_t bne_f lt_T le_T nle_T nle_F Go.IntWalk.i64_in Go.IntWalk.i64_quo Go.IntWalk.rem_in room_ok ty0 ty3 ty4 ty22 ty23 ty42 ty44 ty51 ty87 ty120 ty122 ty124 ty126 ty155
open Go.Proofs Go.RowKit Go.IntWalk
set_option maxRecDepth 100000
set_option maxHeartbeats 2000000
def ResOk (a:Nat) (e:Int) (b7 b8:MB):Prop:=b8=.row 1 [.bool (decide (0≤e))] 0∧((e < 0∧b7=.row 3 [.agg [I 0,I 0,.sl true []]] 0)∨∃ n:Nat,e=n∧∃ l,b7=resB a n l)
structure WS where
 p:Nat
 cur:Bool
 b7:MB
 b8:MB
 E:List (Nat×List Int)
 s:PS
 n:Nat
 fd:Bool
 fst:Bool
 r:Int
structure WInv (g:Prg) (xs:List Int) (a c:Nat) (x:WS):Prop where
 p1:a≤x.p
 p2:x.p≤xs.length
 m:x.s.m.length=g.ins.length
 n:x.n≤x.E.length
 res:ResOk a x.r x.b7 x.b8
 one:x.fst=true→x.p=a∧x.fd=false∧x.s=⟨[],List.replicate g.ins.length 0,false,[]⟩∧x.r = -1
 two:x.fst=false→a < x.p∧(x.s.vs x.p).Ok g.ins.length∧x.s.Ok (2 * c) x.p∧runL g.ins (xs.drop x.p) x.p (x.s.ts.map (·.1)) x.r=runL g.ins (xs.drop a) a (stateL g.ins [0]) (-1)
theorem blank_set {R i:Nat} (h:i < R):(List.replicate i (-1)++List.replicate (R - i) (0:Int)).set i (-1)=List.replicate (i+1) (-1)++List.replicate (R - (i+1)) 0:=by
 rw[List.set_append_right _ _ (by simp),List.length_replicate,Nat.sub_self]
 obtain⟨m,hm⟩:∃ m,R - i=m+1:=⟨R - i - 1,by omega⟩
 rw[hm,show R - (i+1)=m by omega,List.replicate_succ,List.set_cons_zero]
 rw[List.replicate_succ' (n:=i)]
 simp
theorem seeF_eq (F:PF) (c q:Nat) (s:PS):∃ b7 b8,seeF F c q s = { F with b7:=b7,b8:=b8 }∧(∀ a e,F.f=(a:Nat)→ResOk a e F.b7 F.b8→ResOk a (if doneL F.g.ins (s.ts.map (·.1))=true then(q:Int) else e) b7 b8):=by
 unfold seeF
 split
 ·rename_i h
  refine⟨_,_,rfl,fun a e ha _=>?_⟩
  refine⟨by simp,.inr ⟨q,rfl,_,by rw[ha]⟩⟩
 ·rename_i h
  refine⟨_,_,rfl,fun a e ha hr=>?_⟩
  exact hr
theorem under_row {n k z:Nat} {e:List AV}:MB.under n (.row k e z)=AV.underL n e:=rfl
theorem ResOk.parts {a:Nat} {e:Int} {b7 b8:MB} (h:ResOk a e b7 b8):(∃ x y v,b7=.row 3 [.agg [I x,I y,v]] 0∧AV.under 16 v=true)∧∃ b,b8=.row 1 [.bool b] 0:=by
 obtain⟨h1,h2⟩:=h
 refine⟨?_,_,h1⟩
 rcases h2 with ⟨_,h⟩|⟨n,_,l,h⟩
 ·exact⟨_,_,_,h,rfl⟩
 ·exact⟨_,_,_,h,by simp[AV.under,underL_plain,plain_pair]⟩
theorem ResOk.under {a:Nat} {e:Int} {b7 b8:MB} (h:ResOk a e b7 b8):MB.under 16 b7=true∧MB.under 16 b8=true:=by
 obtain⟨⟨x,y,v,rfl,hv⟩,b,rfl⟩:=h.parts
 exact⟨by simp[MB.under,AV.underL,AV.under,hv],rfl⟩
theorem prep16 {l:List Nat} {t t':Tm} {h h':List MB} (ht:keepT (some l) t=t') (hh:h.take 16=h') (h1:AV.underL 16 (t'.map (·.2))=true) (h2:h'.all (MB.under 16)=true):prep ⟨some l,some 16,[]⟩ ⟨131,t,h⟩=⟨131,t',h'⟩:=by
 subst ht;subst hh
 exact prep_cut rfl rfl rfl rfl h1 h2
theorem u10 (c:Nat):MB.under 16 (.row 1 (List.replicate (2 * c) (I (-1))) (2 * c))=true:=by
 have:=underL_plain 16 _ (plain_ints (List.replicate (2 * c) (-1)))
 rw[List.map_replicate]at this
 rw[under_row];exact this
theorem headU (c a p:Nat) (fd:Bool) {id:Nat} (hid:id=12∨id=13) (x y:Nat):AV.underL 16 (([(14,.rf 15 1 0 0),(13,.rf 14 1 0 0),(12,.bool fd),(11,.ms id 3 x 0 y),(10,.rf 11 1 0 0),(8,.sl false (List.replicate (2 * c) (I (-1)))),(4,.rf 9 1 0 0),(3,.clo 56 capS),(2,NV a),(1,NV p)]:Tm).map (·.2))=true:=by
 have h1:=underL_plain 16 _ (plain_ints (List.replicate (2 * c) (-1)))
 rw[List.map_replicate]at h1
 rcases hid with rfl|rfl<;>simp[AV.underL,AV.under,h1]
theorem innerU (c a p:Nat) (fd:Bool) {id:Nat} (hid:id=12∨id=13) (x y i n:Nat):AV.underL 16 (([(91,NV i),(90,NV n),(89,.ms id 3 x 0 y),(14,.rf 15 1 0 0),(13,.rf 14 1 0 0),(12,.bool fd),(11,.ms id 3 x 0 y),(10,.rf 11 1 0 0),(8,.sl false (List.replicate (2 * c) (I (-1)))),(4,.rf 9 1 0 0),(3,.clo 56 capS),(2,NV a),(1,NV p)]:Tm).map (·.2))=true:=by
 have h1:=underL_plain 16 _ (plain_ints (List.replicate (2 * c) (-1)))
 rw[List.map_replicate]at h1
 rcases hid with rfl|rfl<;>simp[AV.underL,AV.under,h1]
theorem underA (F:PF) (s:PS) (h0:MB.under 16 F.b0=true) (h1:MB.under 16 F.b1=true) (h2:MB.under 16 F.b2=true) (h6:MB.under 16 F.b6=true) (h7:MB.under 16 F.b7=true) (h8:MB.under 16 F.b8=true) (h10:MB.under 16 F.b10=true):(hpA F s []).all (MB.under 16)=true:=by
 have p1:=fun n=>underL_plain n _ (plain_ints s.m)
 have p2:=fun n=>underL_plain n _ (plain_th F.f s.ts)
 have p3:=fun n=>underL_plain n _ (plain_th F.f s.j)
 have p4:=fun n=>underL_plain n _ (plain_th F.f F.E)
 have p5:=fun n=>underL_plain n _ (plain_ins F.g.ins)
 have p6:=fun n=>underL_plain n _ (plain_ints F.xs)
 have d1:decide (3 < 16)=true:=rfl
 have d2:decide (4 < 16)=true:=rfl
 have d3:decide (12 < 16)=true:=rfl
 have d4:decide (14 < 16)=true:=rfl
 have d5:decide (9 < 16)=true:=rfl
 have d6:decide (11 < 16)=true:=rfl
 have d7:decide (15 < 16)=true:=rfl
 simp only[hpA,List.all_cons,List.all_nil,h0,h1,h2,h6,h7,h8,h10,under_row,AV.underL,AV.under,underL_append,p1,p2,p3,p4,p5,p6,d1,d2,d3,d4,d5,d6,d7,Bool.and_self,Bool.and_true]
theorem underB (F:PF) (s:PS) (h0:MB.under 16 F.b0=true) (h1:MB.under 16 F.b1=true) (h2:MB.under 16 F.b2=true) (h6:MB.under 16 F.b6=true) (h7:MB.under 16 F.b7=true) (h8:MB.under 16 F.b8=true) (h10:MB.under 16 F.b10=true):(hpB F s []).all (MB.under 16)=true:=by
 have p1:=fun n=>underL_plain n _ (plain_ints s.m)
 have p2:=fun n=>underL_plain n _ (plain_th F.f s.ts)
 have p3:=fun n=>underL_plain n _ (plain_th F.f s.j)
 have p4:=fun n=>underL_plain n _ (plain_th F.f F.E)
 have p5:=fun n=>underL_plain n _ (plain_ins F.g.ins)
 have p6:=fun n=>underL_plain n _ (plain_ints F.xs)
 have d1:decide (3 < 16)=true:=rfl
 have d2:decide (4 < 16)=true:=rfl
 have d3:decide (13 < 16)=true:=rfl
 have d4:decide (14 < 16)=true:=rfl
 have d5:decide (9 < 16)=true:=rfl
 have d6:decide (11 < 16)=true:=rfl
 have d7:decide (15 < 16)=true:=rfl
 simp only[hpB,List.all_cons,List.all_nil,h0,h1,h2,h6,h7,h8,h10,under_row,AV.underL,AV.under,underL_append,p1,p2,p3,p4,p5,p6,d1,d2,d3,d4,d5,d6,d7,Bool.and_self,Bool.and_true]
theorem f55 (g:Prg) (hl:g.ins.length≤8192) (hw:Leads g.ins) (hN:0 < g.ins.length) (c:Nat) (hc:g.caps=c) (hc9:c≤9) (hsv:∀ i∈g.ins,(i.op=4→0≤i.n∧i.n.toNat < 2 * c)∧i.op≠5) (hset:∀ i∈g.ins,i.set.length≤1000000)
  (xs:List Int) (hx:xs.length≤65536) (a:Nat) (ha:a≤xs.length) (b0 b1 b2 b6:MB) (u0:MB.under 16 b0=true) (u1:MB.under 16 b1=true) (u2:MB.under 16 b2=true) (u6:MB.under 16 b6=true) :
  ∃ r,(∃(m:List Int) (T:List MB) (b7 b8:MB),r=(AV.tup [],b0::b1::b2::.row 1 (m.map I) 0::.row 5 [mach g xs] 0::.row 1 [.rf 4 1 0 0] 0::b6::b7::b8::T)∧ResOk a (runL g.ins (xs.drop a) a (stateL g.ins [0]) (-1)) b7 b8) ∧
    call Try.prog pol1 55 [.rf 4 1 0 0,NV a,NV a,.clo 56 capS] [b0,b1,b2,.row 1 (List.replicate g.ins.length (I 0)) 0,.row 5 [mach g xs] 0,.row 1 [.rf 4 1 0 0] 0,b6,.row 3 [.agg [I 0,I 0,.sl true []]] 0,.row 1 [.bool false] 0]=some r:=by
 have rp:∀ H1 r H,retPol pol1 55 H1 r H=some (r,H):=fun H1 r H=>rfl
 have hR:∀ n:Int,IntKind.i64.wrap (2 * (c:Int))=((2 * c:Nat):Int):=fun n=>by rw[i64_in]<;>omega
 have hR:=hR 0
 refine call_run2E (pol:=pol1) Try.func55 rfl rfl rfl rfl (frzArgs_mix _ _ _ rfl) ?_
 simp +contextual (disch:=omega) only[Try.f55,dd55,go_sem,↓reduceIte,List.reduceReplicate,Nat.reduceAdd,Nat.reduceSub,reduceCtorEq,Nat.reduceLeDiff,Nat.reduceMul,Nat.reduceLT,Nat.reduceEqDiff,Int.reduceBNe,Int.reduceBEq,Int.reduceEq,Int.reduceLT,Int.reduceLE,Int.reduceGT,Int.reduceGE,List.length_append,List.map_append,mu55,Nat.reduceBEq,↓wrap_up,↓wrap_down,↓wrap_pred,↓wrap_sub_nat,Int.reduceToNat,hc,hR,evClear,List.length_replicate]
 refine W_count (M:=(mskOf (pol1.mask 55) (pol1.gc 55) (pol1.acts 55) 9 4)) rfl (2 * c) (fun i=>(⟨131,[(32,I i),(31,I (2 * c:Nat)),(8,.ms 10 1 (2 * c) 0 (2 * c)),(4,.rf 9 1 0 0),(3,.clo 56 capS),(2,NV a),(1,NV a)],[b0,b1,b2,.row 1 (List.replicate g.ins.length (I 0)) 0,.row 5 [mach g xs] 0,.row 1 [.rf 4 1 0 0] 0,b6,.row 3 [.agg [I 0,I 0,.sl true []]] 0,.row 1 [.bool false] 0,.row 1 [.rf 4 1 0 0] 0,.row 1 ((List.replicate i (-1)++List.replicate (2 * c - i) (0:Int)).map I) 0]⟩:St)) (fun _=>True) ?_ ?_ trivial _ ?_
 ·intro i hi _
  have hg:((List.replicate i (-1)++List.replicate (2 * c - i) (0:Int)).map I)[i]?=some (I 0):=by
   rw[List.getElem?_map,List.getElem?_append_right (by simp),List.length_replicate,Nat.sub_self,List.getElem?_replicate,if_pos (by omega)];rfl
  have hs:((List.replicate i (-1)++List.replicate (2 * c - i) (0:Int)).map I).set i (I (-1))=(List.replicate (i+1) (-1)++List.replicate (2 * c - (i+1)) (0:Int)).map I:=by
   rw[← blank_set hi,List.map_set]
  have hln:((List.replicate i (-1)++List.replicate (2 * c - i) (0:Int)).map I).length=2 * c:=by simp;omega
  simp +contextual (disch:=omega) only[Try.f55,dd55,go_sem,↓reduceIte,List.reduceReplicate,Nat.reduceAdd,Nat.reduceSub,reduceCtorEq,Nat.reduceLeDiff,Nat.reduceMul,Nat.reduceLT,Nat.reduceEqDiff,Int.reduceBNe,Int.reduceBEq,Int.reduceEq,Int.reduceLT,Int.reduceLE,Int.reduceGT,Int.reduceGE,mu55,Nat.reduceBEq,↓wrap_up,↓wrap_down,↓wrap_pred,↓wrap_sub_nat,Int.reduceToNat,hg,hs,hln]
  rfl
 ·intro _
  rw[Nat.sub_self,List.replicate_zero,List.append_nil,List.map_replicate]
  have hfz:∀(y0 y1 y2 y3 y4 y5 y6 y7 y8 y9:MB) (T:List MB),fz (.ms 10 1 (2 * c) 0 (2 * c)) (y0::y1::y2::y3::y4::y5::y6::y7::y8::y9::.row 1 (List.replicate (2 * c) (I (-1))) 0::T)=some (.sl false (List.replicate (2 * c) (I (-1))),y0::y1::y2::y3::y4::y5::y6::y7::y8::y9::.row 1 (List.replicate (2 * c) (I (-1))) (2 * c)::T):=by
   intro y0 y1 y2 y3 y4 y5 y6 y7 y8 y9 T
   have:=fz_row (tot:=2 * c) (H:=y0::y1::y2::y3::y4::y5::y6::y7::y8::y9::.row 1 (List.replicate (2 * c) (I (-1))) 0::T) (id:=10) (k:=1) (z:=0) rfl (by simp) (by have:=plain_ints (List.replicate (2 * c) (-1));simpa using this)
   rw[this]
   simp[mark,getRow]
  simp +contextual (disch:=omega) only[Try.f55,dd55,go_sem,↓reduceIte,List.reduceReplicate,Nat.reduceAdd,Nat.reduceSub,reduceCtorEq,Nat.reduceLeDiff,Nat.reduceMul,Nat.reduceLT,Nat.reduceEqDiff,Int.reduceBNe,Int.reduceBEq,Int.reduceEq,Int.reduceLT,Int.reduceLE,Int.reduceGT,Int.reduceGE,List.length_append,List.map_append,mu55,Nat.reduceBEq,↓wrap_up,↓wrap_down,↓wrap_pred,↓wrap_sub_nat,Int.reduceToNat,hfz]
  refine W_for (σ:=WS) (M:=(mskOf (pol1.mask 55) (pol1.gc 55) (pol1.acts 55) 9 13)) rfl (fun x=>(⟨131,[(14,.rf 15 1 0 0),(13,.rf 14 1 0 0),(12,.bool x.fd),(11,.ms (if x.cur=true then 13 else 12) 3 x.E.length 0 x.n),(10,.rf 11 1 0 0),(8,.sl false (List.replicate (2 * c) (I (-1)))),(4,.rf 9 1 0 0),(3,.clo 56 capS),(2,NV a),(1,NV x.p)],if x.cur=true then hpA ⟨g,xs,a,b0,b1,b2,b6,x.b7,x.b8,.row 1 (List.replicate (2 * c) (I (-1))) (2 * c),x.E⟩ x.s [] else hpB ⟨g,xs,a,b0,b1,b2,b6,x.b7,x.b8,.row 1 (List.replicate (2 * c) (I (-1))) (2 * c),x.E⟩ x.s []⟩:St)) (WInv g xs a c) (fun x=>xs.length+1 - x.p) ⟨a,true,.row 3 [.agg [I 0,I 0,.sl true []]] 0,.row 1 [.bool false] 0,[],⟨[],List.replicate g.ins.length 0,false,[]⟩,0,false,true,-1⟩ ?_ ?_ _ ?_
  ·rintro⟨p,cur,b7,b8,E,s,n,fd,fs,r⟩ hI
   obtain⟨p1,p2,hm,hn,hres,h1,h2⟩:=hI
   simp only at p1 p2 hm hn hres h1 h2
   obtain⟨⟨r1,r2,r3,e7,r5⟩,r4,e8⟩:=hres.parts
   obtain⟨u7,u8⟩:=hres.under
   cases cur with
   | true=>
     cases fs with
     | true=>
       obtain⟨q1,q2,q3,q4⟩:=h1 rfl
       subst q2;subst q3;subst q4
       have q5:=q1.symm
       subst q5
       have hm0:(⟨[],List.replicate g.ins.length 0,false,[]⟩:PS).m.length=g.ins.length:=by simp
       have g0:(⟨[],List.replicate g.ins.length 0,false,[]⟩:PS).vs a=vs0 g.ins.length:=vs_fresh hm0 (fun y hy=>by have:=(List.mem_replicate.1 hy).2;omega) rfl rfl
       obtain⟨v1,k3⟩:=vs_pvisit g.ins a (g.ins.length+1) 0 (List.replicate (2 * c) (-1)) ⟨[],List.replicate g.ins.length 0,false,[]⟩ hm0
       have v2:=(vs0_ok g.ins.length).visit (ins:=g.ins) (k:=g.ins.length+1) (n:=0)
       rw[g0]at v1
       rw[← v1]at v2
       have k1:=v2.1
       have k2:(pvisit g.ins a (g.ins.length+1) 0 (List.replicate (2 * c) (-1)) ⟨[],List.replicate g.ins.length 0,false,[]⟩).Ok (2 * c) a:=
        PS.Ok.pvisit (fun i hi h=>(hsv i hi).1 h) ⟨fun t h=>(by cases h),fun y hy=>by have:=(List.mem_replicate.1 hy).2;omega⟩ (by simp)
       have hc67:=f67A ⟨g,xs,a,b0,b1,b2,b6,b7,b8,.row 1 (List.replicate (2 * c) (I (-1))) (2 * c),E⟩ (by show g.ins.length≤_;omega) hw a (by omega) (2 * c) (by omega) hsv (g.ins.length+1) 0 (List.replicate (2 * c) (-1)) ⟨[],List.replicate g.ins.length 0,false,[]⟩ [] hN (by simp) hm0 (by rw[g0];exact vs0_ok _) (by rw[g0,vs0_open];omega)
       have k4:runL g.ins (xs.drop a) a ((pvisit g.ins a (g.ins.length+1) 0 (List.replicate (2 * c) (-1)) ⟨[],List.replicate g.ins.length 0,false,[]⟩).ts.map (·.1)) (-1)=runL g.ins (xs.drop a) a (stateL g.ins [0]) (-1):=by
        have e:(pvisit g.ins a (g.ins.length+1) 0 (List.replicate (2 * c) (-1)) ⟨[],List.replicate g.ins.length 0,false,[]⟩).ts.map (·.1)=stateL g.ins [0]:=by
         show (PS.vs a _).r=_
         rw[v1];rfl
        rw[e]
       simp only at hc67
       generalize pvisit g.ins a (g.ins.length+1) 0 (List.replicate (2 * c) (-1)) ⟨[],List.replicate g.ins.length 0,false,[]⟩=s1 at *
       rw[List.map_replicate]at hc67
       change call Try.prog pol1 67 (I 0::_) _=_ at hc67
       obtain⟨r,hr⟩:∃ r:Int,r = -1:=⟨_,rfl⟩
       rw[← hr]at hres
       have k4:runL g.ins (xs.drop a) a (s1.ts.map (·.1)) r=runL g.ins (xs.drop a) a (stateL g.ins [0]) (-1):=by rw[hr];exact k4
       obtain⟨b7',b8',hse,hre⟩:=seeF_eq ⟨g,xs,a,b0,b1,b2,b6,b7,b8,.row 1 (List.replicate (2 * c) (I (-1))) (2 * c),E⟩ c a s1
       have hres':=hre a r rfl hres
       simp only at hse hres'
       obtain⟨u7',u8'⟩:=hres'.under
       have hc56:=f56A ⟨g,xs,a,b0,b1,b2,b6,b7,b8,.row 1 (List.replicate (2 * c) (I (-1))) (2 * c),E⟩ (by show g.ins.length≤_;omega) c a hc hc9 s1 (by have:=k1.small;simp[PS.vs]at this;omega) (fun t ht=>⟨(k1.res t.1 (List.mem_map.2 ⟨_,ht,rfl⟩)).1,k2.regs t ht⟩) r4 r1 r2 r3 e7 e8
       rw[hse]at hc56
       have kf:(⟨[],s1.m,false,E⟩:PS).vs (a+1)=vs0 g.ins.length:=vs_fresh k3 (fun y hy=>k2.marks y hy) rfl rfl
       by_cases hnil:s1.ts=[]
       ·have hlen0:s1.ts.length=0:=by rw[hnil];rfl
        have hfin:ResOk a (runL g.ins (xs.drop a) a (stateL g.ins [0]) (-1)) b7' b8':=by
         rw[← k4,hnil]
         rw[hnil]at hres'
         simpa [runL_nil,doneL] using hres'
        rcases s1 with ⟨ts1,m1,c1,j1⟩
        simp only at hlen0
        simp only[hpA]at hc56
        cases c1 with
        | true=>
          simp +contextual (disch:=omega) only[Try.f55,dd55,go_sem,↓reduceIte,List.reduceReplicate,Nat.reduceAdd,Nat.reduceSub,reduceCtorEq,Nat.reduceLeDiff,Nat.reduceMul,Nat.reduceLT,Nat.reduceEqDiff,Int.reduceBNe,Int.reduceBEq,Int.reduceEq,Int.reduceLT,Int.reduceLE,Int.reduceGT,Int.reduceGE,List.length_append,List.map_append,mu55,Nat.reduceBEq,↓wrap_up,↓wrap_down,↓wrap_pred,↓wrap_sub_nat,Int.reduceToNat,hc67,hc56]
          repeat' (first|intro _|apply And.intro)
          all_goals first|exact⟨_,⟨m1,_,b7',b8',rfl,hfin⟩,rp _ _ _⟩|(exfalso;omega)
        | false=>
          simp +contextual (disch:=omega) only[Try.f55,dd55,go_sem,↓reduceIte,List.reduceReplicate,Nat.reduceAdd,Nat.reduceSub,reduceCtorEq,Nat.reduceLeDiff,Nat.reduceMul,Nat.reduceLT,Nat.reduceEqDiff,Int.reduceBNe,Int.reduceBEq,Int.reduceEq,Int.reduceLT,Int.reduceLE,Int.reduceGT,Int.reduceGE,List.length_append,List.map_append,mu55,Nat.reduceBEq,↓wrap_up,↓wrap_down,↓wrap_pred,↓wrap_sub_nat,Int.reduceToNat,hc67,hc56]
          repeat' (first|intro _|apply And.intro)
          all_goals first|exact⟨_,⟨m1,_,b7',b8',rfl,hfin⟩,rp _ _ _⟩|(exfalso;omega)
       have hlen1:0 < s1.ts.length:=List.length_pos_iff.2 hnil
       have hL:s1.ts.map (·.1)≠[]:=by simpa using hnil
       by_cases hend:a=xs.length
       ·have hfin:ResOk a (runL g.ins (xs.drop a) a (stateL g.ins [0]) (-1)) b7' b8':=by
         rw[← k4,hend,List.drop_length]
         simp only[runL,if_neg hL]
         rw[hend]at hres'
         exact hres'
        simp +contextual (disch:=omega) only[Try.f55,dd55,go_sem,↓reduceIte,List.reduceReplicate,Nat.reduceAdd,Nat.reduceSub,reduceCtorEq,Nat.reduceLeDiff,Nat.reduceMul,Nat.reduceLT,Nat.reduceEqDiff,Int.reduceBNe,Int.reduceBEq,Int.reduceEq,Int.reduceLT,Int.reduceLE,Int.reduceGT,Int.reduceGE,List.length_append,List.map_append,mu55,Nat.reduceBEq,↓wrap_up,↓wrap_down,↓wrap_pred,↓wrap_sub_nat,Int.reduceToNat,hc67,hc56]
        repeat' (first|intro _|apply And.intro)
        all_goals first|exact⟨_,⟨s1.m,_,b7',b8',rfl,hfin⟩,rp _ _ _⟩|(exfalso;omega)
       obtain⟨x,hx1⟩:∃ x,xs[a]?=some x:=⟨_,List.getElem?_eq_getElem (by omega)⟩
       have hx2:(xs.map I)[a]?=some (I x):=by simp[hx1]
       have hdrop:xs.drop a=x::xs.drop (a+1):=by
        rw[List.drop_eq_getElem_cons (by omega)]
        congr 1
        rw[List.getElem?_eq_getElem (by omega)]at hx1
        exact Option.some.inj hx1
       have hrun:∀ tg:Int,runL g.ins (xs.drop a) a (s1.ts.map (·.1)) r=tg→runL g.ins (xs.drop (a+1)) (a+1) (nextL g.ins (s1.ts.map (·.1)) x) (if doneL g.ins (s1.ts.map (·.1))=true then(a:Int) else r)=tg:=by
        intro tg h
        rw[hdrop]at h
        simpa only[runL,if_neg hL] using h
       simp +contextual (disch:=omega) only[Try.f55,dd55,go_sem,↓reduceIte,List.reduceReplicate,Nat.reduceAdd,Nat.reduceSub,reduceCtorEq,Nat.reduceLeDiff,Nat.reduceMul,Nat.reduceLT,Nat.reduceEqDiff,Int.reduceBNe,Int.reduceBEq,Int.reduceEq,Int.reduceLT,Int.reduceLE,Int.reduceGT,Int.reduceGE,List.length_append,List.map_append,mu55,Nat.reduceBEq,↓wrap_up,↓wrap_down,↓wrap_pred,↓wrap_sub_nat,Int.reduceToNat,hc67,hc56]
       repeat' (first|intro _|apply And.intro|(unfold dOk;kernel_rfl)|exact St.beq_refl _|(show altO _ _ _ _=true;kernel_rfl)|(show (_ || _)=true;kernel_rfl)|(show (_ && _)=true;kernel_rfl))
       refine W_count (M:=(mskOf (pol1.mask 55) (pol1.gc 55) (pol1.acts 55) 9 20)) rfl s1.ts.length (fun i=>(⟨131,[(91,NV i),(90,NV s1.ts.length),(89,.ms 12 3 (s1.ts.length+s1.j.length) 0 s1.ts.length),(14,.rf 15 1 0 0),(13,.rf 14 1 0 0),(12,.bool s1.c),(11,.ms 12 3 (s1.ts.length+s1.j.length) 0 s1.ts.length),(10,.rf 11 1 0 0),(8,.sl false (List.replicate (2 * c) (I (-1)))),(4,.rf 9 1 0 0),(3,.clo 56 capS),(2,NV a),(1,NV a)],hpB ⟨g,xs,a,b0,b1,b2,b6,b7',b8',.row 1 (List.replicate (2 * c) (I (-1))) (2 * c),s1.ts++s1.j⟩ (stepT g.ins (a+1) (g.ins.length+1) x (s1.ts.take i) ⟨[],s1.m,false,E⟩) []⟩:St)) (fun _=>True) ?_ ?_ trivial _ ?_
       ·intro i hi _
        obtain⟨t,ht⟩:∃ t,s1.ts[i]?=some t:=⟨_,List.getElem?_eq_getElem hi⟩
        obtain⟨n1,rg⟩:=t
        have hib:i≤1000000:=by have:=k1.small;simp[PS.vs]at this;omega
        have ht':(s1.ts.map (thAV a)++s1.j.map (thAV a))[i]?=some (thAV a (n1,rg)):=by rw[List.getElem?_append_left (by simpa using hi),List.getElem?_map,ht];rfl
        have htm:=List.mem_of_getElem? ht
        have hn1:n1 < g.ins.length:=(k1.res n1 (List.mem_map.2 ⟨_,htm,rfl⟩)).1
        have hrg:rg.length=2 * c:=k2.regs _ htm
        obtain⟨i0,hi0⟩:∃ i0,g.ins[n1]?=some i0:=⟨_,List.getElem?_eq_getElem hn1⟩
        have hi0':(g.ins.map insAV)[n1]?=some (insAV i0):=by simp[hi0]
        have hnx:stepT g.ins (a+1) (g.ins.length+1) x (s1.ts.take (i+1)) ⟨[],s1.m,false,E⟩=stepO g.ins (a+1) (g.ins.length+1) x (n1,rg) (stepT g.ins (a+1) (g.ins.length+1) x (s1.ts.take i) ⟨[],s1.m,false,E⟩):=by
         rw[List.take_add_one,ht];exact stepT_snoc _ _ _ _ _ _ _
        obtain⟨w1,w2⟩:=vs_stepT g.ins (a+1) (g.ins.length+1) x (s1.ts.take i) ⟨[],s1.m,false,E⟩ k3
        rw[kf]at w1
        have w3:=(vs0_ok g.ins.length).visits (ins:=g.ins) (k:=g.ins.length+1) (ns:=afterL g.ins ((s1.ts.take i).map (·.1)) x)
        rw[← w1,vs0_open]at w3
        have hf69:=f69h i0.set x (hset i0 (List.mem_of_getElem? hi0))
        have hc67:n1+1 < g.ins.length→∀ s',s'.m.length=g.ins.length→(s'.vs (a+1)).Ok g.ins.length→(s'.vs (a+1)).open≤g.ins.length→∀ K,call Try.prog pol1 67 (NV (n1+1)::NV (a+1)::I (a:Nat)::.sl false (rg.map I)::capP) (hpB ⟨g,xs,a,b0,b1,b2,b6,b7',b8',.row 1 (List.replicate (2 * c) (I (-1))) (2 * c),s1.ts++s1.j⟩ s' K)=some (.tup [],hpB ⟨g,xs,a,b0,b1,b2,b6,b7',b8',.row 1 (List.replicate (2 * c) (I (-1))) (2 * c),s1.ts++s1.j⟩ (pvisit g.ins (a+1) (g.ins.length+1) (n1+1) rg s') K):=
         fun h s' a1 a2 a3 K=>f67B ⟨g,xs,a,b0,b1,b2,b6,b7',b8',.row 1 (List.replicate (2 * c) (I (-1))) (2 * c),s1.ts++s1.j⟩ (by show g.ins.length≤_;omega) hw (a+1) (by omega) (2 * c) (by omega) hsv (g.ins.length+1) (n1+1) rg s' K h hrg a1 a2 (by omega)
        have hprep:∀(s':PS) (J:List MB) (t:Tm),keepT (some [91,90,89,14,13,12,11,10,8,4,3,2,1]) t=[(91,NV (i+1)),(90,NV s1.ts.length),(89,.ms 12 3 (s1.ts.length+s1.j.length) 0 s1.ts.length),(14,.rf 15 1 0 0),(13,.rf 14 1 0 0),(12,.bool s1.c),(11,.ms 12 3 (s1.ts.length+s1.j.length) 0 s1.ts.length),(10,.rf 11 1 0 0),(8,.sl false (List.replicate (2 * c) (I (-1)))),(4,.rf 9 1 0 0),(3,.clo 56 capS),(2,NV a),(1,NV a)]→prep (mskOf (pol1.mask 55) (pol1.gc 55) (pol1.acts 55) 9 20) ⟨131,t,(b0::b1::b2::.row 1 (s'.m.map I) 0::.row 5 [mach g xs] 0::.row 1 [.rf 4 1 0 0] 0::b6::b7'::b8'::.row 1 [.rf 4 1 0 0] 0::.row 1 (List.replicate (2 * c) (I (-1))) (2 * c)::.row 1 [.ms 13 3 (s'.ts.length+s'.j.length) 0 s'.ts.length] 0::.row 3 (s1.ts.map (thAV a)++s1.j.map (thAV a)) 0::.row 3 (s'.ts.map (thAV a)++s'.j.map (thAV a)) 0::.row 1 [.bool s'.c] 0::.row 1 [.clo 67 capP] 0::J)⟩=⟨131,[(91,NV (i+1)),(90,NV s1.ts.length),(89,.ms 12 3 (s1.ts.length+s1.j.length) 0 s1.ts.length),(14,.rf 15 1 0 0),(13,.rf 14 1 0 0),(12,.bool s1.c),(11,.ms 12 3 (s1.ts.length+s1.j.length) 0 s1.ts.length),(10,.rf 11 1 0 0),(8,.sl false (List.replicate (2 * c) (I (-1)))),(4,.rf 9 1 0 0),(3,.clo 56 capS),(2,NV a),(1,NV a)],hpB ⟨g,xs,a,b0,b1,b2,b6,b7',b8',.row 1 (List.replicate (2 * c) (I (-1))) (2 * c),s1.ts++s1.j⟩ s' []⟩:=by
         intro s' J t e1
         have e2:(b0::b1::b2::.row 1 (s'.m.map I) 0::.row 5 [mach g xs] 0::.row 1 [.rf 4 1 0 0] 0::b6::b7'::b8'::.row 1 [.rf 4 1 0 0] 0::.row 1 (List.replicate (2 * c) (I (-1))) (2 * c)::.row 1 [.ms 13 3 (s'.ts.length+s'.j.length) 0 s'.ts.length] 0::.row 3 (s1.ts.map (thAV a)++s1.j.map (thAV a)) 0::.row 3 (s'.ts.map (thAV a)++s'.j.map (thAV a)) 0::.row 1 [.bool s'.c] 0::.row 1 [.clo 67 capP] 0::J)=hpB ⟨g,xs,a,b0,b1,b2,b6,b7',b8',.row 1 (List.replicate (2 * c) (I (-1))) (2 * c),s1.ts++s1.j⟩ s' J:=by simp only[hpB,List.map_append]
         rw[e2]
         exact prep16 (l:=[91,90,89,14,13,12,11,10,8,4,3,2,1]) e1 rfl (innerU _ _ _ _ (by omega) _ _ _ _) (underB _ _ u0 u1 u2 u6 u7' u8' (u10 c))
        have h01:stepO g.ins (a+1) (g.ins.length+1) x (n1,rg) (stepT g.ins (a+1) (g.ins.length+1) x (s1.ts.take i) ⟨[],s1.m,false,E⟩)=(if i0.op=1∧hasSpan i0.set x=true then pvisit g.ins (a+1) (g.ins.length+1) (n1+1) rg (stepT g.ins (a+1) (g.ins.length+1) x (s1.ts.take i) ⟨[],s1.m,false,E⟩) else stepT g.ins (a+1) (g.ins.length+1) x (s1.ts.take i) ⟨[],s1.m,false,E⟩):=by
         unfold stepO;rw[hi0]
        rw[hnx,h01]
        generalize stepT g.ins (a+1) (g.ins.length+1) x (s1.ts.take i) ⟨[],s1.m,false,E⟩=s2 at *
        by_cases h1:i0.op=1
        ·cases h2:hasSpan i0.set x with
         | true=>
           rw[if_pos ⟨h1,rfl⟩]
           rw[h2]at hf69
           have hc:=fun J1 J2=>hc67 ((hw n1 i0 hi0).2.2.2 (.inl h1)) s2 w2 w3.1 w3.2 [J1,J2]
           simp only[hpB,List.map_append]at hc
           simp +contextual (disch:=omega) only[Try.f55,dd55,go_sem,↓reduceIte,List.reduceReplicate,Nat.reduceAdd,Nat.reduceSub,reduceCtorEq,Nat.reduceLeDiff,Nat.reduceMul,Nat.reduceLT,Nat.reduceEqDiff,Int.reduceBNe,Int.reduceBEq,Int.reduceEq,Int.reduceLT,Int.reduceLE,Int.reduceGT,Int.reduceGE,List.length_append,List.map_append,mu55,Nat.reduceBEq,↓wrap_up,↓wrap_down,↓wrap_pred,↓wrap_sub_nat,Int.reduceToNat,ht',hi0',h1,hf69,hx2,hc,sameAt_succ]
           repeat' (first|intro _|apply And.intro|(unfold dOk;kernel_rfl)|exact St.beq_refl _|(show altO _ _ _ _=true;kernel_rfl)|(show (_ || _)=true;kernel_rfl)|(show (_ && _)=true;kernel_rfl))
           all_goals (refine hprep (pvisit g.ins (a+1) (g.ins.length+1) (n1+1) rg s2) [_,_] _ ?_;rfl)
         | false=>
           rw[if_neg (by simp)]
           rw[h2]at hf69
           simp +contextual (disch:=omega) only[Try.f55,dd55,go_sem,↓reduceIte,List.reduceReplicate,Nat.reduceAdd,Nat.reduceSub,reduceCtorEq,Nat.reduceLeDiff,Nat.reduceMul,Nat.reduceLT,Nat.reduceEqDiff,Int.reduceBNe,Int.reduceBEq,Int.reduceEq,Int.reduceLT,Int.reduceLE,Int.reduceGT,Int.reduceGE,List.length_append,List.map_append,mu55,Nat.reduceBEq,↓wrap_up,↓wrap_down,↓wrap_pred,↓wrap_sub_nat,Int.reduceToNat,ht',hi0',h1,hf69,hx2,sameAt_succ]
           repeat' (first|intro _|apply And.intro|(unfold dOk;kernel_rfl)|exact St.beq_refl _|(show altO _ _ _ _=true;kernel_rfl)|(show (_ || _)=true;kernel_rfl)|(show (_ && _)=true;kernel_rfl))
           all_goals (refine hprep s2 [_,_] _ ?_;rfl)
        ·rw[if_neg (by simp[h1])]
         simp +contextual (disch:=omega) only[Try.f55,dd55,go_sem,↓reduceIte,List.reduceReplicate,Nat.reduceAdd,Nat.reduceSub,reduceCtorEq,Nat.reduceLeDiff,Nat.reduceMul,Nat.reduceLT,Nat.reduceEqDiff,Int.reduceBNe,Int.reduceBEq,Int.reduceEq,Int.reduceLT,Int.reduceLE,Int.reduceGT,Int.reduceGE,List.length_append,List.map_append,mu55,Nat.reduceBEq,↓wrap_up,↓wrap_down,↓wrap_pred,↓wrap_sub_nat,Int.reduceToNat,ht',hi0',h1,sameAt_succ]
         repeat' (first|intro _|apply And.intro|(unfold dOk;kernel_rfl)|exact St.beq_refl _|(show altO _ _ _ _=true;kernel_rfl)|(show (_ || _)=true;kernel_rfl)|(show (_ && _)=true;kernel_rfl))
         all_goals (refine hprep s2 [_,_] _ ?_;rfl)
       ·intro _
        rw[List.take_of_length_le (Nat.le_refl _)]
        obtain⟨w1,w2⟩:=vs_stepT g.ins (a+1) (g.ins.length+1) x s1.ts ⟨[],s1.m,false,E⟩ k3
        rw[kf]at w1
        have w3:=(vs0_ok g.ins.length).visits (ins:=g.ins) (k:=g.ins.length+1) (ns:=afterL g.ins (s1.ts.map (·.1)) x)
        rw[← w1]at w3
        have w4:(⟨[],s1.m,false,E⟩:PS).Ok (2 * c) (a+1):=⟨fun t h=>(by cases h),fun y hy=>by have:=k2.marks y hy;omega⟩
        have w5:=w4.stepT (k:=g.ins.length+1) (x:=x) (fun i hi h=>(hsv i hi).1 h) (ts:=s1.ts) (fun t ht=>k2.regs t ht)
        have w6:(stepT g.ins (a+1) (g.ins.length+1) x s1.ts ⟨[],s1.m,false,E⟩).ts.map (·.1)=nextL g.ins (s1.ts.map (·.1)) x:=by
         show (PS.vs (a+1) _).r=_
         rw[w1];rfl
        generalize stepT g.ins (a+1) (g.ins.length+1) x s1.ts ⟨[],s1.m,false,E⟩=s3 at *
        simp +contextual (disch:=omega) only[Try.f55,dd55,go_sem,↓reduceIte,List.reduceReplicate,Nat.reduceAdd,Nat.reduceSub,reduceCtorEq,Nat.reduceLeDiff,Nat.reduceMul,Nat.reduceLT,Nat.reduceEqDiff,Int.reduceBNe,Int.reduceBEq,Int.reduceEq,Int.reduceLT,Int.reduceLE,Int.reduceGT,Int.reduceGE,List.length_append,List.map_append,mu55,Nat.reduceBEq,↓wrap_up,↓wrap_down,↓wrap_pred,↓wrap_sub_nat,Int.reduceToNat]
        refine⟨⟨a+1,false,b7',b8',s1.ts++s1.j,s3,s1.ts.length,s1.c,false,if doneL g.ins (s1.ts.map (·.1))=true then(a:Int) else r⟩,⟨by show a≤a+1;omega,by show a+1≤xs.length;omega,w2,by show s1.ts.length≤(s1.ts++s1.j).length;simp,hres',fun h=>(by cases h),fun _=>⟨by show a < a+1;omega,w3.1,w5,?_⟩⟩,by show xs.length+1 - (a+1) < xs.length+1 - a;omega,?_⟩
        ·show runL g.ins (xs.drop (a+1)) (a+1) (s3.ts.map (·.1)) _=_
         rw[w6];exact hrun _ k4
        ·refine(prep16 (l:=[14,13,12,11,10,8,4,3,2,1]) (t':=[(14,.rf 15 1 0 0),(13,.rf 14 1 0 0),(12,.bool s1.c),(11,.ms 12 3 (s1.ts.length+s1.j.length) 0 s1.ts.length),(10,.rf 11 1 0 0),(8,.sl false (List.replicate (2 * c) (I (-1)))),(4,.rf 9 1 0 0),(3,.clo 56 capS),(2,NV a),(1,NV (a+1))]) (h:=hpB ⟨g,xs,a,b0,b1,b2,b6,b7',b8',.row 1 (List.replicate (2 * c) (I (-1))) (2 * c),s1.ts++s1.j⟩ s3 []) (h':=hpB ⟨g,xs,a,b0,b1,b2,b6,b7',b8',.row 1 (List.replicate (2 * c) (I (-1))) (2 * c),s1.ts++s1.j⟩ s3 []) rfl rfl (headU _ _ _ _ (id:=12) (by omega) _ _) (underB _ _ u0 u1 u2 u6 u7' u8' (u10 c))).trans ?_
         simp only[List.length_append,Bool.false_eq_true,if_false]
         try rfl
       ·have hu:=underB ⟨g,xs,a,b0,b1,b2,b6,b7',b8',.row 1 (List.replicate (2 * c) (I (-1))) (2 * c),s1.ts++s1.j⟩ ⟨[],s1.m,false,E⟩ u0 u1 u2 u6 u7' u8' (u10 c)
        have e0:stepT g.ins (a+1) (g.ins.length+1) x (s1.ts.take 0) ⟨[],s1.m,false,E⟩=⟨[],s1.m,false,E⟩:=by rw[List.take_zero];rfl
        rw[e0]
        simp only[hpB,List.map_append,List.length_nil,Nat.zero_add,List.map_nil,List.nil_append]at hu ⊢
        exact prep16 (l:=[91,90,89,14,13,12,11,10,8,4,3,2,1]) (t':=[(91,NV 0),(90,NV s1.ts.length),(89,.ms 12 3 (s1.ts.length+s1.j.length) 0 s1.ts.length),(14,.rf 15 1 0 0),(13,.rf 14 1 0 0),(12,.bool s1.c),(11,.ms 12 3 (s1.ts.length+s1.j.length) 0 s1.ts.length),(10,.rf 11 1 0 0),(8,.sl false (List.replicate (2 * c) (I (-1)))),(4,.rf 9 1 0 0),(3,.clo 56 capS),(2,NV a),(1,NV a)]) rfl rfl (innerU _ _ _ _ (by omega) _ _ _ _) hu
     | false=>
       cases fd with
       | true=>
         obtain⟨q0,k1,k2,k4⟩:=h2 rfl
         have k3:=hm
         obtain⟨s1,hs1⟩:∃ s1,s1=s:=⟨s,rfl⟩
         rw[← hs1]at k1 k2 k3 k4
         rw[← hs1]
         obtain⟨b7',b8',hse,hre⟩:=seeF_eq ⟨g,xs,a,b0,b1,b2,b6,b7,b8,.row 1 (List.replicate (2 * c) (I (-1))) (2 * c),E⟩ c p s1
         have hres':=hre a r rfl hres
         simp only at hse hres'
         obtain⟨u7',u8'⟩:=hres'.under
         have hc56:=f56A ⟨g,xs,a,b0,b1,b2,b6,b7,b8,.row 1 (List.replicate (2 * c) (I (-1))) (2 * c),E⟩ (by show g.ins.length≤_;omega) c p hc hc9 s1 (by have:=k1.small;simp[PS.vs]at this;omega) (fun t ht=>⟨(k1.res t.1 (List.mem_map.2 ⟨_,ht,rfl⟩)).1,k2.regs t ht⟩) r4 r1 r2 r3 e7 e8
         rw[hse]at hc56
         have kf:(⟨[],s1.m,false,E⟩:PS).vs (p+1)=vs0 g.ins.length:=vs_fresh k3 (fun y hy=>k2.marks y hy) rfl rfl
         by_cases hnil:s1.ts=[]
         ·have hlen0:s1.ts.length=0:=by rw[hnil];rfl
          have hfin:ResOk a (runL g.ins (xs.drop a) a (stateL g.ins [0]) (-1)) b7' b8':=by
           rw[← k4,hnil]
           rw[hnil]at hres'
           simpa [runL_nil,doneL] using hres'
          simp +contextual (disch:=omega) only[Try.f55,dd55,go_sem,↓reduceIte,List.reduceReplicate,Nat.reduceAdd,Nat.reduceSub,reduceCtorEq,Nat.reduceLeDiff,Nat.reduceMul,Nat.reduceLT,Nat.reduceEqDiff,Int.reduceBNe,Int.reduceBEq,Int.reduceEq,Int.reduceLT,Int.reduceLE,Int.reduceGT,Int.reduceGE,List.length_append,List.map_append,mu55,Nat.reduceBEq,↓wrap_up,↓wrap_down,↓wrap_pred,↓wrap_sub_nat,Int.reduceToNat,hc56]
          repeat' (first|intro _|apply And.intro)
          all_goals first|exact⟨_,⟨s1.m,_,b7',b8',rfl,hfin⟩,rp _ _ _⟩|(exfalso;omega)
         have hlen1:0 < s1.ts.length:=List.length_pos_iff.2 hnil
         have hL:s1.ts.map (·.1)≠[]:=by simpa using hnil
         by_cases hend:p=xs.length
         ·have hfin:ResOk a (runL g.ins (xs.drop a) a (stateL g.ins [0]) (-1)) b7' b8':=by
           rw[← k4,hend,List.drop_length]
           simp only[runL,if_neg hL]
           rw[hend]at hres'
           exact hres'
          simp +contextual (disch:=omega) only[Try.f55,dd55,go_sem,↓reduceIte,List.reduceReplicate,Nat.reduceAdd,Nat.reduceSub,reduceCtorEq,Nat.reduceLeDiff,Nat.reduceMul,Nat.reduceLT,Nat.reduceEqDiff,Int.reduceBNe,Int.reduceBEq,Int.reduceEq,Int.reduceLT,Int.reduceLE,Int.reduceGT,Int.reduceGE,List.length_append,List.map_append,mu55,Nat.reduceBEq,↓wrap_up,↓wrap_down,↓wrap_pred,↓wrap_sub_nat,Int.reduceToNat,hc56]
          repeat' (first|intro _|apply And.intro)
          all_goals first|exact⟨_,⟨s1.m,_,b7',b8',rfl,hfin⟩,rp _ _ _⟩|(exfalso;omega)
         obtain⟨x,hx1⟩:∃ x,xs[p]?=some x:=⟨_,List.getElem?_eq_getElem (by omega)⟩
         have hx2:(xs.map I)[p]?=some (I x):=by simp[hx1]
         have hdrop:xs.drop p=x::xs.drop (p+1):=by
          rw[List.drop_eq_getElem_cons (by omega)]
          congr 1
          rw[List.getElem?_eq_getElem (by omega)]at hx1
          exact Option.some.inj hx1
         have hrun:∀ tg:Int,runL g.ins (xs.drop p) p (s1.ts.map (·.1)) r=tg→runL g.ins (xs.drop (p+1)) (p+1) (nextL g.ins (s1.ts.map (·.1)) x) (if doneL g.ins (s1.ts.map (·.1))=true then(p:Int) else r)=tg:=by
          intro tg h
          rw[hdrop]at h
          simpa only[runL,if_neg hL] using h
         simp +contextual (disch:=omega) only[Try.f55,dd55,go_sem,↓reduceIte,List.reduceReplicate,Nat.reduceAdd,Nat.reduceSub,reduceCtorEq,Nat.reduceLeDiff,Nat.reduceMul,Nat.reduceLT,Nat.reduceEqDiff,Int.reduceBNe,Int.reduceBEq,Int.reduceEq,Int.reduceLT,Int.reduceLE,Int.reduceGT,Int.reduceGE,List.length_append,List.map_append,mu55,Nat.reduceBEq,↓wrap_up,↓wrap_down,↓wrap_pred,↓wrap_sub_nat,Int.reduceToNat,hc56]
         repeat' (first|intro _|apply And.intro|(unfold dOk;kernel_rfl)|exact St.beq_refl _|(show altO _ _ _ _=true;kernel_rfl)|(show (_ || _)=true;kernel_rfl)|(show (_ && _)=true;kernel_rfl))
         refine W_count (M:=(mskOf (pol1.mask 55) (pol1.gc 55) (pol1.acts 55) 9 20)) rfl s1.ts.length (fun i=>(⟨131,[(91,NV i),(90,NV s1.ts.length),(89,.ms 12 3 (s1.ts.length+s1.j.length) 0 s1.ts.length),(14,.rf 15 1 0 0),(13,.rf 14 1 0 0),(12,.bool true),(11,.ms 12 3 (s1.ts.length+s1.j.length) 0 s1.ts.length),(10,.rf 11 1 0 0),(8,.sl false (List.replicate (2 * c) (I (-1)))),(4,.rf 9 1 0 0),(3,.clo 56 capS),(2,NV a),(1,NV p)],hpB ⟨g,xs,a,b0,b1,b2,b6,b7',b8',.row 1 (List.replicate (2 * c) (I (-1))) (2 * c),s1.ts++s1.j⟩ (stepT g.ins (p+1) (g.ins.length+1) x (s1.ts.take i) ⟨[],s1.m,false,E⟩) []⟩:St)) (fun _=>True) ?_ ?_ trivial _ ?_
         ·intro i hi _
          obtain⟨t,ht⟩:∃ t,s1.ts[i]?=some t:=⟨_,List.getElem?_eq_getElem hi⟩
          obtain⟨n1,rg⟩:=t
          have hib:i≤1000000:=by have:=k1.small;simp[PS.vs]at this;omega
          have ht':(s1.ts.map (thAV a)++s1.j.map (thAV a))[i]?=some (thAV a (n1,rg)):=by rw[List.getElem?_append_left (by simpa using hi),List.getElem?_map,ht];rfl
          have htm:=List.mem_of_getElem? ht
          have hn1:n1 < g.ins.length:=(k1.res n1 (List.mem_map.2 ⟨_,htm,rfl⟩)).1
          have hrg:rg.length=2 * c:=k2.regs _ htm
          obtain⟨i0,hi0⟩:∃ i0,g.ins[n1]?=some i0:=⟨_,List.getElem?_eq_getElem hn1⟩
          have hi0':(g.ins.map insAV)[n1]?=some (insAV i0):=by simp[hi0]
          have hnx:stepT g.ins (p+1) (g.ins.length+1) x (s1.ts.take (i+1)) ⟨[],s1.m,false,E⟩=stepO g.ins (p+1) (g.ins.length+1) x (n1,rg) (stepT g.ins (p+1) (g.ins.length+1) x (s1.ts.take i) ⟨[],s1.m,false,E⟩):=by
           rw[List.take_add_one,ht];exact stepT_snoc _ _ _ _ _ _ _
          obtain⟨w1,w2⟩:=vs_stepT g.ins (p+1) (g.ins.length+1) x (s1.ts.take i) ⟨[],s1.m,false,E⟩ k3
          rw[kf]at w1
          have w3:=(vs0_ok g.ins.length).visits (ins:=g.ins) (k:=g.ins.length+1) (ns:=afterL g.ins ((s1.ts.take i).map (·.1)) x)
          rw[← w1,vs0_open]at w3
          have hf69:=f69h i0.set x (hset i0 (List.mem_of_getElem? hi0))
          have hc67:n1+1 < g.ins.length→∀ s',s'.m.length=g.ins.length→(s'.vs (p+1)).Ok g.ins.length→(s'.vs (p+1)).open≤g.ins.length→∀ K,call Try.prog pol1 67 (NV (n1+1)::NV (p+1)::I (a:Nat)::.sl false (rg.map I)::capP) (hpB ⟨g,xs,a,b0,b1,b2,b6,b7',b8',.row 1 (List.replicate (2 * c) (I (-1))) (2 * c),s1.ts++s1.j⟩ s' K)=some (.tup [],hpB ⟨g,xs,a,b0,b1,b2,b6,b7',b8',.row 1 (List.replicate (2 * c) (I (-1))) (2 * c),s1.ts++s1.j⟩ (pvisit g.ins (p+1) (g.ins.length+1) (n1+1) rg s') K):=
           fun h s' a1 a2 a3 K=>f67B ⟨g,xs,a,b0,b1,b2,b6,b7',b8',.row 1 (List.replicate (2 * c) (I (-1))) (2 * c),s1.ts++s1.j⟩ (by show g.ins.length≤_;omega) hw (p+1) (by omega) (2 * c) (by omega) hsv (g.ins.length+1) (n1+1) rg s' K h hrg a1 a2 (by omega)
          have hprep:∀(s':PS) (J:List MB) (t:Tm),keepT (some [91,90,89,14,13,12,11,10,8,4,3,2,1]) t=[(91,NV (i+1)),(90,NV s1.ts.length),(89,.ms 12 3 (s1.ts.length+s1.j.length) 0 s1.ts.length),(14,.rf 15 1 0 0),(13,.rf 14 1 0 0),(12,.bool true),(11,.ms 12 3 (s1.ts.length+s1.j.length) 0 s1.ts.length),(10,.rf 11 1 0 0),(8,.sl false (List.replicate (2 * c) (I (-1)))),(4,.rf 9 1 0 0),(3,.clo 56 capS),(2,NV a),(1,NV p)]→prep (mskOf (pol1.mask 55) (pol1.gc 55) (pol1.acts 55) 9 20) ⟨131,t,(b0::b1::b2::.row 1 (s'.m.map I) 0::.row 5 [mach g xs] 0::.row 1 [.rf 4 1 0 0] 0::b6::b7'::b8'::.row 1 [.rf 4 1 0 0] 0::.row 1 (List.replicate (2 * c) (I (-1))) (2 * c)::.row 1 [.ms 13 3 (s'.ts.length+s'.j.length) 0 s'.ts.length] 0::.row 3 (s1.ts.map (thAV a)++s1.j.map (thAV a)) 0::.row 3 (s'.ts.map (thAV a)++s'.j.map (thAV a)) 0::.row 1 [.bool s'.c] 0::.row 1 [.clo 67 capP] 0::J)⟩=⟨131,[(91,NV (i+1)),(90,NV s1.ts.length),(89,.ms 12 3 (s1.ts.length+s1.j.length) 0 s1.ts.length),(14,.rf 15 1 0 0),(13,.rf 14 1 0 0),(12,.bool true),(11,.ms 12 3 (s1.ts.length+s1.j.length) 0 s1.ts.length),(10,.rf 11 1 0 0),(8,.sl false (List.replicate (2 * c) (I (-1)))),(4,.rf 9 1 0 0),(3,.clo 56 capS),(2,NV a),(1,NV p)],hpB ⟨g,xs,a,b0,b1,b2,b6,b7',b8',.row 1 (List.replicate (2 * c) (I (-1))) (2 * c),s1.ts++s1.j⟩ s' []⟩:=by
           intro s' J t e1
           have e2:(b0::b1::b2::.row 1 (s'.m.map I) 0::.row 5 [mach g xs] 0::.row 1 [.rf 4 1 0 0] 0::b6::b7'::b8'::.row 1 [.rf 4 1 0 0] 0::.row 1 (List.replicate (2 * c) (I (-1))) (2 * c)::.row 1 [.ms 13 3 (s'.ts.length+s'.j.length) 0 s'.ts.length] 0::.row 3 (s1.ts.map (thAV a)++s1.j.map (thAV a)) 0::.row 3 (s'.ts.map (thAV a)++s'.j.map (thAV a)) 0::.row 1 [.bool s'.c] 0::.row 1 [.clo 67 capP] 0::J)=hpB ⟨g,xs,a,b0,b1,b2,b6,b7',b8',.row 1 (List.replicate (2 * c) (I (-1))) (2 * c),s1.ts++s1.j⟩ s' J:=by simp only[hpB,List.map_append]
           rw[e2]
           exact prep16 (l:=[91,90,89,14,13,12,11,10,8,4,3,2,1]) e1 rfl (innerU _ _ _ _ (by omega) _ _ _ _) (underB _ _ u0 u1 u2 u6 u7' u8' (u10 c))
          have h01:stepO g.ins (p+1) (g.ins.length+1) x (n1,rg) (stepT g.ins (p+1) (g.ins.length+1) x (s1.ts.take i) ⟨[],s1.m,false,E⟩)=(if i0.op=1∧hasSpan i0.set x=true then pvisit g.ins (p+1) (g.ins.length+1) (n1+1) rg (stepT g.ins (p+1) (g.ins.length+1) x (s1.ts.take i) ⟨[],s1.m,false,E⟩) else stepT g.ins (p+1) (g.ins.length+1) x (s1.ts.take i) ⟨[],s1.m,false,E⟩):=by
           unfold stepO;rw[hi0]
          rw[hnx,h01]
          generalize stepT g.ins (p+1) (g.ins.length+1) x (s1.ts.take i) ⟨[],s1.m,false,E⟩=s2 at *
          by_cases h1:i0.op=1
          ·cases h2:hasSpan i0.set x with
           | true=>
             rw[if_pos ⟨h1,rfl⟩]
             rw[h2]at hf69
             have hc:=fun J1 J2=>hc67 ((hw n1 i0 hi0).2.2.2 (.inl h1)) s2 w2 w3.1 w3.2 [J1,J2]
             simp only[hpB,List.map_append]at hc
             simp +contextual (disch:=omega) only[Try.f55,dd55,go_sem,↓reduceIte,List.reduceReplicate,Nat.reduceAdd,Nat.reduceSub,reduceCtorEq,Nat.reduceLeDiff,Nat.reduceMul,Nat.reduceLT,Nat.reduceEqDiff,Int.reduceBNe,Int.reduceBEq,Int.reduceEq,Int.reduceLT,Int.reduceLE,Int.reduceGT,Int.reduceGE,List.length_append,List.map_append,mu55,Nat.reduceBEq,↓wrap_up,↓wrap_down,↓wrap_pred,↓wrap_sub_nat,Int.reduceToNat,ht',hi0',h1,hf69,hx2,hc,sameAt_succ]
             repeat' (first|intro _|apply And.intro|(unfold dOk;kernel_rfl)|exact St.beq_refl _|(show altO _ _ _ _=true;kernel_rfl)|(show (_ || _)=true;kernel_rfl)|(show (_ && _)=true;kernel_rfl))
             all_goals (refine hprep (pvisit g.ins (p+1) (g.ins.length+1) (n1+1) rg s2) [_,_] _ ?_;rfl)
           | false=>
             rw[if_neg (by simp)]
             rw[h2]at hf69
             simp +contextual (disch:=omega) only[Try.f55,dd55,go_sem,↓reduceIte,List.reduceReplicate,Nat.reduceAdd,Nat.reduceSub,reduceCtorEq,Nat.reduceLeDiff,Nat.reduceMul,Nat.reduceLT,Nat.reduceEqDiff,Int.reduceBNe,Int.reduceBEq,Int.reduceEq,Int.reduceLT,Int.reduceLE,Int.reduceGT,Int.reduceGE,List.length_append,List.map_append,mu55,Nat.reduceBEq,↓wrap_up,↓wrap_down,↓wrap_pred,↓wrap_sub_nat,Int.reduceToNat,ht',hi0',h1,hf69,hx2,sameAt_succ]
             repeat' (first|intro _|apply And.intro|(unfold dOk;kernel_rfl)|exact St.beq_refl _|(show altO _ _ _ _=true;kernel_rfl)|(show (_ || _)=true;kernel_rfl)|(show (_ && _)=true;kernel_rfl))
             all_goals (refine hprep s2 [_,_] _ ?_;rfl)
          ·rw[if_neg (by simp[h1])]
           simp +contextual (disch:=omega) only[Try.f55,dd55,go_sem,↓reduceIte,List.reduceReplicate,Nat.reduceAdd,Nat.reduceSub,reduceCtorEq,Nat.reduceLeDiff,Nat.reduceMul,Nat.reduceLT,Nat.reduceEqDiff,Int.reduceBNe,Int.reduceBEq,Int.reduceEq,Int.reduceLT,Int.reduceLE,Int.reduceGT,Int.reduceGE,List.length_append,List.map_append,mu55,Nat.reduceBEq,↓wrap_up,↓wrap_down,↓wrap_pred,↓wrap_sub_nat,Int.reduceToNat,ht',hi0',h1,sameAt_succ]
           repeat' (first|intro _|apply And.intro|(unfold dOk;kernel_rfl)|exact St.beq_refl _|(show altO _ _ _ _=true;kernel_rfl)|(show (_ || _)=true;kernel_rfl)|(show (_ && _)=true;kernel_rfl))
           all_goals (refine hprep s2 [_,_] _ ?_;rfl)
         ·intro _
          rw[List.take_of_length_le (Nat.le_refl _)]
          obtain⟨w1,w2⟩:=vs_stepT g.ins (p+1) (g.ins.length+1) x s1.ts ⟨[],s1.m,false,E⟩ k3
          rw[kf]at w1
          have w3:=(vs0_ok g.ins.length).visits (ins:=g.ins) (k:=g.ins.length+1) (ns:=afterL g.ins (s1.ts.map (·.1)) x)
          rw[← w1]at w3
          have w4:(⟨[],s1.m,false,E⟩:PS).Ok (2 * c) (p+1):=⟨fun t h=>(by cases h),fun y hy=>by have:=k2.marks y hy;omega⟩
          have w5:=w4.stepT (k:=g.ins.length+1) (x:=x) (fun i hi h=>(hsv i hi).1 h) (ts:=s1.ts) (fun t ht=>k2.regs t ht)
          have w6:(stepT g.ins (p+1) (g.ins.length+1) x s1.ts ⟨[],s1.m,false,E⟩).ts.map (·.1)=nextL g.ins (s1.ts.map (·.1)) x:=by
           show (PS.vs (p+1) _).r=_
           rw[w1];rfl
          generalize stepT g.ins (p+1) (g.ins.length+1) x s1.ts ⟨[],s1.m,false,E⟩=s3 at *
          simp +contextual (disch:=omega) only[Try.f55,dd55,go_sem,↓reduceIte,List.reduceReplicate,Nat.reduceAdd,Nat.reduceSub,reduceCtorEq,Nat.reduceLeDiff,Nat.reduceMul,Nat.reduceLT,Nat.reduceEqDiff,Int.reduceBNe,Int.reduceBEq,Int.reduceEq,Int.reduceLT,Int.reduceLE,Int.reduceGT,Int.reduceGE,List.length_append,List.map_append,mu55,Nat.reduceBEq,↓wrap_up,↓wrap_down,↓wrap_pred,↓wrap_sub_nat,Int.reduceToNat]
          refine⟨⟨p+1,false,b7',b8',s1.ts++s1.j,s3,s1.ts.length,true,false,if doneL g.ins (s1.ts.map (·.1))=true then(p:Int) else r⟩,⟨by show a≤p+1;omega,by show p+1≤xs.length;omega,w2,by show s1.ts.length≤(s1.ts++s1.j).length;simp,hres',fun h=>(by cases h),fun _=>⟨by show a < p+1;omega,w3.1,w5,?_⟩⟩,by show xs.length+1 - (p+1) < xs.length+1 - p;omega,?_⟩
          ·show runL g.ins (xs.drop (p+1)) (p+1) (s3.ts.map (·.1)) _=_
           rw[w6];exact hrun _ k4
          ·refine(prep16 (l:=[14,13,12,11,10,8,4,3,2,1]) (t':=[(14,.rf 15 1 0 0),(13,.rf 14 1 0 0),(12,.bool true),(11,.ms 12 3 (s1.ts.length+s1.j.length) 0 s1.ts.length),(10,.rf 11 1 0 0),(8,.sl false (List.replicate (2 * c) (I (-1)))),(4,.rf 9 1 0 0),(3,.clo 56 capS),(2,NV a),(1,NV (p+1))]) (h:=hpB ⟨g,xs,a,b0,b1,b2,b6,b7',b8',.row 1 (List.replicate (2 * c) (I (-1))) (2 * c),s1.ts++s1.j⟩ s3 []) (h':=hpB ⟨g,xs,a,b0,b1,b2,b6,b7',b8',.row 1 (List.replicate (2 * c) (I (-1))) (2 * c),s1.ts++s1.j⟩ s3 []) rfl rfl (headU _ _ _ _ (id:=12) (by omega) _ _) (underB _ _ u0 u1 u2 u6 u7' u8' (u10 c))).trans ?_
           simp only[List.length_append,Bool.false_eq_true,if_false]
           try rfl
         ·have hu:=underB ⟨g,xs,a,b0,b1,b2,b6,b7',b8',.row 1 (List.replicate (2 * c) (I (-1))) (2 * c),s1.ts++s1.j⟩ ⟨[],s1.m,false,E⟩ u0 u1 u2 u6 u7' u8' (u10 c)
          have e0:stepT g.ins (p+1) (g.ins.length+1) x (s1.ts.take 0) ⟨[],s1.m,false,E⟩=⟨[],s1.m,false,E⟩:=by rw[List.take_zero];rfl
          rw[e0]
          simp only[hpB,List.map_append,List.length_nil,Nat.zero_add,List.map_nil,List.nil_append]at hu ⊢
          exact prep16 (l:=[91,90,89,14,13,12,11,10,8,4,3,2,1]) (t':=[(91,NV 0),(90,NV s1.ts.length),(89,.ms 12 3 (s1.ts.length+s1.j.length) 0 s1.ts.length),(14,.rf 15 1 0 0),(13,.rf 14 1 0 0),(12,.bool true),(11,.ms 12 3 (s1.ts.length+s1.j.length) 0 s1.ts.length),(10,.rf 11 1 0 0),(8,.sl false (List.replicate (2 * c) (I (-1)))),(4,.rf 9 1 0 0),(3,.clo 56 capS),(2,NV a),(1,NV p)]) rfl rfl (innerU _ _ _ _ (by omega) _ _ _ _) hu
       | false=>
         obtain⟨q0,k1,k2,k4⟩:=h2 rfl
         have k3:=hm
         obtain⟨s1,hs1⟩:∃ s1,s1=s:=⟨s,rfl⟩
         rw[← hs1]at k1 k2 k3 k4
         rw[← hs1]
         obtain⟨b7',b8',hse,hre⟩:=seeF_eq ⟨g,xs,a,b0,b1,b2,b6,b7,b8,.row 1 (List.replicate (2 * c) (I (-1))) (2 * c),E⟩ c p s1
         have hres':=hre a r rfl hres
         simp only at hse hres'
         obtain⟨u7',u8'⟩:=hres'.under
         have hc56:=f56A ⟨g,xs,a,b0,b1,b2,b6,b7,b8,.row 1 (List.replicate (2 * c) (I (-1))) (2 * c),E⟩ (by show g.ins.length≤_;omega) c p hc hc9 s1 (by have:=k1.small;simp[PS.vs]at this;omega) (fun t ht=>⟨(k1.res t.1 (List.mem_map.2 ⟨_,ht,rfl⟩)).1,k2.regs t ht⟩) r4 r1 r2 r3 e7 e8
         rw[hse]at hc56
         have kf:(⟨[],s1.m,false,E⟩:PS).vs (p+1)=vs0 g.ins.length:=vs_fresh k3 (fun y hy=>k2.marks y hy) rfl rfl
         by_cases hnil:s1.ts=[]
         ·have hlen0:s1.ts.length=0:=by rw[hnil];rfl
          have hfin:ResOk a (runL g.ins (xs.drop a) a (stateL g.ins [0]) (-1)) b7' b8':=by
           rw[← k4,hnil]
           rw[hnil]at hres'
           simpa [runL_nil,doneL] using hres'
          rcases s1 with ⟨ts1,m1,c1,j1⟩
          simp only at hlen0
          simp only[hpA]at hc56
          cases c1 with
          | true=>
            simp +contextual (disch:=omega) only[Try.f55,dd55,go_sem,↓reduceIte,List.reduceReplicate,Nat.reduceAdd,Nat.reduceSub,reduceCtorEq,Nat.reduceLeDiff,Nat.reduceMul,Nat.reduceLT,Nat.reduceEqDiff,Int.reduceBNe,Int.reduceBEq,Int.reduceEq,Int.reduceLT,Int.reduceLE,Int.reduceGT,Int.reduceGE,List.length_append,List.map_append,mu55,Nat.reduceBEq,↓wrap_up,↓wrap_down,↓wrap_pred,↓wrap_sub_nat,Int.reduceToNat,hc56]
            repeat' (first|intro _|apply And.intro)
            all_goals first|exact⟨_,⟨m1,_,b7',b8',rfl,hfin⟩,rp _ _ _⟩|(exfalso;omega)
          | false=>
            simp +contextual (disch:=omega) only[Try.f55,dd55,go_sem,↓reduceIte,List.reduceReplicate,Nat.reduceAdd,Nat.reduceSub,reduceCtorEq,Nat.reduceLeDiff,Nat.reduceMul,Nat.reduceLT,Nat.reduceEqDiff,Int.reduceBNe,Int.reduceBEq,Int.reduceEq,Int.reduceLT,Int.reduceLE,Int.reduceGT,Int.reduceGE,List.length_append,List.map_append,mu55,Nat.reduceBEq,↓wrap_up,↓wrap_down,↓wrap_pred,↓wrap_sub_nat,Int.reduceToNat,hc56]
            repeat' (first|intro _|apply And.intro)
            all_goals first|exact⟨_,⟨m1,_,b7',b8',rfl,hfin⟩,rp _ _ _⟩|(exfalso;omega)
         have hlen1:0 < s1.ts.length:=List.length_pos_iff.2 hnil
         have hL:s1.ts.map (·.1)≠[]:=by simpa using hnil
         by_cases hend:p=xs.length
         ·have hfin:ResOk a (runL g.ins (xs.drop a) a (stateL g.ins [0]) (-1)) b7' b8':=by
           rw[← k4,hend,List.drop_length]
           simp only[runL,if_neg hL]
           rw[hend]at hres'
           exact hres'
          simp +contextual (disch:=omega) only[Try.f55,dd55,go_sem,↓reduceIte,List.reduceReplicate,Nat.reduceAdd,Nat.reduceSub,reduceCtorEq,Nat.reduceLeDiff,Nat.reduceMul,Nat.reduceLT,Nat.reduceEqDiff,Int.reduceBNe,Int.reduceBEq,Int.reduceEq,Int.reduceLT,Int.reduceLE,Int.reduceGT,Int.reduceGE,List.length_append,List.map_append,mu55,Nat.reduceBEq,↓wrap_up,↓wrap_down,↓wrap_pred,↓wrap_sub_nat,Int.reduceToNat,hc56]
          repeat' (first|intro _|apply And.intro)
          all_goals first|exact⟨_,⟨s1.m,_,b7',b8',rfl,hfin⟩,rp _ _ _⟩|(exfalso;omega)
         obtain⟨x,hx1⟩:∃ x,xs[p]?=some x:=⟨_,List.getElem?_eq_getElem (by omega)⟩
         have hx2:(xs.map I)[p]?=some (I x):=by simp[hx1]
         have hdrop:xs.drop p=x::xs.drop (p+1):=by
          rw[List.drop_eq_getElem_cons (by omega)]
          congr 1
          rw[List.getElem?_eq_getElem (by omega)]at hx1
          exact Option.some.inj hx1
         have hrun:∀ tg:Int,runL g.ins (xs.drop p) p (s1.ts.map (·.1)) r=tg→runL g.ins (xs.drop (p+1)) (p+1) (nextL g.ins (s1.ts.map (·.1)) x) (if doneL g.ins (s1.ts.map (·.1))=true then(p:Int) else r)=tg:=by
          intro tg h
          rw[hdrop]at h
          simpa only[runL,if_neg hL] using h
         simp +contextual (disch:=omega) only[Try.f55,dd55,go_sem,↓reduceIte,List.reduceReplicate,Nat.reduceAdd,Nat.reduceSub,reduceCtorEq,Nat.reduceLeDiff,Nat.reduceMul,Nat.reduceLT,Nat.reduceEqDiff,Int.reduceBNe,Int.reduceBEq,Int.reduceEq,Int.reduceLT,Int.reduceLE,Int.reduceGT,Int.reduceGE,List.length_append,List.map_append,mu55,Nat.reduceBEq,↓wrap_up,↓wrap_down,↓wrap_pred,↓wrap_sub_nat,Int.reduceToNat,hc56]
         repeat' (first|intro _|apply And.intro|(unfold dOk;kernel_rfl)|exact St.beq_refl _|(show altO _ _ _ _=true;kernel_rfl)|(show (_ || _)=true;kernel_rfl)|(show (_ && _)=true;kernel_rfl))
         refine W_count (M:=(mskOf (pol1.mask 55) (pol1.gc 55) (pol1.acts 55) 9 20)) rfl s1.ts.length (fun i=>(⟨131,[(91,NV i),(90,NV s1.ts.length),(89,.ms 12 3 (s1.ts.length+s1.j.length) 0 s1.ts.length),(14,.rf 15 1 0 0),(13,.rf 14 1 0 0),(12,.bool s1.c),(11,.ms 12 3 (s1.ts.length+s1.j.length) 0 s1.ts.length),(10,.rf 11 1 0 0),(8,.sl false (List.replicate (2 * c) (I (-1)))),(4,.rf 9 1 0 0),(3,.clo 56 capS),(2,NV a),(1,NV p)],hpB ⟨g,xs,a,b0,b1,b2,b6,b7',b8',.row 1 (List.replicate (2 * c) (I (-1))) (2 * c),s1.ts++s1.j⟩ (stepT g.ins (p+1) (g.ins.length+1) x (s1.ts.take i) ⟨[],s1.m,false,E⟩) []⟩:St)) (fun _=>True) ?_ ?_ trivial _ ?_
         ·intro i hi _
          obtain⟨t,ht⟩:∃ t,s1.ts[i]?=some t:=⟨_,List.getElem?_eq_getElem hi⟩
          obtain⟨n1,rg⟩:=t
          have hib:i≤1000000:=by have:=k1.small;simp[PS.vs]at this;omega
          have ht':(s1.ts.map (thAV a)++s1.j.map (thAV a))[i]?=some (thAV a (n1,rg)):=by rw[List.getElem?_append_left (by simpa using hi),List.getElem?_map,ht];rfl
          have htm:=List.mem_of_getElem? ht
          have hn1:n1 < g.ins.length:=(k1.res n1 (List.mem_map.2 ⟨_,htm,rfl⟩)).1
          have hrg:rg.length=2 * c:=k2.regs _ htm
          obtain⟨i0,hi0⟩:∃ i0,g.ins[n1]?=some i0:=⟨_,List.getElem?_eq_getElem hn1⟩
          have hi0':(g.ins.map insAV)[n1]?=some (insAV i0):=by simp[hi0]
          have hnx:stepT g.ins (p+1) (g.ins.length+1) x (s1.ts.take (i+1)) ⟨[],s1.m,false,E⟩=stepO g.ins (p+1) (g.ins.length+1) x (n1,rg) (stepT g.ins (p+1) (g.ins.length+1) x (s1.ts.take i) ⟨[],s1.m,false,E⟩):=by
           rw[List.take_add_one,ht];exact stepT_snoc _ _ _ _ _ _ _
          obtain⟨w1,w2⟩:=vs_stepT g.ins (p+1) (g.ins.length+1) x (s1.ts.take i) ⟨[],s1.m,false,E⟩ k3
          rw[kf]at w1
          have w3:=(vs0_ok g.ins.length).visits (ins:=g.ins) (k:=g.ins.length+1) (ns:=afterL g.ins ((s1.ts.take i).map (·.1)) x)
          rw[← w1,vs0_open]at w3
          have hf69:=f69h i0.set x (hset i0 (List.mem_of_getElem? hi0))
          have hc67:n1+1 < g.ins.length→∀ s',s'.m.length=g.ins.length→(s'.vs (p+1)).Ok g.ins.length→(s'.vs (p+1)).open≤g.ins.length→∀ K,call Try.prog pol1 67 (NV (n1+1)::NV (p+1)::I (a:Nat)::.sl false (rg.map I)::capP) (hpB ⟨g,xs,a,b0,b1,b2,b6,b7',b8',.row 1 (List.replicate (2 * c) (I (-1))) (2 * c),s1.ts++s1.j⟩ s' K)=some (.tup [],hpB ⟨g,xs,a,b0,b1,b2,b6,b7',b8',.row 1 (List.replicate (2 * c) (I (-1))) (2 * c),s1.ts++s1.j⟩ (pvisit g.ins (p+1) (g.ins.length+1) (n1+1) rg s') K):=
           fun h s' a1 a2 a3 K=>f67B ⟨g,xs,a,b0,b1,b2,b6,b7',b8',.row 1 (List.replicate (2 * c) (I (-1))) (2 * c),s1.ts++s1.j⟩ (by show g.ins.length≤_;omega) hw (p+1) (by omega) (2 * c) (by omega) hsv (g.ins.length+1) (n1+1) rg s' K h hrg a1 a2 (by omega)
          have hprep:∀(s':PS) (J:List MB) (t:Tm),keepT (some [91,90,89,14,13,12,11,10,8,4,3,2,1]) t=[(91,NV (i+1)),(90,NV s1.ts.length),(89,.ms 12 3 (s1.ts.length+s1.j.length) 0 s1.ts.length),(14,.rf 15 1 0 0),(13,.rf 14 1 0 0),(12,.bool s1.c),(11,.ms 12 3 (s1.ts.length+s1.j.length) 0 s1.ts.length),(10,.rf 11 1 0 0),(8,.sl false (List.replicate (2 * c) (I (-1)))),(4,.rf 9 1 0 0),(3,.clo 56 capS),(2,NV a),(1,NV p)]→prep (mskOf (pol1.mask 55) (pol1.gc 55) (pol1.acts 55) 9 20) ⟨131,t,(b0::b1::b2::.row 1 (s'.m.map I) 0::.row 5 [mach g xs] 0::.row 1 [.rf 4 1 0 0] 0::b6::b7'::b8'::.row 1 [.rf 4 1 0 0] 0::.row 1 (List.replicate (2 * c) (I (-1))) (2 * c)::.row 1 [.ms 13 3 (s'.ts.length+s'.j.length) 0 s'.ts.length] 0::.row 3 (s1.ts.map (thAV a)++s1.j.map (thAV a)) 0::.row 3 (s'.ts.map (thAV a)++s'.j.map (thAV a)) 0::.row 1 [.bool s'.c] 0::.row 1 [.clo 67 capP] 0::J)⟩=⟨131,[(91,NV (i+1)),(90,NV s1.ts.length),(89,.ms 12 3 (s1.ts.length+s1.j.length) 0 s1.ts.length),(14,.rf 15 1 0 0),(13,.rf 14 1 0 0),(12,.bool s1.c),(11,.ms 12 3 (s1.ts.length+s1.j.length) 0 s1.ts.length),(10,.rf 11 1 0 0),(8,.sl false (List.replicate (2 * c) (I (-1)))),(4,.rf 9 1 0 0),(3,.clo 56 capS),(2,NV a),(1,NV p)],hpB ⟨g,xs,a,b0,b1,b2,b6,b7',b8',.row 1 (List.replicate (2 * c) (I (-1))) (2 * c),s1.ts++s1.j⟩ s' []⟩:=by
           intro s' J t e1
           have e2:(b0::b1::b2::.row 1 (s'.m.map I) 0::.row 5 [mach g xs] 0::.row 1 [.rf 4 1 0 0] 0::b6::b7'::b8'::.row 1 [.rf 4 1 0 0] 0::.row 1 (List.replicate (2 * c) (I (-1))) (2 * c)::.row 1 [.ms 13 3 (s'.ts.length+s'.j.length) 0 s'.ts.length] 0::.row 3 (s1.ts.map (thAV a)++s1.j.map (thAV a)) 0::.row 3 (s'.ts.map (thAV a)++s'.j.map (thAV a)) 0::.row 1 [.bool s'.c] 0::.row 1 [.clo 67 capP] 0::J)=hpB ⟨g,xs,a,b0,b1,b2,b6,b7',b8',.row 1 (List.replicate (2 * c) (I (-1))) (2 * c),s1.ts++s1.j⟩ s' J:=by simp only[hpB,List.map_append]
           rw[e2]
           exact prep16 (l:=[91,90,89,14,13,12,11,10,8,4,3,2,1]) e1 rfl (innerU _ _ _ _ (by omega) _ _ _ _) (underB _ _ u0 u1 u2 u6 u7' u8' (u10 c))
          have h01:stepO g.ins (p+1) (g.ins.length+1) x (n1,rg) (stepT g.ins (p+1) (g.ins.length+1) x (s1.ts.take i) ⟨[],s1.m,false,E⟩)=(if i0.op=1∧hasSpan i0.set x=true then pvisit g.ins (p+1) (g.ins.length+1) (n1+1) rg (stepT g.ins (p+1) (g.ins.length+1) x (s1.ts.take i) ⟨[],s1.m,false,E⟩) else stepT g.ins (p+1) (g.ins.length+1) x (s1.ts.take i) ⟨[],s1.m,false,E⟩):=by
           unfold stepO;rw[hi0]
          rw[hnx,h01]
          generalize stepT g.ins (p+1) (g.ins.length+1) x (s1.ts.take i) ⟨[],s1.m,false,E⟩=s2 at *
          by_cases h1:i0.op=1
          ·cases h2:hasSpan i0.set x with
           | true=>
             rw[if_pos ⟨h1,rfl⟩]
             rw[h2]at hf69
             have hc:=fun J1 J2=>hc67 ((hw n1 i0 hi0).2.2.2 (.inl h1)) s2 w2 w3.1 w3.2 [J1,J2]
             simp only[hpB,List.map_append]at hc
             simp +contextual (disch:=omega) only[Try.f55,dd55,go_sem,↓reduceIte,List.reduceReplicate,Nat.reduceAdd,Nat.reduceSub,reduceCtorEq,Nat.reduceLeDiff,Nat.reduceMul,Nat.reduceLT,Nat.reduceEqDiff,Int.reduceBNe,Int.reduceBEq,Int.reduceEq,Int.reduceLT,Int.reduceLE,Int.reduceGT,Int.reduceGE,List.length_append,List.map_append,mu55,Nat.reduceBEq,↓wrap_up,↓wrap_down,↓wrap_pred,↓wrap_sub_nat,Int.reduceToNat,ht',hi0',h1,hf69,hx2,hc,sameAt_succ]
             repeat' (first|intro _|apply And.intro|(unfold dOk;kernel_rfl)|exact St.beq_refl _|(show altO _ _ _ _=true;kernel_rfl)|(show (_ || _)=true;kernel_rfl)|(show (_ && _)=true;kernel_rfl))
             all_goals (refine hprep (pvisit g.ins (p+1) (g.ins.length+1) (n1+1) rg s2) [_,_] _ ?_;rfl)
           | false=>
             rw[if_neg (by simp)]
             rw[h2]at hf69
             simp +contextual (disch:=omega) only[Try.f55,dd55,go_sem,↓reduceIte,List.reduceReplicate,Nat.reduceAdd,Nat.reduceSub,reduceCtorEq,Nat.reduceLeDiff,Nat.reduceMul,Nat.reduceLT,Nat.reduceEqDiff,Int.reduceBNe,Int.reduceBEq,Int.reduceEq,Int.reduceLT,Int.reduceLE,Int.reduceGT,Int.reduceGE,List.length_append,List.map_append,mu55,Nat.reduceBEq,↓wrap_up,↓wrap_down,↓wrap_pred,↓wrap_sub_nat,Int.reduceToNat,ht',hi0',h1,hf69,hx2,sameAt_succ]
             repeat' (first|intro _|apply And.intro|(unfold dOk;kernel_rfl)|exact St.beq_refl _|(show altO _ _ _ _=true;kernel_rfl)|(show (_ || _)=true;kernel_rfl)|(show (_ && _)=true;kernel_rfl))
             all_goals (refine hprep s2 [_,_] _ ?_;rfl)
          ·rw[if_neg (by simp[h1])]
           simp +contextual (disch:=omega) only[Try.f55,dd55,go_sem,↓reduceIte,List.reduceReplicate,Nat.reduceAdd,Nat.reduceSub,reduceCtorEq,Nat.reduceLeDiff,Nat.reduceMul,Nat.reduceLT,Nat.reduceEqDiff,Int.reduceBNe,Int.reduceBEq,Int.reduceEq,Int.reduceLT,Int.reduceLE,Int.reduceGT,Int.reduceGE,List.length_append,List.map_append,mu55,Nat.reduceBEq,↓wrap_up,↓wrap_down,↓wrap_pred,↓wrap_sub_nat,Int.reduceToNat,ht',hi0',h1,sameAt_succ]
           repeat' (first|intro _|apply And.intro|(unfold dOk;kernel_rfl)|exact St.beq_refl _|(show altO _ _ _ _=true;kernel_rfl)|(show (_ || _)=true;kernel_rfl)|(show (_ && _)=true;kernel_rfl))
           all_goals (refine hprep s2 [_,_] _ ?_;rfl)
         ·intro _
          rw[List.take_of_length_le (Nat.le_refl _)]
          obtain⟨w1,w2⟩:=vs_stepT g.ins (p+1) (g.ins.length+1) x s1.ts ⟨[],s1.m,false,E⟩ k3
          rw[kf]at w1
          have w3:=(vs0_ok g.ins.length).visits (ins:=g.ins) (k:=g.ins.length+1) (ns:=afterL g.ins (s1.ts.map (·.1)) x)
          rw[← w1]at w3
          have w4:(⟨[],s1.m,false,E⟩:PS).Ok (2 * c) (p+1):=⟨fun t h=>(by cases h),fun y hy=>by have:=k2.marks y hy;omega⟩
          have w5:=w4.stepT (k:=g.ins.length+1) (x:=x) (fun i hi h=>(hsv i hi).1 h) (ts:=s1.ts) (fun t ht=>k2.regs t ht)
          have w6:(stepT g.ins (p+1) (g.ins.length+1) x s1.ts ⟨[],s1.m,false,E⟩).ts.map (·.1)=nextL g.ins (s1.ts.map (·.1)) x:=by
           show (PS.vs (p+1) _).r=_
           rw[w1];rfl
          generalize stepT g.ins (p+1) (g.ins.length+1) x s1.ts ⟨[],s1.m,false,E⟩=s3 at *
          simp +contextual (disch:=omega) only[Try.f55,dd55,go_sem,↓reduceIte,List.reduceReplicate,Nat.reduceAdd,Nat.reduceSub,reduceCtorEq,Nat.reduceLeDiff,Nat.reduceMul,Nat.reduceLT,Nat.reduceEqDiff,Int.reduceBNe,Int.reduceBEq,Int.reduceEq,Int.reduceLT,Int.reduceLE,Int.reduceGT,Int.reduceGE,List.length_append,List.map_append,mu55,Nat.reduceBEq,↓wrap_up,↓wrap_down,↓wrap_pred,↓wrap_sub_nat,Int.reduceToNat]
          refine⟨⟨p+1,false,b7',b8',s1.ts++s1.j,s3,s1.ts.length,s1.c,false,if doneL g.ins (s1.ts.map (·.1))=true then(p:Int) else r⟩,⟨by show a≤p+1;omega,by show p+1≤xs.length;omega,w2,by show s1.ts.length≤(s1.ts++s1.j).length;simp,hres',fun h=>(by cases h),fun _=>⟨by show a < p+1;omega,w3.1,w5,?_⟩⟩,by show xs.length+1 - (p+1) < xs.length+1 - p;omega,?_⟩
          ·show runL g.ins (xs.drop (p+1)) (p+1) (s3.ts.map (·.1)) _=_
           rw[w6];exact hrun _ k4
          ·refine(prep16 (l:=[14,13,12,11,10,8,4,3,2,1]) (t':=[(14,.rf 15 1 0 0),(13,.rf 14 1 0 0),(12,.bool s1.c),(11,.ms 12 3 (s1.ts.length+s1.j.length) 0 s1.ts.length),(10,.rf 11 1 0 0),(8,.sl false (List.replicate (2 * c) (I (-1)))),(4,.rf 9 1 0 0),(3,.clo 56 capS),(2,NV a),(1,NV (p+1))]) (h:=hpB ⟨g,xs,a,b0,b1,b2,b6,b7',b8',.row 1 (List.replicate (2 * c) (I (-1))) (2 * c),s1.ts++s1.j⟩ s3 []) (h':=hpB ⟨g,xs,a,b0,b1,b2,b6,b7',b8',.row 1 (List.replicate (2 * c) (I (-1))) (2 * c),s1.ts++s1.j⟩ s3 []) rfl rfl (headU _ _ _ _ (id:=12) (by omega) _ _) (underB _ _ u0 u1 u2 u6 u7' u8' (u10 c))).trans ?_
           simp only[List.length_append,Bool.false_eq_true,if_false]
           try rfl
         ·have hu:=underB ⟨g,xs,a,b0,b1,b2,b6,b7',b8',.row 1 (List.replicate (2 * c) (I (-1))) (2 * c),s1.ts++s1.j⟩ ⟨[],s1.m,false,E⟩ u0 u1 u2 u6 u7' u8' (u10 c)
          have e0:stepT g.ins (p+1) (g.ins.length+1) x (s1.ts.take 0) ⟨[],s1.m,false,E⟩=⟨[],s1.m,false,E⟩:=by rw[List.take_zero];rfl
          rw[e0]
          simp only[hpB,List.map_append,List.length_nil,Nat.zero_add,List.map_nil,List.nil_append]at hu ⊢
          exact prep16 (l:=[91,90,89,14,13,12,11,10,8,4,3,2,1]) (t':=[(91,NV 0),(90,NV s1.ts.length),(89,.ms 12 3 (s1.ts.length+s1.j.length) 0 s1.ts.length),(14,.rf 15 1 0 0),(13,.rf 14 1 0 0),(12,.bool s1.c),(11,.ms 12 3 (s1.ts.length+s1.j.length) 0 s1.ts.length),(10,.rf 11 1 0 0),(8,.sl false (List.replicate (2 * c) (I (-1)))),(4,.rf 9 1 0 0),(3,.clo 56 capS),(2,NV a),(1,NV p)]) rfl rfl (innerU _ _ _ _ (by omega) _ _ _ _) hu
   | false=>
     cases fs with
     | true=>
       obtain⟨q1,q2,q3,q4⟩:=h1 rfl
       subst q2;subst q3;subst q4
       have q5:=q1.symm
       subst q5
       have hm0:(⟨[],List.replicate g.ins.length 0,false,[]⟩:PS).m.length=g.ins.length:=by simp
       have g0:(⟨[],List.replicate g.ins.length 0,false,[]⟩:PS).vs a=vs0 g.ins.length:=vs_fresh hm0 (fun y hy=>by have:=(List.mem_replicate.1 hy).2;omega) rfl rfl
       obtain⟨v1,k3⟩:=vs_pvisit g.ins a (g.ins.length+1) 0 (List.replicate (2 * c) (-1)) ⟨[],List.replicate g.ins.length 0,false,[]⟩ hm0
       have v2:=(vs0_ok g.ins.length).visit (ins:=g.ins) (k:=g.ins.length+1) (n:=0)
       rw[g0]at v1
       rw[← v1]at v2
       have k1:=v2.1
       have k2:(pvisit g.ins a (g.ins.length+1) 0 (List.replicate (2 * c) (-1)) ⟨[],List.replicate g.ins.length 0,false,[]⟩).Ok (2 * c) a:=
        PS.Ok.pvisit (fun i hi h=>(hsv i hi).1 h) ⟨fun t h=>(by cases h),fun y hy=>by have:=(List.mem_replicate.1 hy).2;omega⟩ (by simp)
       have hc67:=f67B ⟨g,xs,a,b0,b1,b2,b6,b7,b8,.row 1 (List.replicate (2 * c) (I (-1))) (2 * c),E⟩ (by show g.ins.length≤_;omega) hw a (by omega) (2 * c) (by omega) hsv (g.ins.length+1) 0 (List.replicate (2 * c) (-1)) ⟨[],List.replicate g.ins.length 0,false,[]⟩ [] hN (by simp) hm0 (by rw[g0];exact vs0_ok _) (by rw[g0,vs0_open];omega)
       have k4:runL g.ins (xs.drop a) a ((pvisit g.ins a (g.ins.length+1) 0 (List.replicate (2 * c) (-1)) ⟨[],List.replicate g.ins.length 0,false,[]⟩).ts.map (·.1)) (-1)=runL g.ins (xs.drop a) a (stateL g.ins [0]) (-1):=by
        have e:(pvisit g.ins a (g.ins.length+1) 0 (List.replicate (2 * c) (-1)) ⟨[],List.replicate g.ins.length 0,false,[]⟩).ts.map (·.1)=stateL g.ins [0]:=by
         show (PS.vs a _).r=_
         rw[v1];rfl
        rw[e]
       simp only at hc67
       generalize pvisit g.ins a (g.ins.length+1) 0 (List.replicate (2 * c) (-1)) ⟨[],List.replicate g.ins.length 0,false,[]⟩=s1 at *
       rw[List.map_replicate]at hc67
       change call Try.prog pol1 67 (I 0::_) _=_ at hc67
       obtain⟨r,hr⟩:∃ r:Int,r = -1:=⟨_,rfl⟩
       rw[← hr]at hres
       have k4:runL g.ins (xs.drop a) a (s1.ts.map (·.1)) r=runL g.ins (xs.drop a) a (stateL g.ins [0]) (-1):=by rw[hr];exact k4
       obtain⟨b7',b8',hse,hre⟩:=seeF_eq ⟨g,xs,a,b0,b1,b2,b6,b7,b8,.row 1 (List.replicate (2 * c) (I (-1))) (2 * c),E⟩ c a s1
       have hres':=hre a r rfl hres
       simp only at hse hres'
       obtain⟨u7',u8'⟩:=hres'.under
       have hc56:=f56B ⟨g,xs,a,b0,b1,b2,b6,b7,b8,.row 1 (List.replicate (2 * c) (I (-1))) (2 * c),E⟩ (by show g.ins.length≤_;omega) c a hc hc9 s1 (by have:=k1.small;simp[PS.vs]at this;omega) (fun t ht=>⟨(k1.res t.1 (List.mem_map.2 ⟨_,ht,rfl⟩)).1,k2.regs t ht⟩) r4 r1 r2 r3 e7 e8
       rw[hse]at hc56
       have kf:(⟨[],s1.m,false,E⟩:PS).vs (a+1)=vs0 g.ins.length:=vs_fresh k3 (fun y hy=>k2.marks y hy) rfl rfl
       by_cases hnil:s1.ts=[]
       ·have hlen0:s1.ts.length=0:=by rw[hnil];rfl
        have hfin:ResOk a (runL g.ins (xs.drop a) a (stateL g.ins [0]) (-1)) b7' b8':=by
         rw[← k4,hnil]
         rw[hnil]at hres'
         simpa [runL_nil,doneL] using hres'
        rcases s1 with ⟨ts1,m1,c1,j1⟩
        simp only at hlen0
        simp only[hpB]at hc56
        cases c1 with
        | true=>
          simp +contextual (disch:=omega) only[Try.f55,dd55,go_sem,↓reduceIte,List.reduceReplicate,Nat.reduceAdd,Nat.reduceSub,reduceCtorEq,Nat.reduceLeDiff,Nat.reduceMul,Nat.reduceLT,Nat.reduceEqDiff,Int.reduceBNe,Int.reduceBEq,Int.reduceEq,Int.reduceLT,Int.reduceLE,Int.reduceGT,Int.reduceGE,List.length_append,List.map_append,mu55,Nat.reduceBEq,↓wrap_up,↓wrap_down,↓wrap_pred,↓wrap_sub_nat,Int.reduceToNat,hc67,hc56]
          repeat' (first|intro _|apply And.intro)
          all_goals first|exact⟨_,⟨m1,_,b7',b8',rfl,hfin⟩,rp _ _ _⟩|(exfalso;omega)
        | false=>
          simp +contextual (disch:=omega) only[Try.f55,dd55,go_sem,↓reduceIte,List.reduceReplicate,Nat.reduceAdd,Nat.reduceSub,reduceCtorEq,Nat.reduceLeDiff,Nat.reduceMul,Nat.reduceLT,Nat.reduceEqDiff,Int.reduceBNe,Int.reduceBEq,Int.reduceEq,Int.reduceLT,Int.reduceLE,Int.reduceGT,Int.reduceGE,List.length_append,List.map_append,mu55,Nat.reduceBEq,↓wrap_up,↓wrap_down,↓wrap_pred,↓wrap_sub_nat,Int.reduceToNat,hc67,hc56]
          repeat' (first|intro _|apply And.intro)
          all_goals first|exact⟨_,⟨m1,_,b7',b8',rfl,hfin⟩,rp _ _ _⟩|(exfalso;omega)
       have hlen1:0 < s1.ts.length:=List.length_pos_iff.2 hnil
       have hL:s1.ts.map (·.1)≠[]:=by simpa using hnil
       by_cases hend:a=xs.length
       ·have hfin:ResOk a (runL g.ins (xs.drop a) a (stateL g.ins [0]) (-1)) b7' b8':=by
         rw[← k4,hend,List.drop_length]
         simp only[runL,if_neg hL]
         rw[hend]at hres'
         exact hres'
        simp +contextual (disch:=omega) only[Try.f55,dd55,go_sem,↓reduceIte,List.reduceReplicate,Nat.reduceAdd,Nat.reduceSub,reduceCtorEq,Nat.reduceLeDiff,Nat.reduceMul,Nat.reduceLT,Nat.reduceEqDiff,Int.reduceBNe,Int.reduceBEq,Int.reduceEq,Int.reduceLT,Int.reduceLE,Int.reduceGT,Int.reduceGE,List.length_append,List.map_append,mu55,Nat.reduceBEq,↓wrap_up,↓wrap_down,↓wrap_pred,↓wrap_sub_nat,Int.reduceToNat,hc67,hc56]
        repeat' (first|intro _|apply And.intro)
        all_goals first|exact⟨_,⟨s1.m,_,b7',b8',rfl,hfin⟩,rp _ _ _⟩|(exfalso;omega)
       obtain⟨x,hx1⟩:∃ x,xs[a]?=some x:=⟨_,List.getElem?_eq_getElem (by omega)⟩
       have hx2:(xs.map I)[a]?=some (I x):=by simp[hx1]
       have hdrop:xs.drop a=x::xs.drop (a+1):=by
        rw[List.drop_eq_getElem_cons (by omega)]
        congr 1
        rw[List.getElem?_eq_getElem (by omega)]at hx1
        exact Option.some.inj hx1
       have hrun:∀ tg:Int,runL g.ins (xs.drop a) a (s1.ts.map (·.1)) r=tg→runL g.ins (xs.drop (a+1)) (a+1) (nextL g.ins (s1.ts.map (·.1)) x) (if doneL g.ins (s1.ts.map (·.1))=true then(a:Int) else r)=tg:=by
        intro tg h
        rw[hdrop]at h
        simpa only[runL,if_neg hL] using h
       simp +contextual (disch:=omega) only[Try.f55,dd55,go_sem,↓reduceIte,List.reduceReplicate,Nat.reduceAdd,Nat.reduceSub,reduceCtorEq,Nat.reduceLeDiff,Nat.reduceMul,Nat.reduceLT,Nat.reduceEqDiff,Int.reduceBNe,Int.reduceBEq,Int.reduceEq,Int.reduceLT,Int.reduceLE,Int.reduceGT,Int.reduceGE,List.length_append,List.map_append,mu55,Nat.reduceBEq,↓wrap_up,↓wrap_down,↓wrap_pred,↓wrap_sub_nat,Int.reduceToNat,hc67,hc56]
       repeat' (first|intro _|apply And.intro|(unfold dOk;kernel_rfl)|exact St.beq_refl _|(show altO _ _ _ _=true;kernel_rfl)|(show (_ || _)=true;kernel_rfl)|(show (_ && _)=true;kernel_rfl))
       refine W_count (M:=(mskOf (pol1.mask 55) (pol1.gc 55) (pol1.acts 55) 9 20)) rfl s1.ts.length (fun i=>(⟨131,[(91,NV i),(90,NV s1.ts.length),(89,.ms 13 3 (s1.ts.length+s1.j.length) 0 s1.ts.length),(14,.rf 15 1 0 0),(13,.rf 14 1 0 0),(12,.bool s1.c),(11,.ms 13 3 (s1.ts.length+s1.j.length) 0 s1.ts.length),(10,.rf 11 1 0 0),(8,.sl false (List.replicate (2 * c) (I (-1)))),(4,.rf 9 1 0 0),(3,.clo 56 capS),(2,NV a),(1,NV a)],hpA ⟨g,xs,a,b0,b1,b2,b6,b7',b8',.row 1 (List.replicate (2 * c) (I (-1))) (2 * c),s1.ts++s1.j⟩ (stepT g.ins (a+1) (g.ins.length+1) x (s1.ts.take i) ⟨[],s1.m,false,E⟩) []⟩:St)) (fun _=>True) ?_ ?_ trivial _ ?_
       ·intro i hi _
        obtain⟨t,ht⟩:∃ t,s1.ts[i]?=some t:=⟨_,List.getElem?_eq_getElem hi⟩
        obtain⟨n1,rg⟩:=t
        have hib:i≤1000000:=by have:=k1.small;simp[PS.vs]at this;omega
        have ht':(s1.ts.map (thAV a)++s1.j.map (thAV a))[i]?=some (thAV a (n1,rg)):=by rw[List.getElem?_append_left (by simpa using hi),List.getElem?_map,ht];rfl
        have htm:=List.mem_of_getElem? ht
        have hn1:n1 < g.ins.length:=(k1.res n1 (List.mem_map.2 ⟨_,htm,rfl⟩)).1
        have hrg:rg.length=2 * c:=k2.regs _ htm
        obtain⟨i0,hi0⟩:∃ i0,g.ins[n1]?=some i0:=⟨_,List.getElem?_eq_getElem hn1⟩
        have hi0':(g.ins.map insAV)[n1]?=some (insAV i0):=by simp[hi0]
        have hnx:stepT g.ins (a+1) (g.ins.length+1) x (s1.ts.take (i+1)) ⟨[],s1.m,false,E⟩=stepO g.ins (a+1) (g.ins.length+1) x (n1,rg) (stepT g.ins (a+1) (g.ins.length+1) x (s1.ts.take i) ⟨[],s1.m,false,E⟩):=by
         rw[List.take_add_one,ht];exact stepT_snoc _ _ _ _ _ _ _
        obtain⟨w1,w2⟩:=vs_stepT g.ins (a+1) (g.ins.length+1) x (s1.ts.take i) ⟨[],s1.m,false,E⟩ k3
        rw[kf]at w1
        have w3:=(vs0_ok g.ins.length).visits (ins:=g.ins) (k:=g.ins.length+1) (ns:=afterL g.ins ((s1.ts.take i).map (·.1)) x)
        rw[← w1,vs0_open]at w3
        have hf69:=f69h i0.set x (hset i0 (List.mem_of_getElem? hi0))
        have hc67:n1+1 < g.ins.length→∀ s',s'.m.length=g.ins.length→(s'.vs (a+1)).Ok g.ins.length→(s'.vs (a+1)).open≤g.ins.length→∀ K,call Try.prog pol1 67 (NV (n1+1)::NV (a+1)::I (a:Nat)::.sl false (rg.map I)::capP) (hpA ⟨g,xs,a,b0,b1,b2,b6,b7',b8',.row 1 (List.replicate (2 * c) (I (-1))) (2 * c),s1.ts++s1.j⟩ s' K)=some (.tup [],hpA ⟨g,xs,a,b0,b1,b2,b6,b7',b8',.row 1 (List.replicate (2 * c) (I (-1))) (2 * c),s1.ts++s1.j⟩ (pvisit g.ins (a+1) (g.ins.length+1) (n1+1) rg s') K):=
         fun h s' a1 a2 a3 K=>f67A ⟨g,xs,a,b0,b1,b2,b6,b7',b8',.row 1 (List.replicate (2 * c) (I (-1))) (2 * c),s1.ts++s1.j⟩ (by show g.ins.length≤_;omega) hw (a+1) (by omega) (2 * c) (by omega) hsv (g.ins.length+1) (n1+1) rg s' K h hrg a1 a2 (by omega)
        have hprep:∀(s':PS) (J:List MB) (t:Tm),keepT (some [91,90,89,14,13,12,11,10,8,4,3,2,1]) t=[(91,NV (i+1)),(90,NV s1.ts.length),(89,.ms 13 3 (s1.ts.length+s1.j.length) 0 s1.ts.length),(14,.rf 15 1 0 0),(13,.rf 14 1 0 0),(12,.bool s1.c),(11,.ms 13 3 (s1.ts.length+s1.j.length) 0 s1.ts.length),(10,.rf 11 1 0 0),(8,.sl false (List.replicate (2 * c) (I (-1)))),(4,.rf 9 1 0 0),(3,.clo 56 capS),(2,NV a),(1,NV a)]→prep (mskOf (pol1.mask 55) (pol1.gc 55) (pol1.acts 55) 9 20) ⟨131,t,(b0::b1::b2::.row 1 (s'.m.map I) 0::.row 5 [mach g xs] 0::.row 1 [.rf 4 1 0 0] 0::b6::b7'::b8'::.row 1 [.rf 4 1 0 0] 0::.row 1 (List.replicate (2 * c) (I (-1))) (2 * c)::.row 1 [.ms 12 3 (s'.ts.length+s'.j.length) 0 s'.ts.length] 0::.row 3 (s'.ts.map (thAV a)++s'.j.map (thAV a)) 0::.row 3 (s1.ts.map (thAV a)++s1.j.map (thAV a)) 0::.row 1 [.bool s'.c] 0::.row 1 [.clo 67 capP] 0::J)⟩=⟨131,[(91,NV (i+1)),(90,NV s1.ts.length),(89,.ms 13 3 (s1.ts.length+s1.j.length) 0 s1.ts.length),(14,.rf 15 1 0 0),(13,.rf 14 1 0 0),(12,.bool s1.c),(11,.ms 13 3 (s1.ts.length+s1.j.length) 0 s1.ts.length),(10,.rf 11 1 0 0),(8,.sl false (List.replicate (2 * c) (I (-1)))),(4,.rf 9 1 0 0),(3,.clo 56 capS),(2,NV a),(1,NV a)],hpA ⟨g,xs,a,b0,b1,b2,b6,b7',b8',.row 1 (List.replicate (2 * c) (I (-1))) (2 * c),s1.ts++s1.j⟩ s' []⟩:=by
         intro s' J t e1
         have e2:(b0::b1::b2::.row 1 (s'.m.map I) 0::.row 5 [mach g xs] 0::.row 1 [.rf 4 1 0 0] 0::b6::b7'::b8'::.row 1 [.rf 4 1 0 0] 0::.row 1 (List.replicate (2 * c) (I (-1))) (2 * c)::.row 1 [.ms 12 3 (s'.ts.length+s'.j.length) 0 s'.ts.length] 0::.row 3 (s'.ts.map (thAV a)++s'.j.map (thAV a)) 0::.row 3 (s1.ts.map (thAV a)++s1.j.map (thAV a)) 0::.row 1 [.bool s'.c] 0::.row 1 [.clo 67 capP] 0::J)=hpA ⟨g,xs,a,b0,b1,b2,b6,b7',b8',.row 1 (List.replicate (2 * c) (I (-1))) (2 * c),s1.ts++s1.j⟩ s' J:=by simp only[hpA,List.map_append]
         rw[e2]
         exact prep16 (l:=[91,90,89,14,13,12,11,10,8,4,3,2,1]) e1 rfl (innerU _ _ _ _ (by omega) _ _ _ _) (underA _ _ u0 u1 u2 u6 u7' u8' (u10 c))
        have h01:stepO g.ins (a+1) (g.ins.length+1) x (n1,rg) (stepT g.ins (a+1) (g.ins.length+1) x (s1.ts.take i) ⟨[],s1.m,false,E⟩)=(if i0.op=1∧hasSpan i0.set x=true then pvisit g.ins (a+1) (g.ins.length+1) (n1+1) rg (stepT g.ins (a+1) (g.ins.length+1) x (s1.ts.take i) ⟨[],s1.m,false,E⟩) else stepT g.ins (a+1) (g.ins.length+1) x (s1.ts.take i) ⟨[],s1.m,false,E⟩):=by
         unfold stepO;rw[hi0]
        rw[hnx,h01]
        generalize stepT g.ins (a+1) (g.ins.length+1) x (s1.ts.take i) ⟨[],s1.m,false,E⟩=s2 at *
        by_cases h1:i0.op=1
        ·cases h2:hasSpan i0.set x with
         | true=>
           rw[if_pos ⟨h1,rfl⟩]
           rw[h2]at hf69
           have hc:=fun J1 J2=>hc67 ((hw n1 i0 hi0).2.2.2 (.inl h1)) s2 w2 w3.1 w3.2 [J1,J2]
           simp only[hpA,List.map_append]at hc
           simp +contextual (disch:=omega) only[Try.f55,dd55,go_sem,↓reduceIte,List.reduceReplicate,Nat.reduceAdd,Nat.reduceSub,reduceCtorEq,Nat.reduceLeDiff,Nat.reduceMul,Nat.reduceLT,Nat.reduceEqDiff,Int.reduceBNe,Int.reduceBEq,Int.reduceEq,Int.reduceLT,Int.reduceLE,Int.reduceGT,Int.reduceGE,List.length_append,List.map_append,mu55,Nat.reduceBEq,↓wrap_up,↓wrap_down,↓wrap_pred,↓wrap_sub_nat,Int.reduceToNat,ht',hi0',h1,hf69,hx2,hc,sameAt_succ]
           repeat' (first|intro _|apply And.intro|(unfold dOk;kernel_rfl)|exact St.beq_refl _|(show altO _ _ _ _=true;kernel_rfl)|(show (_ || _)=true;kernel_rfl)|(show (_ && _)=true;kernel_rfl))
           all_goals (refine hprep (pvisit g.ins (a+1) (g.ins.length+1) (n1+1) rg s2) [_,_] _ ?_;rfl)
         | false=>
           rw[if_neg (by simp)]
           rw[h2]at hf69
           simp +contextual (disch:=omega) only[Try.f55,dd55,go_sem,↓reduceIte,List.reduceReplicate,Nat.reduceAdd,Nat.reduceSub,reduceCtorEq,Nat.reduceLeDiff,Nat.reduceMul,Nat.reduceLT,Nat.reduceEqDiff,Int.reduceBNe,Int.reduceBEq,Int.reduceEq,Int.reduceLT,Int.reduceLE,Int.reduceGT,Int.reduceGE,List.length_append,List.map_append,mu55,Nat.reduceBEq,↓wrap_up,↓wrap_down,↓wrap_pred,↓wrap_sub_nat,Int.reduceToNat,ht',hi0',h1,hf69,hx2,sameAt_succ]
           repeat' (first|intro _|apply And.intro|(unfold dOk;kernel_rfl)|exact St.beq_refl _|(show altO _ _ _ _=true;kernel_rfl)|(show (_ || _)=true;kernel_rfl)|(show (_ && _)=true;kernel_rfl))
           all_goals (refine hprep s2 [_,_] _ ?_;rfl)
        ·rw[if_neg (by simp[h1])]
         simp +contextual (disch:=omega) only[Try.f55,dd55,go_sem,↓reduceIte,List.reduceReplicate,Nat.reduceAdd,Nat.reduceSub,reduceCtorEq,Nat.reduceLeDiff,Nat.reduceMul,Nat.reduceLT,Nat.reduceEqDiff,Int.reduceBNe,Int.reduceBEq,Int.reduceEq,Int.reduceLT,Int.reduceLE,Int.reduceGT,Int.reduceGE,List.length_append,List.map_append,mu55,Nat.reduceBEq,↓wrap_up,↓wrap_down,↓wrap_pred,↓wrap_sub_nat,Int.reduceToNat,ht',hi0',h1,sameAt_succ]
         repeat' (first|intro _|apply And.intro|(unfold dOk;kernel_rfl)|exact St.beq_refl _|(show altO _ _ _ _=true;kernel_rfl)|(show (_ || _)=true;kernel_rfl)|(show (_ && _)=true;kernel_rfl))
         all_goals (refine hprep s2 [_,_] _ ?_;rfl)
       ·intro _
        rw[List.take_of_length_le (Nat.le_refl _)]
        obtain⟨w1,w2⟩:=vs_stepT g.ins (a+1) (g.ins.length+1) x s1.ts ⟨[],s1.m,false,E⟩ k3
        rw[kf]at w1
        have w3:=(vs0_ok g.ins.length).visits (ins:=g.ins) (k:=g.ins.length+1) (ns:=afterL g.ins (s1.ts.map (·.1)) x)
        rw[← w1]at w3
        have w4:(⟨[],s1.m,false,E⟩:PS).Ok (2 * c) (a+1):=⟨fun t h=>(by cases h),fun y hy=>by have:=k2.marks y hy;omega⟩
        have w5:=w4.stepT (k:=g.ins.length+1) (x:=x) (fun i hi h=>(hsv i hi).1 h) (ts:=s1.ts) (fun t ht=>k2.regs t ht)
        have w6:(stepT g.ins (a+1) (g.ins.length+1) x s1.ts ⟨[],s1.m,false,E⟩).ts.map (·.1)=nextL g.ins (s1.ts.map (·.1)) x:=by
         show (PS.vs (a+1) _).r=_
         rw[w1];rfl
        generalize stepT g.ins (a+1) (g.ins.length+1) x s1.ts ⟨[],s1.m,false,E⟩=s3 at *
        simp +contextual (disch:=omega) only[Try.f55,dd55,go_sem,↓reduceIte,List.reduceReplicate,Nat.reduceAdd,Nat.reduceSub,reduceCtorEq,Nat.reduceLeDiff,Nat.reduceMul,Nat.reduceLT,Nat.reduceEqDiff,Int.reduceBNe,Int.reduceBEq,Int.reduceEq,Int.reduceLT,Int.reduceLE,Int.reduceGT,Int.reduceGE,List.length_append,List.map_append,mu55,Nat.reduceBEq,↓wrap_up,↓wrap_down,↓wrap_pred,↓wrap_sub_nat,Int.reduceToNat]
        refine⟨⟨a+1,true,b7',b8',s1.ts++s1.j,s3,s1.ts.length,s1.c,false,if doneL g.ins (s1.ts.map (·.1))=true then(a:Int) else r⟩,⟨by show a≤a+1;omega,by show a+1≤xs.length;omega,w2,by show s1.ts.length≤(s1.ts++s1.j).length;simp,hres',fun h=>(by cases h),fun _=>⟨by show a < a+1;omega,w3.1,w5,?_⟩⟩,by show xs.length+1 - (a+1) < xs.length+1 - a;omega,?_⟩
        ·show runL g.ins (xs.drop (a+1)) (a+1) (s3.ts.map (·.1)) _=_
         rw[w6];exact hrun _ k4
        ·refine(prep16 (l:=[14,13,12,11,10,8,4,3,2,1]) (t':=[(14,.rf 15 1 0 0),(13,.rf 14 1 0 0),(12,.bool s1.c),(11,.ms 13 3 (s1.ts.length+s1.j.length) 0 s1.ts.length),(10,.rf 11 1 0 0),(8,.sl false (List.replicate (2 * c) (I (-1)))),(4,.rf 9 1 0 0),(3,.clo 56 capS),(2,NV a),(1,NV (a+1))]) (h:=hpA ⟨g,xs,a,b0,b1,b2,b6,b7',b8',.row 1 (List.replicate (2 * c) (I (-1))) (2 * c),s1.ts++s1.j⟩ s3 []) (h':=hpA ⟨g,xs,a,b0,b1,b2,b6,b7',b8',.row 1 (List.replicate (2 * c) (I (-1))) (2 * c),s1.ts++s1.j⟩ s3 []) rfl rfl (headU _ _ _ _ (id:=13) (by omega) _ _) (underA _ _ u0 u1 u2 u6 u7' u8' (u10 c))).trans ?_
         simp only[List.length_append,if_true]
         try rfl
       ·have hu:=underA ⟨g,xs,a,b0,b1,b2,b6,b7',b8',.row 1 (List.replicate (2 * c) (I (-1))) (2 * c),s1.ts++s1.j⟩ ⟨[],s1.m,false,E⟩ u0 u1 u2 u6 u7' u8' (u10 c)
        have e0:stepT g.ins (a+1) (g.ins.length+1) x (s1.ts.take 0) ⟨[],s1.m,false,E⟩=⟨[],s1.m,false,E⟩:=by rw[List.take_zero];rfl
        rw[e0]
        simp only[hpA,List.map_append,List.length_nil,Nat.zero_add,List.map_nil,List.nil_append]at hu ⊢
        exact prep16 (l:=[91,90,89,14,13,12,11,10,8,4,3,2,1]) (t':=[(91,NV 0),(90,NV s1.ts.length),(89,.ms 13 3 (s1.ts.length+s1.j.length) 0 s1.ts.length),(14,.rf 15 1 0 0),(13,.rf 14 1 0 0),(12,.bool s1.c),(11,.ms 13 3 (s1.ts.length+s1.j.length) 0 s1.ts.length),(10,.rf 11 1 0 0),(8,.sl false (List.replicate (2 * c) (I (-1)))),(4,.rf 9 1 0 0),(3,.clo 56 capS),(2,NV a),(1,NV a)]) rfl rfl (innerU _ _ _ _ (by omega) _ _ _ _) hu
     | false=>
       cases fd with
       | true=>
         obtain⟨q0,k1,k2,k4⟩:=h2 rfl
         have k3:=hm
         obtain⟨s1,hs1⟩:∃ s1,s1=s:=⟨s,rfl⟩
         rw[← hs1]at k1 k2 k3 k4
         rw[← hs1]
         obtain⟨b7',b8',hse,hre⟩:=seeF_eq ⟨g,xs,a,b0,b1,b2,b6,b7,b8,.row 1 (List.replicate (2 * c) (I (-1))) (2 * c),E⟩ c p s1
         have hres':=hre a r rfl hres
         simp only at hse hres'
         obtain⟨u7',u8'⟩:=hres'.under
         have hc56:=f56B ⟨g,xs,a,b0,b1,b2,b6,b7,b8,.row 1 (List.replicate (2 * c) (I (-1))) (2 * c),E⟩ (by show g.ins.length≤_;omega) c p hc hc9 s1 (by have:=k1.small;simp[PS.vs]at this;omega) (fun t ht=>⟨(k1.res t.1 (List.mem_map.2 ⟨_,ht,rfl⟩)).1,k2.regs t ht⟩) r4 r1 r2 r3 e7 e8
         rw[hse]at hc56
         have kf:(⟨[],s1.m,false,E⟩:PS).vs (p+1)=vs0 g.ins.length:=vs_fresh k3 (fun y hy=>k2.marks y hy) rfl rfl
         by_cases hnil:s1.ts=[]
         ·have hlen0:s1.ts.length=0:=by rw[hnil];rfl
          have hfin:ResOk a (runL g.ins (xs.drop a) a (stateL g.ins [0]) (-1)) b7' b8':=by
           rw[← k4,hnil]
           rw[hnil]at hres'
           simpa [runL_nil,doneL] using hres'
          simp +contextual (disch:=omega) only[Try.f55,dd55,go_sem,↓reduceIte,List.reduceReplicate,Nat.reduceAdd,Nat.reduceSub,reduceCtorEq,Nat.reduceLeDiff,Nat.reduceMul,Nat.reduceLT,Nat.reduceEqDiff,Int.reduceBNe,Int.reduceBEq,Int.reduceEq,Int.reduceLT,Int.reduceLE,Int.reduceGT,Int.reduceGE,List.length_append,List.map_append,mu55,Nat.reduceBEq,↓wrap_up,↓wrap_down,↓wrap_pred,↓wrap_sub_nat,Int.reduceToNat,hc56]
          repeat' (first|intro _|apply And.intro)
          all_goals first|exact⟨_,⟨s1.m,_,b7',b8',rfl,hfin⟩,rp _ _ _⟩|(exfalso;omega)
         have hlen1:0 < s1.ts.length:=List.length_pos_iff.2 hnil
         have hL:s1.ts.map (·.1)≠[]:=by simpa using hnil
         by_cases hend:p=xs.length
         ·have hfin:ResOk a (runL g.ins (xs.drop a) a (stateL g.ins [0]) (-1)) b7' b8':=by
           rw[← k4,hend,List.drop_length]
           simp only[runL,if_neg hL]
           rw[hend]at hres'
           exact hres'
          simp +contextual (disch:=omega) only[Try.f55,dd55,go_sem,↓reduceIte,List.reduceReplicate,Nat.reduceAdd,Nat.reduceSub,reduceCtorEq,Nat.reduceLeDiff,Nat.reduceMul,Nat.reduceLT,Nat.reduceEqDiff,Int.reduceBNe,Int.reduceBEq,Int.reduceEq,Int.reduceLT,Int.reduceLE,Int.reduceGT,Int.reduceGE,List.length_append,List.map_append,mu55,Nat.reduceBEq,↓wrap_up,↓wrap_down,↓wrap_pred,↓wrap_sub_nat,Int.reduceToNat,hc56]
          repeat' (first|intro _|apply And.intro)
          all_goals first|exact⟨_,⟨s1.m,_,b7',b8',rfl,hfin⟩,rp _ _ _⟩|(exfalso;omega)
         obtain⟨x,hx1⟩:∃ x,xs[p]?=some x:=⟨_,List.getElem?_eq_getElem (by omega)⟩
         have hx2:(xs.map I)[p]?=some (I x):=by simp[hx1]
         have hdrop:xs.drop p=x::xs.drop (p+1):=by
          rw[List.drop_eq_getElem_cons (by omega)]
          congr 1
          rw[List.getElem?_eq_getElem (by omega)]at hx1
          exact Option.some.inj hx1
         have hrun:∀ tg:Int,runL g.ins (xs.drop p) p (s1.ts.map (·.1)) r=tg→runL g.ins (xs.drop (p+1)) (p+1) (nextL g.ins (s1.ts.map (·.1)) x) (if doneL g.ins (s1.ts.map (·.1))=true then(p:Int) else r)=tg:=by
          intro tg h
          rw[hdrop]at h
          simpa only[runL,if_neg hL] using h
         simp +contextual (disch:=omega) only[Try.f55,dd55,go_sem,↓reduceIte,List.reduceReplicate,Nat.reduceAdd,Nat.reduceSub,reduceCtorEq,Nat.reduceLeDiff,Nat.reduceMul,Nat.reduceLT,Nat.reduceEqDiff,Int.reduceBNe,Int.reduceBEq,Int.reduceEq,Int.reduceLT,Int.reduceLE,Int.reduceGT,Int.reduceGE,List.length_append,List.map_append,mu55,Nat.reduceBEq,↓wrap_up,↓wrap_down,↓wrap_pred,↓wrap_sub_nat,Int.reduceToNat,hc56]
         repeat' (first|intro _|apply And.intro|(unfold dOk;kernel_rfl)|exact St.beq_refl _|(show altO _ _ _ _=true;kernel_rfl)|(show (_ || _)=true;kernel_rfl)|(show (_ && _)=true;kernel_rfl))
         refine W_count (M:=(mskOf (pol1.mask 55) (pol1.gc 55) (pol1.acts 55) 9 20)) rfl s1.ts.length (fun i=>(⟨131,[(91,NV i),(90,NV s1.ts.length),(89,.ms 13 3 (s1.ts.length+s1.j.length) 0 s1.ts.length),(14,.rf 15 1 0 0),(13,.rf 14 1 0 0),(12,.bool true),(11,.ms 13 3 (s1.ts.length+s1.j.length) 0 s1.ts.length),(10,.rf 11 1 0 0),(8,.sl false (List.replicate (2 * c) (I (-1)))),(4,.rf 9 1 0 0),(3,.clo 56 capS),(2,NV a),(1,NV p)],hpA ⟨g,xs,a,b0,b1,b2,b6,b7',b8',.row 1 (List.replicate (2 * c) (I (-1))) (2 * c),s1.ts++s1.j⟩ (stepT g.ins (p+1) (g.ins.length+1) x (s1.ts.take i) ⟨[],s1.m,false,E⟩) []⟩:St)) (fun _=>True) ?_ ?_ trivial _ ?_
         ·intro i hi _
          obtain⟨t,ht⟩:∃ t,s1.ts[i]?=some t:=⟨_,List.getElem?_eq_getElem hi⟩
          obtain⟨n1,rg⟩:=t
          have hib:i≤1000000:=by have:=k1.small;simp[PS.vs]at this;omega
          have ht':(s1.ts.map (thAV a)++s1.j.map (thAV a))[i]?=some (thAV a (n1,rg)):=by rw[List.getElem?_append_left (by simpa using hi),List.getElem?_map,ht];rfl
          have htm:=List.mem_of_getElem? ht
          have hn1:n1 < g.ins.length:=(k1.res n1 (List.mem_map.2 ⟨_,htm,rfl⟩)).1
          have hrg:rg.length=2 * c:=k2.regs _ htm
          obtain⟨i0,hi0⟩:∃ i0,g.ins[n1]?=some i0:=⟨_,List.getElem?_eq_getElem hn1⟩
          have hi0':(g.ins.map insAV)[n1]?=some (insAV i0):=by simp[hi0]
          have hnx:stepT g.ins (p+1) (g.ins.length+1) x (s1.ts.take (i+1)) ⟨[],s1.m,false,E⟩=stepO g.ins (p+1) (g.ins.length+1) x (n1,rg) (stepT g.ins (p+1) (g.ins.length+1) x (s1.ts.take i) ⟨[],s1.m,false,E⟩):=by
           rw[List.take_add_one,ht];exact stepT_snoc _ _ _ _ _ _ _
          obtain⟨w1,w2⟩:=vs_stepT g.ins (p+1) (g.ins.length+1) x (s1.ts.take i) ⟨[],s1.m,false,E⟩ k3
          rw[kf]at w1
          have w3:=(vs0_ok g.ins.length).visits (ins:=g.ins) (k:=g.ins.length+1) (ns:=afterL g.ins ((s1.ts.take i).map (·.1)) x)
          rw[← w1,vs0_open]at w3
          have hf69:=f69h i0.set x (hset i0 (List.mem_of_getElem? hi0))
          have hc67:n1+1 < g.ins.length→∀ s',s'.m.length=g.ins.length→(s'.vs (p+1)).Ok g.ins.length→(s'.vs (p+1)).open≤g.ins.length→∀ K,call Try.prog pol1 67 (NV (n1+1)::NV (p+1)::I (a:Nat)::.sl false (rg.map I)::capP) (hpA ⟨g,xs,a,b0,b1,b2,b6,b7',b8',.row 1 (List.replicate (2 * c) (I (-1))) (2 * c),s1.ts++s1.j⟩ s' K)=some (.tup [],hpA ⟨g,xs,a,b0,b1,b2,b6,b7',b8',.row 1 (List.replicate (2 * c) (I (-1))) (2 * c),s1.ts++s1.j⟩ (pvisit g.ins (p+1) (g.ins.length+1) (n1+1) rg s') K):=
           fun h s' a1 a2 a3 K=>f67A ⟨g,xs,a,b0,b1,b2,b6,b7',b8',.row 1 (List.replicate (2 * c) (I (-1))) (2 * c),s1.ts++s1.j⟩ (by show g.ins.length≤_;omega) hw (p+1) (by omega) (2 * c) (by omega) hsv (g.ins.length+1) (n1+1) rg s' K h hrg a1 a2 (by omega)
          have hprep:∀(s':PS) (J:List MB) (t:Tm),keepT (some [91,90,89,14,13,12,11,10,8,4,3,2,1]) t=[(91,NV (i+1)),(90,NV s1.ts.length),(89,.ms 13 3 (s1.ts.length+s1.j.length) 0 s1.ts.length),(14,.rf 15 1 0 0),(13,.rf 14 1 0 0),(12,.bool true),(11,.ms 13 3 (s1.ts.length+s1.j.length) 0 s1.ts.length),(10,.rf 11 1 0 0),(8,.sl false (List.replicate (2 * c) (I (-1)))),(4,.rf 9 1 0 0),(3,.clo 56 capS),(2,NV a),(1,NV p)]→prep (mskOf (pol1.mask 55) (pol1.gc 55) (pol1.acts 55) 9 20) ⟨131,t,(b0::b1::b2::.row 1 (s'.m.map I) 0::.row 5 [mach g xs] 0::.row 1 [.rf 4 1 0 0] 0::b6::b7'::b8'::.row 1 [.rf 4 1 0 0] 0::.row 1 (List.replicate (2 * c) (I (-1))) (2 * c)::.row 1 [.ms 12 3 (s'.ts.length+s'.j.length) 0 s'.ts.length] 0::.row 3 (s'.ts.map (thAV a)++s'.j.map (thAV a)) 0::.row 3 (s1.ts.map (thAV a)++s1.j.map (thAV a)) 0::.row 1 [.bool s'.c] 0::.row 1 [.clo 67 capP] 0::J)⟩=⟨131,[(91,NV (i+1)),(90,NV s1.ts.length),(89,.ms 13 3 (s1.ts.length+s1.j.length) 0 s1.ts.length),(14,.rf 15 1 0 0),(13,.rf 14 1 0 0),(12,.bool true),(11,.ms 13 3 (s1.ts.length+s1.j.length) 0 s1.ts.length),(10,.rf 11 1 0 0),(8,.sl false (List.replicate (2 * c) (I (-1)))),(4,.rf 9 1 0 0),(3,.clo 56 capS),(2,NV a),(1,NV p)],hpA ⟨g,xs,a,b0,b1,b2,b6,b7',b8',.row 1 (List.replicate (2 * c) (I (-1))) (2 * c),s1.ts++s1.j⟩ s' []⟩:=by
           intro s' J t e1
           have e2:(b0::b1::b2::.row 1 (s'.m.map I) 0::.row 5 [mach g xs] 0::.row 1 [.rf 4 1 0 0] 0::b6::b7'::b8'::.row 1 [.rf 4 1 0 0] 0::.row 1 (List.replicate (2 * c) (I (-1))) (2 * c)::.row 1 [.ms 12 3 (s'.ts.length+s'.j.length) 0 s'.ts.length] 0::.row 3 (s'.ts.map (thAV a)++s'.j.map (thAV a)) 0::.row 3 (s1.ts.map (thAV a)++s1.j.map (thAV a)) 0::.row 1 [.bool s'.c] 0::.row 1 [.clo 67 capP] 0::J)=hpA ⟨g,xs,a,b0,b1,b2,b6,b7',b8',.row 1 (List.replicate (2 * c) (I (-1))) (2 * c),s1.ts++s1.j⟩ s' J:=by simp only[hpA,List.map_append]
           rw[e2]
           exact prep16 (l:=[91,90,89,14,13,12,11,10,8,4,3,2,1]) e1 rfl (innerU _ _ _ _ (by omega) _ _ _ _) (underA _ _ u0 u1 u2 u6 u7' u8' (u10 c))
          have h01:stepO g.ins (p+1) (g.ins.length+1) x (n1,rg) (stepT g.ins (p+1) (g.ins.length+1) x (s1.ts.take i) ⟨[],s1.m,false,E⟩)=(if i0.op=1∧hasSpan i0.set x=true then pvisit g.ins (p+1) (g.ins.length+1) (n1+1) rg (stepT g.ins (p+1) (g.ins.length+1) x (s1.ts.take i) ⟨[],s1.m,false,E⟩) else stepT g.ins (p+1) (g.ins.length+1) x (s1.ts.take i) ⟨[],s1.m,false,E⟩):=by
           unfold stepO;rw[hi0]
          rw[hnx,h01]
          generalize stepT g.ins (p+1) (g.ins.length+1) x (s1.ts.take i) ⟨[],s1.m,false,E⟩=s2 at *
          by_cases h1:i0.op=1
          ·cases h2:hasSpan i0.set x with
           | true=>
             rw[if_pos ⟨h1,rfl⟩]
             rw[h2]at hf69
             have hc:=fun J1 J2=>hc67 ((hw n1 i0 hi0).2.2.2 (.inl h1)) s2 w2 w3.1 w3.2 [J1,J2]
             simp only[hpA,List.map_append]at hc
             simp +contextual (disch:=omega) only[Try.f55,dd55,go_sem,↓reduceIte,List.reduceReplicate,Nat.reduceAdd,Nat.reduceSub,reduceCtorEq,Nat.reduceLeDiff,Nat.reduceMul,Nat.reduceLT,Nat.reduceEqDiff,Int.reduceBNe,Int.reduceBEq,Int.reduceEq,Int.reduceLT,Int.reduceLE,Int.reduceGT,Int.reduceGE,List.length_append,List.map_append,mu55,Nat.reduceBEq,↓wrap_up,↓wrap_down,↓wrap_pred,↓wrap_sub_nat,Int.reduceToNat,ht',hi0',h1,hf69,hx2,hc,sameAt_succ]
             repeat' (first|intro _|apply And.intro|(unfold dOk;kernel_rfl)|exact St.beq_refl _|(show altO _ _ _ _=true;kernel_rfl)|(show (_ || _)=true;kernel_rfl)|(show (_ && _)=true;kernel_rfl))
             all_goals (refine hprep (pvisit g.ins (p+1) (g.ins.length+1) (n1+1) rg s2) [_,_] _ ?_;rfl)
           | false=>
             rw[if_neg (by simp)]
             rw[h2]at hf69
             simp +contextual (disch:=omega) only[Try.f55,dd55,go_sem,↓reduceIte,List.reduceReplicate,Nat.reduceAdd,Nat.reduceSub,reduceCtorEq,Nat.reduceLeDiff,Nat.reduceMul,Nat.reduceLT,Nat.reduceEqDiff,Int.reduceBNe,Int.reduceBEq,Int.reduceEq,Int.reduceLT,Int.reduceLE,Int.reduceGT,Int.reduceGE,List.length_append,List.map_append,mu55,Nat.reduceBEq,↓wrap_up,↓wrap_down,↓wrap_pred,↓wrap_sub_nat,Int.reduceToNat,ht',hi0',h1,hf69,hx2,sameAt_succ]
             repeat' (first|intro _|apply And.intro|(unfold dOk;kernel_rfl)|exact St.beq_refl _|(show altO _ _ _ _=true;kernel_rfl)|(show (_ || _)=true;kernel_rfl)|(show (_ && _)=true;kernel_rfl))
             all_goals (refine hprep s2 [_,_] _ ?_;rfl)
          ·rw[if_neg (by simp[h1])]
           simp +contextual (disch:=omega) only[Try.f55,dd55,go_sem,↓reduceIte,List.reduceReplicate,Nat.reduceAdd,Nat.reduceSub,reduceCtorEq,Nat.reduceLeDiff,Nat.reduceMul,Nat.reduceLT,Nat.reduceEqDiff,Int.reduceBNe,Int.reduceBEq,Int.reduceEq,Int.reduceLT,Int.reduceLE,Int.reduceGT,Int.reduceGE,List.length_append,List.map_append,mu55,Nat.reduceBEq,↓wrap_up,↓wrap_down,↓wrap_pred,↓wrap_sub_nat,Int.reduceToNat,ht',hi0',h1,sameAt_succ]
           repeat' (first|intro _|apply And.intro|(unfold dOk;kernel_rfl)|exact St.beq_refl _|(show altO _ _ _ _=true;kernel_rfl)|(show (_ || _)=true;kernel_rfl)|(show (_ && _)=true;kernel_rfl))
           all_goals (refine hprep s2 [_,_] _ ?_;rfl)
         ·intro _
          rw[List.take_of_length_le (Nat.le_refl _)]
          obtain⟨w1,w2⟩:=vs_stepT g.ins (p+1) (g.ins.length+1) x s1.ts ⟨[],s1.m,false,E⟩ k3
          rw[kf]at w1
          have w3:=(vs0_ok g.ins.length).visits (ins:=g.ins) (k:=g.ins.length+1) (ns:=afterL g.ins (s1.ts.map (·.1)) x)
          rw[← w1]at w3
          have w4:(⟨[],s1.m,false,E⟩:PS).Ok (2 * c) (p+1):=⟨fun t h=>(by cases h),fun y hy=>by have:=k2.marks y hy;omega⟩
          have w5:=w4.stepT (k:=g.ins.length+1) (x:=x) (fun i hi h=>(hsv i hi).1 h) (ts:=s1.ts) (fun t ht=>k2.regs t ht)
          have w6:(stepT g.ins (p+1) (g.ins.length+1) x s1.ts ⟨[],s1.m,false,E⟩).ts.map (·.1)=nextL g.ins (s1.ts.map (·.1)) x:=by
           show (PS.vs (p+1) _).r=_
           rw[w1];rfl
          generalize stepT g.ins (p+1) (g.ins.length+1) x s1.ts ⟨[],s1.m,false,E⟩=s3 at *
          simp +contextual (disch:=omega) only[Try.f55,dd55,go_sem,↓reduceIte,List.reduceReplicate,Nat.reduceAdd,Nat.reduceSub,reduceCtorEq,Nat.reduceLeDiff,Nat.reduceMul,Nat.reduceLT,Nat.reduceEqDiff,Int.reduceBNe,Int.reduceBEq,Int.reduceEq,Int.reduceLT,Int.reduceLE,Int.reduceGT,Int.reduceGE,List.length_append,List.map_append,mu55,Nat.reduceBEq,↓wrap_up,↓wrap_down,↓wrap_pred,↓wrap_sub_nat,Int.reduceToNat]
          refine⟨⟨p+1,true,b7',b8',s1.ts++s1.j,s3,s1.ts.length,true,false,if doneL g.ins (s1.ts.map (·.1))=true then(p:Int) else r⟩,⟨by show a≤p+1;omega,by show p+1≤xs.length;omega,w2,by show s1.ts.length≤(s1.ts++s1.j).length;simp,hres',fun h=>(by cases h),fun _=>⟨by show a < p+1;omega,w3.1,w5,?_⟩⟩,by show xs.length+1 - (p+1) < xs.length+1 - p;omega,?_⟩
          ·show runL g.ins (xs.drop (p+1)) (p+1) (s3.ts.map (·.1)) _=_
           rw[w6];exact hrun _ k4
          ·refine(prep16 (l:=[14,13,12,11,10,8,4,3,2,1]) (t':=[(14,.rf 15 1 0 0),(13,.rf 14 1 0 0),(12,.bool true),(11,.ms 13 3 (s1.ts.length+s1.j.length) 0 s1.ts.length),(10,.rf 11 1 0 0),(8,.sl false (List.replicate (2 * c) (I (-1)))),(4,.rf 9 1 0 0),(3,.clo 56 capS),(2,NV a),(1,NV (p+1))]) (h:=hpA ⟨g,xs,a,b0,b1,b2,b6,b7',b8',.row 1 (List.replicate (2 * c) (I (-1))) (2 * c),s1.ts++s1.j⟩ s3 []) (h':=hpA ⟨g,xs,a,b0,b1,b2,b6,b7',b8',.row 1 (List.replicate (2 * c) (I (-1))) (2 * c),s1.ts++s1.j⟩ s3 []) rfl rfl (headU _ _ _ _ (id:=13) (by omega) _ _) (underA _ _ u0 u1 u2 u6 u7' u8' (u10 c))).trans ?_
           simp only[List.length_append,if_true]
           try rfl
         ·have hu:=underA ⟨g,xs,a,b0,b1,b2,b6,b7',b8',.row 1 (List.replicate (2 * c) (I (-1))) (2 * c),s1.ts++s1.j⟩ ⟨[],s1.m,false,E⟩ u0 u1 u2 u6 u7' u8' (u10 c)
          have e0:stepT g.ins (p+1) (g.ins.length+1) x (s1.ts.take 0) ⟨[],s1.m,false,E⟩=⟨[],s1.m,false,E⟩:=by rw[List.take_zero];rfl
          rw[e0]
          simp only[hpA,List.map_append,List.length_nil,Nat.zero_add,List.map_nil,List.nil_append]at hu ⊢
          exact prep16 (l:=[91,90,89,14,13,12,11,10,8,4,3,2,1]) (t':=[(91,NV 0),(90,NV s1.ts.length),(89,.ms 13 3 (s1.ts.length+s1.j.length) 0 s1.ts.length),(14,.rf 15 1 0 0),(13,.rf 14 1 0 0),(12,.bool true),(11,.ms 13 3 (s1.ts.length+s1.j.length) 0 s1.ts.length),(10,.rf 11 1 0 0),(8,.sl false (List.replicate (2 * c) (I (-1)))),(4,.rf 9 1 0 0),(3,.clo 56 capS),(2,NV a),(1,NV p)]) rfl rfl (innerU _ _ _ _ (by omega) _ _ _ _) hu
       | false=>
         obtain⟨q0,k1,k2,k4⟩:=h2 rfl
         have k3:=hm
         obtain⟨s1,hs1⟩:∃ s1,s1=s:=⟨s,rfl⟩
         rw[← hs1]at k1 k2 k3 k4
         rw[← hs1]
         obtain⟨b7',b8',hse,hre⟩:=seeF_eq ⟨g,xs,a,b0,b1,b2,b6,b7,b8,.row 1 (List.replicate (2 * c) (I (-1))) (2 * c),E⟩ c p s1
         have hres':=hre a r rfl hres
         simp only at hse hres'
         obtain⟨u7',u8'⟩:=hres'.under
         have hc56:=f56B ⟨g,xs,a,b0,b1,b2,b6,b7,b8,.row 1 (List.replicate (2 * c) (I (-1))) (2 * c),E⟩ (by show g.ins.length≤_;omega) c p hc hc9 s1 (by have:=k1.small;simp[PS.vs]at this;omega) (fun t ht=>⟨(k1.res t.1 (List.mem_map.2 ⟨_,ht,rfl⟩)).1,k2.regs t ht⟩) r4 r1 r2 r3 e7 e8
         rw[hse]at hc56
         have kf:(⟨[],s1.m,false,E⟩:PS).vs (p+1)=vs0 g.ins.length:=vs_fresh k3 (fun y hy=>k2.marks y hy) rfl rfl
         by_cases hnil:s1.ts=[]
         ·have hlen0:s1.ts.length=0:=by rw[hnil];rfl
          have hfin:ResOk a (runL g.ins (xs.drop a) a (stateL g.ins [0]) (-1)) b7' b8':=by
           rw[← k4,hnil]
           rw[hnil]at hres'
           simpa [runL_nil,doneL] using hres'
          rcases s1 with ⟨ts1,m1,c1,j1⟩
          simp only at hlen0
          simp only[hpB]at hc56
          cases c1 with
          | true=>
            simp +contextual (disch:=omega) only[Try.f55,dd55,go_sem,↓reduceIte,List.reduceReplicate,Nat.reduceAdd,Nat.reduceSub,reduceCtorEq,Nat.reduceLeDiff,Nat.reduceMul,Nat.reduceLT,Nat.reduceEqDiff,Int.reduceBNe,Int.reduceBEq,Int.reduceEq,Int.reduceLT,Int.reduceLE,Int.reduceGT,Int.reduceGE,List.length_append,List.map_append,mu55,Nat.reduceBEq,↓wrap_up,↓wrap_down,↓wrap_pred,↓wrap_sub_nat,Int.reduceToNat,hc56]
            repeat' (first|intro _|apply And.intro)
            all_goals first|exact⟨_,⟨m1,_,b7',b8',rfl,hfin⟩,rp _ _ _⟩|(exfalso;omega)
          | false=>
            simp +contextual (disch:=omega) only[Try.f55,dd55,go_sem,↓reduceIte,List.reduceReplicate,Nat.reduceAdd,Nat.reduceSub,reduceCtorEq,Nat.reduceLeDiff,Nat.reduceMul,Nat.reduceLT,Nat.reduceEqDiff,Int.reduceBNe,Int.reduceBEq,Int.reduceEq,Int.reduceLT,Int.reduceLE,Int.reduceGT,Int.reduceGE,List.length_append,List.map_append,mu55,Nat.reduceBEq,↓wrap_up,↓wrap_down,↓wrap_pred,↓wrap_sub_nat,Int.reduceToNat,hc56]
            repeat' (first|intro _|apply And.intro)
            all_goals first|exact⟨_,⟨m1,_,b7',b8',rfl,hfin⟩,rp _ _ _⟩|(exfalso;omega)
         have hlen1:0 < s1.ts.length:=List.length_pos_iff.2 hnil
         have hL:s1.ts.map (·.1)≠[]:=by simpa using hnil
         by_cases hend:p=xs.length
         ·have hfin:ResOk a (runL g.ins (xs.drop a) a (stateL g.ins [0]) (-1)) b7' b8':=by
           rw[← k4,hend,List.drop_length]
           simp only[runL,if_neg hL]
           rw[hend]at hres'
           exact hres'
          simp +contextual (disch:=omega) only[Try.f55,dd55,go_sem,↓reduceIte,List.reduceReplicate,Nat.reduceAdd,Nat.reduceSub,reduceCtorEq,Nat.reduceLeDiff,Nat.reduceMul,Nat.reduceLT,Nat.reduceEqDiff,Int.reduceBNe,Int.reduceBEq,Int.reduceEq,Int.reduceLT,Int.reduceLE,Int.reduceGT,Int.reduceGE,List.length_append,List.map_append,mu55,Nat.reduceBEq,↓wrap_up,↓wrap_down,↓wrap_pred,↓wrap_sub_nat,Int.reduceToNat,hc56]
          repeat' (first|intro _|apply And.intro)
          all_goals first|exact⟨_,⟨s1.m,_,b7',b8',rfl,hfin⟩,rp _ _ _⟩|(exfalso;omega)
         obtain⟨x,hx1⟩:∃ x,xs[p]?=some x:=⟨_,List.getElem?_eq_getElem (by omega)⟩
         have hx2:(xs.map I)[p]?=some (I x):=by simp[hx1]
         have hdrop:xs.drop p=x::xs.drop (p+1):=by
          rw[List.drop_eq_getElem_cons (by omega)]
          congr 1
          rw[List.getElem?_eq_getElem (by omega)]at hx1
          exact Option.some.inj hx1
         have hrun:∀ tg:Int,runL g.ins (xs.drop p) p (s1.ts.map (·.1)) r=tg→runL g.ins (xs.drop (p+1)) (p+1) (nextL g.ins (s1.ts.map (·.1)) x) (if doneL g.ins (s1.ts.map (·.1))=true then(p:Int) else r)=tg:=by
          intro tg h
          rw[hdrop]at h
          simpa only[runL,if_neg hL] using h
         simp +contextual (disch:=omega) only[Try.f55,dd55,go_sem,↓reduceIte,List.reduceReplicate,Nat.reduceAdd,Nat.reduceSub,reduceCtorEq,Nat.reduceLeDiff,Nat.reduceMul,Nat.reduceLT,Nat.reduceEqDiff,Int.reduceBNe,Int.reduceBEq,Int.reduceEq,Int.reduceLT,Int.reduceLE,Int.reduceGT,Int.reduceGE,List.length_append,List.map_append,mu55,Nat.reduceBEq,↓wrap_up,↓wrap_down,↓wrap_pred,↓wrap_sub_nat,Int.reduceToNat,hc56]
         repeat' (first|intro _|apply And.intro|(unfold dOk;kernel_rfl)|exact St.beq_refl _|(show altO _ _ _ _=true;kernel_rfl)|(show (_ || _)=true;kernel_rfl)|(show (_ && _)=true;kernel_rfl))
         refine W_count (M:=(mskOf (pol1.mask 55) (pol1.gc 55) (pol1.acts 55) 9 20)) rfl s1.ts.length (fun i=>(⟨131,[(91,NV i),(90,NV s1.ts.length),(89,.ms 13 3 (s1.ts.length+s1.j.length) 0 s1.ts.length),(14,.rf 15 1 0 0),(13,.rf 14 1 0 0),(12,.bool s1.c),(11,.ms 13 3 (s1.ts.length+s1.j.length) 0 s1.ts.length),(10,.rf 11 1 0 0),(8,.sl false (List.replicate (2 * c) (I (-1)))),(4,.rf 9 1 0 0),(3,.clo 56 capS),(2,NV a),(1,NV p)],hpA ⟨g,xs,a,b0,b1,b2,b6,b7',b8',.row 1 (List.replicate (2 * c) (I (-1))) (2 * c),s1.ts++s1.j⟩ (stepT g.ins (p+1) (g.ins.length+1) x (s1.ts.take i) ⟨[],s1.m,false,E⟩) []⟩:St)) (fun _=>True) ?_ ?_ trivial _ ?_
         ·intro i hi _
          obtain⟨t,ht⟩:∃ t,s1.ts[i]?=some t:=⟨_,List.getElem?_eq_getElem hi⟩
          obtain⟨n1,rg⟩:=t
          have hib:i≤1000000:=by have:=k1.small;simp[PS.vs]at this;omega
          have ht':(s1.ts.map (thAV a)++s1.j.map (thAV a))[i]?=some (thAV a (n1,rg)):=by rw[List.getElem?_append_left (by simpa using hi),List.getElem?_map,ht];rfl
          have htm:=List.mem_of_getElem? ht
          have hn1:n1 < g.ins.length:=(k1.res n1 (List.mem_map.2 ⟨_,htm,rfl⟩)).1
          have hrg:rg.length=2 * c:=k2.regs _ htm
          obtain⟨i0,hi0⟩:∃ i0,g.ins[n1]?=some i0:=⟨_,List.getElem?_eq_getElem hn1⟩
          have hi0':(g.ins.map insAV)[n1]?=some (insAV i0):=by simp[hi0]
          have hnx:stepT g.ins (p+1) (g.ins.length+1) x (s1.ts.take (i+1)) ⟨[],s1.m,false,E⟩=stepO g.ins (p+1) (g.ins.length+1) x (n1,rg) (stepT g.ins (p+1) (g.ins.length+1) x (s1.ts.take i) ⟨[],s1.m,false,E⟩):=by
           rw[List.take_add_one,ht];exact stepT_snoc _ _ _ _ _ _ _
          obtain⟨w1,w2⟩:=vs_stepT g.ins (p+1) (g.ins.length+1) x (s1.ts.take i) ⟨[],s1.m,false,E⟩ k3
          rw[kf]at w1
          have w3:=(vs0_ok g.ins.length).visits (ins:=g.ins) (k:=g.ins.length+1) (ns:=afterL g.ins ((s1.ts.take i).map (·.1)) x)
          rw[← w1,vs0_open]at w3
          have hf69:=f69h i0.set x (hset i0 (List.mem_of_getElem? hi0))
          have hc67:n1+1 < g.ins.length→∀ s',s'.m.length=g.ins.length→(s'.vs (p+1)).Ok g.ins.length→(s'.vs (p+1)).open≤g.ins.length→∀ K,call Try.prog pol1 67 (NV (n1+1)::NV (p+1)::I (a:Nat)::.sl false (rg.map I)::capP) (hpA ⟨g,xs,a,b0,b1,b2,b6,b7',b8',.row 1 (List.replicate (2 * c) (I (-1))) (2 * c),s1.ts++s1.j⟩ s' K)=some (.tup [],hpA ⟨g,xs,a,b0,b1,b2,b6,b7',b8',.row 1 (List.replicate (2 * c) (I (-1))) (2 * c),s1.ts++s1.j⟩ (pvisit g.ins (p+1) (g.ins.length+1) (n1+1) rg s') K):=
           fun h s' a1 a2 a3 K=>f67A ⟨g,xs,a,b0,b1,b2,b6,b7',b8',.row 1 (List.replicate (2 * c) (I (-1))) (2 * c),s1.ts++s1.j⟩ (by show g.ins.length≤_;omega) hw (p+1) (by omega) (2 * c) (by omega) hsv (g.ins.length+1) (n1+1) rg s' K h hrg a1 a2 (by omega)
          have hprep:∀(s':PS) (J:List MB) (t:Tm),keepT (some [91,90,89,14,13,12,11,10,8,4,3,2,1]) t=[(91,NV (i+1)),(90,NV s1.ts.length),(89,.ms 13 3 (s1.ts.length+s1.j.length) 0 s1.ts.length),(14,.rf 15 1 0 0),(13,.rf 14 1 0 0),(12,.bool s1.c),(11,.ms 13 3 (s1.ts.length+s1.j.length) 0 s1.ts.length),(10,.rf 11 1 0 0),(8,.sl false (List.replicate (2 * c) (I (-1)))),(4,.rf 9 1 0 0),(3,.clo 56 capS),(2,NV a),(1,NV p)]→prep (mskOf (pol1.mask 55) (pol1.gc 55) (pol1.acts 55) 9 20) ⟨131,t,(b0::b1::b2::.row 1 (s'.m.map I) 0::.row 5 [mach g xs] 0::.row 1 [.rf 4 1 0 0] 0::b6::b7'::b8'::.row 1 [.rf 4 1 0 0] 0::.row 1 (List.replicate (2 * c) (I (-1))) (2 * c)::.row 1 [.ms 12 3 (s'.ts.length+s'.j.length) 0 s'.ts.length] 0::.row 3 (s'.ts.map (thAV a)++s'.j.map (thAV a)) 0::.row 3 (s1.ts.map (thAV a)++s1.j.map (thAV a)) 0::.row 1 [.bool s'.c] 0::.row 1 [.clo 67 capP] 0::J)⟩=⟨131,[(91,NV (i+1)),(90,NV s1.ts.length),(89,.ms 13 3 (s1.ts.length+s1.j.length) 0 s1.ts.length),(14,.rf 15 1 0 0),(13,.rf 14 1 0 0),(12,.bool s1.c),(11,.ms 13 3 (s1.ts.length+s1.j.length) 0 s1.ts.length),(10,.rf 11 1 0 0),(8,.sl false (List.replicate (2 * c) (I (-1)))),(4,.rf 9 1 0 0),(3,.clo 56 capS),(2,NV a),(1,NV p)],hpA ⟨g,xs,a,b0,b1,b2,b6,b7',b8',.row 1 (List.replicate (2 * c) (I (-1))) (2 * c),s1.ts++s1.j⟩ s' []⟩:=by
           intro s' J t e1
           have e2:(b0::b1::b2::.row 1 (s'.m.map I) 0::.row 5 [mach g xs] 0::.row 1 [.rf 4 1 0 0] 0::b6::b7'::b8'::.row 1 [.rf 4 1 0 0] 0::.row 1 (List.replicate (2 * c) (I (-1))) (2 * c)::.row 1 [.ms 12 3 (s'.ts.length+s'.j.length) 0 s'.ts.length] 0::.row 3 (s'.ts.map (thAV a)++s'.j.map (thAV a)) 0::.row 3 (s1.ts.map (thAV a)++s1.j.map (thAV a)) 0::.row 1 [.bool s'.c] 0::.row 1 [.clo 67 capP] 0::J)=hpA ⟨g,xs,a,b0,b1,b2,b6,b7',b8',.row 1 (List.replicate (2 * c) (I (-1))) (2 * c),s1.ts++s1.j⟩ s' J:=by simp only[hpA,List.map_append]
           rw[e2]
           exact prep16 (l:=[91,90,89,14,13,12,11,10,8,4,3,2,1]) e1 rfl (innerU _ _ _ _ (by omega) _ _ _ _) (underA _ _ u0 u1 u2 u6 u7' u8' (u10 c))
          have h01:stepO g.ins (p+1) (g.ins.length+1) x (n1,rg) (stepT g.ins (p+1) (g.ins.length+1) x (s1.ts.take i) ⟨[],s1.m,false,E⟩)=(if i0.op=1∧hasSpan i0.set x=true then pvisit g.ins (p+1) (g.ins.length+1) (n1+1) rg (stepT g.ins (p+1) (g.ins.length+1) x (s1.ts.take i) ⟨[],s1.m,false,E⟩) else stepT g.ins (p+1) (g.ins.length+1) x (s1.ts.take i) ⟨[],s1.m,false,E⟩):=by
           unfold stepO;rw[hi0]
          rw[hnx,h01]
          generalize stepT g.ins (p+1) (g.ins.length+1) x (s1.ts.take i) ⟨[],s1.m,false,E⟩=s2 at *
          by_cases h1:i0.op=1
          ·cases h2:hasSpan i0.set x with
           | true=>
             rw[if_pos ⟨h1,rfl⟩]
             rw[h2]at hf69
             have hc:=fun J1 J2=>hc67 ((hw n1 i0 hi0).2.2.2 (.inl h1)) s2 w2 w3.1 w3.2 [J1,J2]
             simp only[hpA,List.map_append]at hc
             simp +contextual (disch:=omega) only[Try.f55,dd55,go_sem,↓reduceIte,List.reduceReplicate,Nat.reduceAdd,Nat.reduceSub,reduceCtorEq,Nat.reduceLeDiff,Nat.reduceMul,Nat.reduceLT,Nat.reduceEqDiff,Int.reduceBNe,Int.reduceBEq,Int.reduceEq,Int.reduceLT,Int.reduceLE,Int.reduceGT,Int.reduceGE,List.length_append,List.map_append,mu55,Nat.reduceBEq,↓wrap_up,↓wrap_down,↓wrap_pred,↓wrap_sub_nat,Int.reduceToNat,ht',hi0',h1,hf69,hx2,hc,sameAt_succ]
             repeat' (first|intro _|apply And.intro|(unfold dOk;kernel_rfl)|exact St.beq_refl _|(show altO _ _ _ _=true;kernel_rfl)|(show (_ || _)=true;kernel_rfl)|(show (_ && _)=true;kernel_rfl))
             all_goals (refine hprep (pvisit g.ins (p+1) (g.ins.length+1) (n1+1) rg s2) [_,_] _ ?_;rfl)
           | false=>
             rw[if_neg (by simp)]
             rw[h2]at hf69
             simp +contextual (disch:=omega) only[Try.f55,dd55,go_sem,↓reduceIte,List.reduceReplicate,Nat.reduceAdd,Nat.reduceSub,reduceCtorEq,Nat.reduceLeDiff,Nat.reduceMul,Nat.reduceLT,Nat.reduceEqDiff,Int.reduceBNe,Int.reduceBEq,Int.reduceEq,Int.reduceLT,Int.reduceLE,Int.reduceGT,Int.reduceGE,List.length_append,List.map_append,mu55,Nat.reduceBEq,↓wrap_up,↓wrap_down,↓wrap_pred,↓wrap_sub_nat,Int.reduceToNat,ht',hi0',h1,hf69,hx2,sameAt_succ]
             repeat' (first|intro _|apply And.intro|(unfold dOk;kernel_rfl)|exact St.beq_refl _|(show altO _ _ _ _=true;kernel_rfl)|(show (_ || _)=true;kernel_rfl)|(show (_ && _)=true;kernel_rfl))
             all_goals (refine hprep s2 [_,_] _ ?_;rfl)
          ·rw[if_neg (by simp[h1])]
           simp +contextual (disch:=omega) only[Try.f55,dd55,go_sem,↓reduceIte,List.reduceReplicate,Nat.reduceAdd,Nat.reduceSub,reduceCtorEq,Nat.reduceLeDiff,Nat.reduceMul,Nat.reduceLT,Nat.reduceEqDiff,Int.reduceBNe,Int.reduceBEq,Int.reduceEq,Int.reduceLT,Int.reduceLE,Int.reduceGT,Int.reduceGE,List.length_append,List.map_append,mu55,Nat.reduceBEq,↓wrap_up,↓wrap_down,↓wrap_pred,↓wrap_sub_nat,Int.reduceToNat,ht',hi0',h1,sameAt_succ]
           repeat' (first|intro _|apply And.intro|(unfold dOk;kernel_rfl)|exact St.beq_refl _|(show altO _ _ _ _=true;kernel_rfl)|(show (_ || _)=true;kernel_rfl)|(show (_ && _)=true;kernel_rfl))
           all_goals (refine hprep s2 [_,_] _ ?_;rfl)
         ·intro _
          rw[List.take_of_length_le (Nat.le_refl _)]
          obtain⟨w1,w2⟩:=vs_stepT g.ins (p+1) (g.ins.length+1) x s1.ts ⟨[],s1.m,false,E⟩ k3
          rw[kf]at w1
          have w3:=(vs0_ok g.ins.length).visits (ins:=g.ins) (k:=g.ins.length+1) (ns:=afterL g.ins (s1.ts.map (·.1)) x)
          rw[← w1]at w3
          have w4:(⟨[],s1.m,false,E⟩:PS).Ok (2 * c) (p+1):=⟨fun t h=>(by cases h),fun y hy=>by have:=k2.marks y hy;omega⟩
          have w5:=w4.stepT (k:=g.ins.length+1) (x:=x) (fun i hi h=>(hsv i hi).1 h) (ts:=s1.ts) (fun t ht=>k2.regs t ht)
          have w6:(stepT g.ins (p+1) (g.ins.length+1) x s1.ts ⟨[],s1.m,false,E⟩).ts.map (·.1)=nextL g.ins (s1.ts.map (·.1)) x:=by
           show (PS.vs (p+1) _).r=_
           rw[w1];rfl
          generalize stepT g.ins (p+1) (g.ins.length+1) x s1.ts ⟨[],s1.m,false,E⟩=s3 at *
          simp +contextual (disch:=omega) only[Try.f55,dd55,go_sem,↓reduceIte,List.reduceReplicate,Nat.reduceAdd,Nat.reduceSub,reduceCtorEq,Nat.reduceLeDiff,Nat.reduceMul,Nat.reduceLT,Nat.reduceEqDiff,Int.reduceBNe,Int.reduceBEq,Int.reduceEq,Int.reduceLT,Int.reduceLE,Int.reduceGT,Int.reduceGE,List.length_append,List.map_append,mu55,Nat.reduceBEq,↓wrap_up,↓wrap_down,↓wrap_pred,↓wrap_sub_nat,Int.reduceToNat]
          refine⟨⟨p+1,true,b7',b8',s1.ts++s1.j,s3,s1.ts.length,s1.c,false,if doneL g.ins (s1.ts.map (·.1))=true then(p:Int) else r⟩,⟨by show a≤p+1;omega,by show p+1≤xs.length;omega,w2,by show s1.ts.length≤(s1.ts++s1.j).length;simp,hres',fun h=>(by cases h),fun _=>⟨by show a < p+1;omega,w3.1,w5,?_⟩⟩,by show xs.length+1 - (p+1) < xs.length+1 - p;omega,?_⟩
          ·show runL g.ins (xs.drop (p+1)) (p+1) (s3.ts.map (·.1)) _=_
           rw[w6];exact hrun _ k4
          ·refine(prep16 (l:=[14,13,12,11,10,8,4,3,2,1]) (t':=[(14,.rf 15 1 0 0),(13,.rf 14 1 0 0),(12,.bool s1.c),(11,.ms 13 3 (s1.ts.length+s1.j.length) 0 s1.ts.length),(10,.rf 11 1 0 0),(8,.sl false (List.replicate (2 * c) (I (-1)))),(4,.rf 9 1 0 0),(3,.clo 56 capS),(2,NV a),(1,NV (p+1))]) (h:=hpA ⟨g,xs,a,b0,b1,b2,b6,b7',b8',.row 1 (List.replicate (2 * c) (I (-1))) (2 * c),s1.ts++s1.j⟩ s3 []) (h':=hpA ⟨g,xs,a,b0,b1,b2,b6,b7',b8',.row 1 (List.replicate (2 * c) (I (-1))) (2 * c),s1.ts++s1.j⟩ s3 []) rfl rfl (headU _ _ _ _ (id:=13) (by omega) _ _) (underA _ _ u0 u1 u2 u6 u7' u8' (u10 c))).trans ?_
           simp only[List.length_append,if_true]
           try rfl
         ·have hu:=underA ⟨g,xs,a,b0,b1,b2,b6,b7',b8',.row 1 (List.replicate (2 * c) (I (-1))) (2 * c),s1.ts++s1.j⟩ ⟨[],s1.m,false,E⟩ u0 u1 u2 u6 u7' u8' (u10 c)
          have e0:stepT g.ins (p+1) (g.ins.length+1) x (s1.ts.take 0) ⟨[],s1.m,false,E⟩=⟨[],s1.m,false,E⟩:=by rw[List.take_zero];rfl
          rw[e0]
          simp only[hpA,List.map_append,List.length_nil,Nat.zero_add,List.map_nil,List.nil_append]at hu ⊢
          exact prep16 (l:=[91,90,89,14,13,12,11,10,8,4,3,2,1]) (t':=[(91,NV 0),(90,NV s1.ts.length),(89,.ms 13 3 (s1.ts.length+s1.j.length) 0 s1.ts.length),(14,.rf 15 1 0 0),(13,.rf 14 1 0 0),(12,.bool s1.c),(11,.ms 13 3 (s1.ts.length+s1.j.length) 0 s1.ts.length),(10,.rf 11 1 0 0),(8,.sl false (List.replicate (2 * c) (I (-1)))),(4,.rf 9 1 0 0),(3,.clo 56 capS),(2,NV a),(1,NV p)]) rfl rfl (innerU _ _ _ _ (by omega) _ _ _ _) hu
  ·exact⟨Nat.le_refl _,ha,by simp,Nat.le_refl _,⟨rfl,.inl ⟨by show (-1:Int) < 0;decide,rfl⟩⟩,fun _=>⟨rfl,rfl,rfl,rfl⟩,fun h=>by cases h⟩
  ·simp only[if_true,hpA,List.map_replicate]
   exact prep16 (l:=[14,13,12,11,10,8,4,3,2,1]) rfl rfl (headU _ _ _ _ (.inr rfl) _ _) (by
    have:=underA ⟨g,xs,a,b0,b1,b2,b6,.row 3 [.agg [I 0,I 0,.sl true []]] 0,.row 1 [.bool false] 0,.row 1 (List.replicate (2 * c) (I (-1))) (2 * c),[]⟩ ⟨[],List.replicate g.ins.length 0,false,[]⟩ u0 u1 u2 u6 rfl rfl (u10 c)
    simpa only[hpA,List.map_replicate] using this)
 ·simp[List.map_replicate]
  rfl
end Go.Ev
