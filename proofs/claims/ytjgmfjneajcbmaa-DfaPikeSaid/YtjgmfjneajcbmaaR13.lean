/- Functions of the program, each with what it computes; no further conditions. -/
import Derived.Test.YtjgmfjneajcbmaaR06
import Derived.Test.YtjgmfjneajcbmaaR12
set_option linter.unusedVariables false
set_option linter.unusedSimpArgs false
namespace Go.Ev
attribute [local go_sem] eq_self bindW_some bindW_map bindW_ite bindW_iteN W_seq W_region W_draw W_cond W_condK W_ret W_skip W_exit W_scope W_label W_block blockK_norm blockK_ret blockK_exit WO_nil WO_cons WO_guard WD_nil WD_cons WD_guard guardV guardW_boolT guardW_boolF guardW_tup fpL_some fpL_none footprint footprint0 fineF thenK_norm thenK_ret thenK_exit put_some put_none ev_tmp ev_con ev_func ofK_int ofK_bool ofK_str ofK_nil ofK_agg ofC_int ofC_bool ofC_str ofC_nil ofC_nilp one_int one_bool one_str one_nil one_nilp evOp evBuiltin evCall evLen getElem_16 getElem_4 List.length_cons List.length_nil List.cons_append List.nil_append List.append_nil if_false if_true Bool.false_eq_true Bool.true_eq_false Option.map_some Option.map_none List.map_cons List.map_nil evBinOp evBin evUn asB_bool splitB_decide splitB_true splitB_false splitB_beq splitB_bne splitB_not endK_ret endK_norm List.getElem?_cons_zero List.getElem?_cons_succ evResults evResult packRes retK_norm retK_ret cellsAt mkVal evFieldAddr evField evIndexAddr evPart evStore evBuild evBuildSlice fillC fillE evMakeSlice evConvert getRow AV.cells List.head?_cons List.drop_zero List.drop_succ_cons List.take_zero List.take_succ_cons List.drop_nil List.take_nil List.all_cons List.all_nil AV.ok Bool.and_self Bool.and_true Bool.true_and and_self and_true true_and Nat.zero_add Nat.add_zero setCells splice pairsOk pairsX altW_none altW_some cfg_al WI_nil WI_cons FP.apart heapEq_refl sameAt_refl Bool.or_true Bool.true_or Bool.or_false srcElems elemsOf mutDst indDst evLenH evMapUpd evLookup getMp keyOk resOk strOf roundK_norm roundK_exit roundK_ret List.length_map List.getElem?_map Int.toNat_natCast decide_true decide_false Bool.not_true Bool.not_false List.set set_0 set_1 set_2 set_3 set_4 look_hit look lookD_hit lookD_cons lookD_nil ins_hit ins upd_hit upd rem1_hit rem1 dropT dropSt_eq initT cfg_dd cfg_bd cfg_ra actL_nil actL_cons act1 updT_hit updT frzB retE_norm retE_ret bndO bnd evEq eqCells not_false_eq_true not_true_eq_false toList_some Array.size_empty List.length_append List.map_append tySzE List.head?_drop Nat.mul_one sameAt_zero sameAt_two sameAt_three sameAt_four sameAt_five endE_norm endE_ret head_take1 List.contains_nil List.contains_cons Bool.or_self dlt_t dlt_f dle_t dle_f dgt_t dgt_f dge_t dge_f beq_t beq_f bne_t bne_f lt_T le_T nle_T nle_F Go.IntWalk.i64_in Go.IntWalk.i64_quo Go.IntWalk.rem_in room_ok
section
attribute [local go_sem] ty0 ty3 ty4 ty22 ty42 ty44 ty51 ty87 ty120 ty122 ty124 ty155
open Go.Proofs Go.RowKit Go.IntWalk
set_option maxRecDepth 100000
set_option maxHeartbeats 8000000
abbrev thAV (f:Int) (t:Nat×List Int):AV:=.agg [NV t.1,I f,.sl false (t.2.map I)]
theorem plain_th (f:Int) (l:List (Nat×List Int)):AV.plainL (l.map (thAV f))=true:=by
 induction l with
 | nil=>rfl
 | cons a l ih=>simp[AV.plainL,AV.plain,plain_ints,ih]
abbrev capP:List AV:=[.rf 14 1 0 0,.rf 9 1 0 0,.rf 11 1 0 0,.rf 15 1 0 0]
abbrev mach (g:Prg) (xs:List Int):AV:=.agg [.sl false (g.ins.map insAV),I g.caps,.bool g.runes,.sl false (xs.map I),.ms 3 1 g.ins.length 0 g.ins.length]
structure PF where
 g:Prg
 xs:List Int
 f:Int
 b0:MB
 b1:MB
 b2:MB
 b6:MB
 b7:MB
 b8:MB
 b10:MB
 E:List (Nat×List Int)
theorem app_th {H:List MB} {id n j:Nat} {f:Int} {c:Nat×List Int} {ts js:List (Nat×List Int)} {t:Bool} (hi:getRow H id=some (3,ts.map (thAV f)++js.map (thAV f),0)) (hn:ts.length=n) (hj:js.length=j) (hr:n+1≤4000000000) :
  evAppend Try.prog H 122 122 (.ms id 3 (n+j) 0 n) (.sl t [thAV f c])=some (.ms id 3 (n+1+(js.drop 1).length) 0 (n+1),H.set id (.row 3 ((ts++[c]).map (thAV f)++(js.drop 1).map (thAV f)) 0)):=by
 have hs:srcElems Try.prog H 124 (.sl t [thAV f c])=some [thAV f c]:=rfl
 have he:tyElem Try.prog 122=some 124:=by kernel_rfl
 have hx:tyNotInt Try.prog 122=true:=by kernel_rfl
 have hk:tySz Try.prog 124=some 3:=by kernel_rfl
 have hb:tyBytes Try.prog 124=some 40:=by kernel_rfl
 have hz:tyZero Try.prog 124=some (.agg [I 0,I 0,.sl true []]):=by kernel_rfl
 unfold evAppend
 simp only[he,hx,hk,hb,hz,hs]
 rw[if_pos ⟨rfl,by omega,rfl⟩]
 simp only[hi]
 subst hn;subst hj
 rw[if_pos ⟨by simp,trivial,trivial,by omega⟩,if_pos ⟨by omega,room_ok (by simp;omega) (by omega)⟩]
 have ht:(ts.map (thAV f)++js.map (thAV f)).take (0+ts.length)=ts.map (thAV f):=by rw[Nat.zero_add,List.take_append_of_le_length (by simp),List.take_of_length_le (by simp)]
 cases js with
 | nil=>
   rw[if_neg (by simp)]
   simp[List.take_of_length_le]
 | cons y js=>
   have hd:((ts.map (thAV f)++(y::js).map (thAV f)).drop (0+ts.length+1))=js.map (thAV f):=by
    have e:ts.map (thAV f)++(y::js).map (thAV f)=(ts.map (thAV f)++[thAV f y])++js.map (thAV f):=by simp
    rw[e,Nat.zero_add,List.drop_append_of_le_length (by simp),List.drop_of_length_le (by simp)];rfl
   rw[if_pos (by simp)]
   simp only[List.length_cons,List.length_nil,Nat.zero_add]at hd ht ⊢
   rw[ht,hd]
   simp
   omega
theorem call_frz3 {P:Program} {pol:Pol} {f:Nat} {args l:List AV} {H H1:List MB} (hp:pol.pure f=false) (he:pol.ext f=none) (h:frzArgs pol f 0 args H=some (l,H1)) (h2:frzArgs pol f 0 l H1=some (l,H1)) :
  call P pol f args H=call P pol f l H1:=by
 rw[call_eq,call_eq]
 unfold evStep
 simp only[hp,Bool.false_eq_true,if_false]
 unfold evBody
 simp only[he,h,h2]
theorem kept_app (n:Nat) (K K':List MB):keptOk n K (K++K')=true:=by
 induction K with
 | nil=>cases K'<;>rfl
 | cons x K ih=>simp[keptOk,MB.beq_refl,ih]
theorem getM1 (K:List MB) (x y:MB):(K++[x]++[y])[K.length]?=some x:=by simp
theorem getM2 (K:List MB) (x y:MB):(K++[x]++[y])[K.length+1]?=some y:=by simp
theorem setM2 (K:List MB) (x y z:MB):(K++[x]++[y]).set (K.length+1) z=K++[x]++[z]:=by
 rw[List.set_append_right _ _ (by simp)];simp
theorem sameAt_15 (a0 a1 a2 a3 a4 a5 a6 a7 a8 a9 a10 a11 a12 a13 a14 a15:MB) (T T':List MB):sameAt 15 (a0::a1::a2::a3::a4::a5::a6::a7::a8::a9::a10::a11::a12::a13::a14::a15::T) (a0::a1::a2::a3::a4::a5::a6::a7::a8::a9::a10::a11::a12::a13::a14::a15::T')=true:=by
 simp[sameAt,MB.beq_refl]
theorem ints_one (l:List Int):((l.map I).all fun y=>decide (y.cells.length=1))=true:=by
 simp[AV.cells]
theorem sl_max {H:List MB} {r:List Int} {N:Nat} {b:Bool} (h:N≤r.length):evSlice Try.prog H 22 (.sl b (r.map I)) none (some (NV N)) (some (NV N))=some (.sl true ((r.take N).map I),H):=by
 have he:tyElem Try.prog 22=some 3:=by kernel_rfl
 have hk:tySz Try.prog 3=some 1:=by kernel_rfl
 unfold evSlice
 simp only[he,hk,ints_one,if_true,bnd,bndH,bndO,List.length_map]
 rw[if_pos (by omega)]
 simp
theorem sl_lo {H:List MB} {r:List Int} {N:Nat} {b:Bool} (h:N≤r.length):evSlice Try.prog H 22 (.sl b (r.map I)) (some (NV N)) none none=some (.sl b ((r.drop N).map I),H):=by
 have he:tyElem Try.prog 22=some 3:=by kernel_rfl
 have hk:tySz Try.prog 3=some 1:=by kernel_rfl
 unfold evSlice
 simp only[he,hk,ints_one,if_true,bnd,bndO,List.length_map]
 rw[if_pos (by omega)]
 have e:(r.map I).take r.length=r.map I:=List.take_of_length_le (by simp)
 simp[e]
theorem reg_app {H:List MB} {id:Nat} {a:List Int} {c:Int} (hr:a.length+1≤4000000000) :
  evAppend Try.prog H 22 22 (.sl true (a.map I)) (.sl true [I c])=some (.ms H.length 1 (a.length+1) 0 (a.length+1),H++[.row 1 ((a++[c]).map I) 0]):=by
 have hs:srcElems Try.prog H 3 (.sl true [I c])=some [I c]:=rfl
 have he:tyElem Try.prog 22=some 3:=by kernel_rfl
 have hx:tyNotInt Try.prog 22=true:=by kernel_rfl
 have hk:tySz Try.prog 3=some 1:=by kernel_rfl
 have hb:tyBytes Try.prog 3=some 8:=by kernel_rfl
 have hz:tyZero Try.prog 3=some (I 0):=by kernel_rfl
 unfold evAppend
 simp only[he,hx,hk,hb,hz,hs]
 rw[if_pos ⟨rfl,by omega,rfl⟩]
 rw[if_pos ⟨trivial,room_ok (by simpa using hr) (by omega),by simp[AV.cells]⟩]
 simp
theorem reg_app2 {H:List MB} {id n:Nat} {a b:List Int} {t:Bool} (hi:getRow H id=some (1,a.map I,0)) (hn:a.length=n) (hr:n+b.length≤4000000000) :
  evAppend Try.prog H 22 22 (.ms id 1 n 0 n) (.sl t (b.map I))=some (.ms id 1 (n+b.length) 0 (n+b.length),H.set id (.row 1 ((a++b).map I) 0)):=by
 have hs:srcElems Try.prog H 3 (.sl t (b.map I))=some (b.map I):=rfl
 rw[evAppend_end (e:=3) (by kernel_rfl) (by kernel_rfl) (k:=1) (by kernel_rfl) (by_:=8) (by kernel_rfl) (ze:=I 0) (by kernel_rfl) rfl (by omega) hs (by simp[AV.cells,AV.ok]) hi (by rw[List.length_map];exact hn) (Nat.zero_le _) (room_ok (by simpa using hr) (by omega))]
 rw[List.map_append,List.length_map]
abbrev hpA (F:PF) (s:PS) (K:List MB):List MB:=
 F.b0::F.b1::F.b2::.row 1 (s.m.map I) 0::.row 5 [mach F.g F.xs] 0::.row 1 [.rf 4 1 0 0] 0::F.b6::F.b7::F.b8::.row 1 [.rf 4 1 0 0] 0::F.b10 ::
  .row 1 [.ms 12 3 (s.ts.length+s.j.length) 0 s.ts.length] 0::.row 3 (s.ts.map (thAV F.f)++s.j.map (thAV F.f)) 0::.row 3 (F.E.map (thAV F.f)) 0::.row 1 [.bool s.c] 0::.row 1 [.clo 67 capP] 0::K
theorem keptA (F:PF) (s s':PS) (K K':List MB):keptOk (hpA F s K).length (hpA F s K) (hpA F s' (K++K'))=true:=by
 have hp1:=fun n=>underL_plain n _ (plain_ints s'.m)
 have hp2:=fun n=>underL_plain n _ (plain_th F.f s'.ts)
 have hp3:=fun n=>underL_plain n _ (plain_th F.f s'.j)
 simp only[hpA,keptOk,MB.beq_refl,kept_app,MB.under,AV.underL,AV.under,hp1,underL_append,hp2,hp3,Bool.and_self,Bool.or_true,Bool.true_or,Bool.and_true,Bool.true_and,List.length_cons]
 simp
theorem f67A (F:PF) (hl:F.g.ins.length≤1000000) (hw:Leads F.g.ins) (q:Nat) (hq:q≤1000000) (R:Nat) (hR:R≤1000) (hsv:∀ i∈F.g.ins,(i.op=4→0≤i.n∧i.n.toNat < R)∧i.op≠5) :
  ∀(k n:Nat) (r:List Int) (s:PS) (K:List MB),n < F.g.ins.length→r.length=R→s.m.length=F.g.ins.length→(s.vs q).Ok F.g.ins.length→(s.vs q).open < k →
  call Try.prog pol1 67 (NV n::NV q::I F.f::.sl false (r.map I)::capP) (hpA F s K)=some (.tup [],hpA F (pvisit F.g.ins q k n r s) K):=by
 intro k
 induction k with
 | zero=>intro n r s K _ _ _ _ h;omega
 | succ k ih=>
   intro n r s K hn hr hm hs ho
   refine call_run2 (pol:=pol1) Try.func67 rfl rfl rfl rfl (frzArgs_mix _ _ _ (by have h:AV.plain (.sl false (r.map I))=true:=by { simp[AV.plain,plain_ints] };simp only[mixOk,h,Bool.or_true,Bool.true_and];rfl)) ?_
   have fin:∀(s':PS) (K':List MB),retPol pol1 67 (hpA F s K) (.tup []) (hpA F s' (K++K'))=some (.tup [],hpA F s' K):=
    fun s' K'=>retPol_keep rfl rfl rfl (keptA F s s' K K') (by simp[hpA])
   obtain⟨x,hx⟩:∃ x,s.m[n]?=some x:=⟨_,List.getElem?_eq_getElem (by omega)⟩
   have hx':(s.m.map I)[n]?=some (I x):=by simp[hx]
   by_cases hc:s.c=true
   ·have e:pvisit F.g.ins q (k+1) n r s=s:=by simp only[pvisit];rw[if_pos (.inl hc)]
    rw[e]
    have:=fin s []
    rw[List.append_nil]at this
    simp +contextual (disch:=omega) only[Try.f67,dd67,go_sem,↓reduceIte,evAppend,List.reduceReplicate,Nat.reduceAdd,Nat.reduceSub,reduceCtorEq,evSlice,Nat.reduceLeDiff,Nat.reduceMul,Nat.reduceLT,Nat.reduceEqDiff,Int.reduceBNe,Int.reduceBEq,Int.reduceEq,Int.reduceLT,Int.reduceLE,Int.reduceGT,Int.reduceGE,mu67,Nat.reduceBEq,↓wrap_up,↓wrap_down,↓wrap_pred,↓wrap_sub_nat,Int.reduceToNat,hc]
    simpa only[hc] using this
   have hc':s.c=false:=by simpa using hc
   by_cases hxq:x=((q+1:Nat):Int)
   ·have e:pvisit F.g.ins q (k+1) n r s=s:=by simp only[pvisit];rw[if_pos (.inr (by rw[hx,hxq]))]
    rw[e]
    have:=fin s []
    rw[List.append_nil]at this
    simp +contextual (disch:=omega) only[Try.f67,dd67,go_sem,↓reduceIte,evAppend,List.reduceReplicate,Nat.reduceAdd,Nat.reduceSub,reduceCtorEq,evSlice,Nat.reduceLeDiff,Nat.reduceMul,Nat.reduceLT,Nat.reduceEqDiff,Int.reduceBNe,Int.reduceBEq,Int.reduceEq,Int.reduceLT,Int.reduceLE,Int.reduceGT,Int.reduceGE,mu67,Nat.reduceBEq,↓wrap_up,↓wrap_down,↓wrap_pred,↓wrap_sub_nat,Int.reduceToNat,hc',hx',hm,hxq]
    simpa only[hc'] using this
   obtain⟨i,hi⟩:∃ i,F.g.ins[n]?=some i:=⟨_,List.getElem?_eq_getElem hn⟩
   have hi':(F.g.ins.map insAV)[n]?=some (insAV i):=by simp[hi]
   obtain⟨w0,w1,w2,w3⟩:=hw n i hi
   obtain⟨v1,v2⟩:=hsv i (List.mem_of_getElem? hi)
   have hset:(s.m.map I).set n (NV (q+1))=(s.mark q n).m.map I:=by simp only[PS.mark,List.map_set]
   rw[show pvisit F.g.ins q (k+1) n r s=_ by simp only[pvisit];rw[if_neg (by rw[hx,hc'];simpa using hxq)],hi]
   simp only
   have hfalse:(s.vs q).a[n]?=some false:=by simp only[PS.vs,List.getElem?_map,hx,Option.map_some];simpa using hxq
   have hom:=open_mark (s:=s.vs q) (n:=n) hfalse
   rw[← vs_mark]at hom
   have hmk:((s.mark q n).vs q).Ok F.g.ins.length:=by rw[vs_mark];exact hs.mark
   have hml:(s.mark q n).m.length=F.g.ins.length:=by simp[PS.mark,hm]
   have hsm:s.ts.length≤F.g.ins.length:=by have:=hs.small;simpa [PS.vs] using this
   have hgl:=fun x:MB=>get_last K x
   have hsl:=fun x y:MB=>set_last K x y
   have hgi:∀(T:List MB),F.b0=F.b0:=fun _=>rfl
   have happ:∀(y0 y1 y2 y3 y4 y5 y6 y7 y8 y9 y10 y11:MB) (T:List MB) (t:Bool),evAppend Try.prog (y0::y1::y2::y3::y4::y5::y6::y7::y8::y9::y10::y11::.row 3 (s.ts.map (thAV F.f)++s.j.map (thAV F.f)) 0::T) 122 122 (.ms 12 3 (s.ts.length+s.j.length) 0 s.ts.length) (.sl t [.agg [NV n,I F.f,.sl false (r.map I)]]) =
     some (.ms 12 3 (s.ts.length+1+(s.j.drop 1).length) 0 (s.ts.length+1),y0::y1::y2::y3::y4::y5::y6::y7::y8::y9::y10::y11::.row 3 ((s.ts++[(n,r)]).map (thAV F.f)++(s.j.drop 1).map (thAV F.f)) 0::T):=
    fun y0 y1 y2 y3 y4 y5 y6 y7 y8 y9 y10 y11 T t=>app_th (c:=(n,r)) rfl rfl rfl (by omega)
   by_cases h0:i.op=0
   ·rw[if_pos h0]
    have:=fin (s.found q n r true) [.row 5 [.agg [I 0,I i.x,I i.y,I i.n,.sl false (i.set.map spanAV)]] 0]
    simp +contextual (disch:=omega) only[Try.f67,dd67,go_sem,↓reduceIte,List.reduceReplicate,Nat.reduceAdd,Nat.reduceSub,reduceCtorEq,evSlice,Nat.reduceLeDiff,Nat.reduceMul,Nat.reduceLT,Nat.reduceEqDiff,Int.reduceBNe,Int.reduceBEq,Int.reduceEq,Int.reduceLT,Int.reduceLE,Int.reduceGT,Int.reduceGE,mu67,Nat.reduceBEq,↓wrap_up,↓wrap_down,↓wrap_pred,↓wrap_sub_nat,Int.reduceToNat,hc',hx',hm,hxq,hi',hset,h0,hgl,hsl,happ]
    simpa only[hpA,PS.found,PS.mark,hc',List.length_append,List.length_cons,List.length_nil,Nat.zero_add,List.map_append,List.map_cons,List.map_nil] using this
   rw[if_neg h0]
   by_cases h1:i.op=1
   ·rw[if_pos h1]
    have:=fin (s.found q n r false) [.row 5 [.agg [I 1,I i.x,I i.y,I i.n,.sl false (i.set.map spanAV)]] 0]
    simp +contextual (disch:=omega) only[Try.f67,dd67,go_sem,↓reduceIte,List.reduceReplicate,Nat.reduceAdd,Nat.reduceSub,reduceCtorEq,evSlice,Nat.reduceLeDiff,Nat.reduceMul,Nat.reduceLT,Nat.reduceEqDiff,Int.reduceBNe,Int.reduceBEq,Int.reduceEq,Int.reduceLT,Int.reduceLE,Int.reduceGT,Int.reduceGE,mu67,Nat.reduceBEq,↓wrap_up,↓wrap_down,↓wrap_pred,↓wrap_sub_nat,Int.reduceToNat,hc',hx',hm,hxq,hi',hset,h1,hgl,hsl,happ]
    simpa only[hpA,PS.found,PS.mark,hc',List.length_append,List.length_cons,List.length_nil,Nat.zero_add,List.map_append,List.map_cons,List.map_nil] using this
   rw[if_neg h1]
   have hcall:∀(n':Nat) (r':List Int) (s':PS) (K':List MB),n' < F.g.ins.length→r'.length=R→s'.m.length=F.g.ins.length→(s'.vs q).Ok F.g.ins.length→(s'.vs q).open≤((s.mark q n).vs q).open →
     call Try.prog pol1 67 (NV n'::NV q::I F.f::.sl false (r'.map I)::capP) (hpA F s' K')=some (.tup [],hpA F (pvisit F.g.ins q k n' r' s') K'):=
    fun n' r' s' K' a b c d e=>ih n' r' s' K' a b c d (by omega)
   have hmc:s.mark q n=⟨s.ts,(s.mark q n).m,false,s.j⟩:=by simp[PS.mark,hc']
   by_cases h3:i.op=3
   ·rw[if_pos h3]
    obtain⟨x1,x2⟩:=w1 (.inr h3)
    obtain⟨y,hy⟩:∃ y:Nat,i.x=y:=⟨i.x.toNat,by omega⟩
    rw[hy]at x2 ⊢
    simp only[Int.toNat_natCast]at x2 ⊢
    have hc1:=fun J=>hcall y r (s.mark q n) (K++[J]) x2 hr hml hmk (Nat.le_refl _)
    have hfin:=fun J=>fin (pvisit F.g.ins q k y r (s.mark q n)) [J]
    rw[hmc]at hc1 hfin
    rw[hmc]
    simp +contextual (disch:=omega) only[Try.f67,dd67,go_sem,↓reduceIte,List.reduceReplicate,Nat.reduceAdd,Nat.reduceSub,reduceCtorEq,evSlice,Nat.reduceLeDiff,Nat.reduceMul,Nat.reduceLT,Nat.reduceEqDiff,Int.reduceBNe,Int.reduceBEq,Int.reduceEq,Int.reduceLT,Int.reduceLE,Int.reduceGT,Int.reduceGE,mu67,Nat.reduceBEq,↓wrap_up,↓wrap_down,↓wrap_pred,↓wrap_sub_nat,Int.reduceToNat,hc',hx',hm,hxq,hi',hset,h3,hgl,hsl,hy,hc1]
    exact hfin _
   rw[if_neg h3]
   by_cases h2:i.op=2
   ·rw[if_pos h2]
    obtain⟨x1,x2⟩:=w1 (.inl h2)
    obtain⟨y1,y2⟩:=w2 h2
    obtain⟨y,hy⟩:∃ y:Nat,i.x=y:=⟨i.x.toNat,by omega⟩
    obtain⟨z,hz⟩:∃ z:Nat,i.y=z:=⟨i.y.toNat,by omega⟩
    rw[hy]at x2 ⊢
    rw[hz]at y2 ⊢
    simp only[Int.toNat_natCast]at x2 y2 ⊢
    have hc1:=fun J=>hcall y r (s.mark q n) (K++[J]) x2 hr hml hmk (Nat.le_refl _)
    obtain⟨p1,p2⟩:=vs_pvisit F.g.ins q k y r (s.mark q n) hml
    have p3:=hmk.visit (ins:=F.g.ins) (k:=k) (n:=y)
    rw[← p1]at p3
    have hc2:=fun J=>hcall z r (pvisit F.g.ins q k y r (s.mark q n)) (K++[J]) y2 hr p2 p3.1 p3.2
    have hfin:=fun J=>fin (pvisit F.g.ins q k z r (pvisit F.g.ins q k y r (s.mark q n))) [J]
    rw[hmc]at hc1 hc2 hfin
    rw[hmc]
    simp +contextual (disch:=omega) only[Try.f67,dd67,go_sem,↓reduceIte,List.reduceReplicate,Nat.reduceAdd,Nat.reduceSub,reduceCtorEq,evSlice,Nat.reduceLeDiff,Nat.reduceMul,Nat.reduceLT,Nat.reduceEqDiff,Int.reduceBNe,Int.reduceBEq,Int.reduceEq,Int.reduceLT,Int.reduceLE,Int.reduceGT,Int.reduceGE,mu67,Nat.reduceBEq,↓wrap_up,↓wrap_down,↓wrap_pred,↓wrap_sub_nat,Int.reduceToNat,hc',hx',hm,hxq,hi',hset,h2,hgl,hsl,hy,hz,hc1,hc2]
    exact hfin _
   rw[if_neg h2]
   have h4:i.op=4:=by omega
   rw[if_pos h4]
   obtain⟨z1,z2⟩:=v1 h4
   obtain⟨N,hN⟩:∃ N:Nat,i.n=N:=⟨i.n.toNat,by omega⟩
   rw[hN]at z2 ⊢
   simp only[Int.toNat_natCast]at z2 ⊢
   have x2:=w3 (.inr (.inl h4))
   have hc1:=fun K'=>hcall (n+1) (regSet r N q) (s.mark q n) K' x2 (by rw[regSet_len (by omega)];exact hr) hml hmk (Nat.le_refl _)
   have hfin:=fun K'=>fin (pvisit F.g.ins q k (n+1) (regSet r N q) (s.mark q n)) K'
   rw[hmc]at hc1 hfin
   rw[hmc]
   have s1:∀(H:List MB),evSlice Try.prog H 22 (.sl false (r.map I)) none (some (NV N)) (some (NV N))=some (.sl true ((r.take N).map I),H):=fun H=>sl_max (by omega)
   have s2:∀(H:List MB),evSlice Try.prog H 22 (.sl false (r.map I)) (some (NV (N+1))) none none=some (.sl false ((r.drop (N+1)).map I),H):=fun H=>sl_lo (by omega)
   have tl:(r.take N).length=N:=by simp;omega
   have a1:∀(H:List MB),evAppend Try.prog H 22 22 (.sl true ((r.take N).map I)) (.sl true [NV q])=some (.ms H.length 1 (N+1) 0 (N+1),H++[.row 1 ((r.take N++[(q:Int)]).map I) 0]):=by
    intro H
    have:=reg_app (H:=H) (id:=0) (a:=r.take N) (c:=(q:Int)) (by omega)
    rwa [tl]at this
   have tl2:(r.take N++[(q:Int)]).length=N+1:=by simp;omega
   have dl:(r.drop (N+1)).length=R - (N+1):=by simp[hr]
   have hN1:N+1+(R - (N+1))=R:=by omega
   have a2:∀(id:Nat) (h:id=K.length+17) (x y0 y1 y2 y3 y4 y5 y6 y7 y8 y9 y10 y11 y12 y13 y14 y15:MB),evAppend Try.prog (y0::y1::y2::y3::y4::y5::y6::y7::y8::y9::y10::y11::y12::y13::y14::y15::(K++[x]++[.row 1 ((r.take N).map I++[I q]) 0])) 22 22 (.ms id 1 (N+1) 0 (N+1)) (.sl false ((r.drop (N+1)).map I)) =
     some (.ms id 1 R 0 R,y0::y1::y2::y3::y4::y5::y6::y7::y8::y9::y10::y11::y12::y13::y14::y15::(K++[x]++[.row 1 ((regSet r N q).map I) 0])):=by
    rintro _ rfl x y0 y1 y2 y3 y4 y5 y6 y7 y8 y9 y10 y11 y12 y13 y14 y15
    have ee:(r.take N).map I++[I q]=(r.take N++[(q:Int)]).map I:=by simp
    rw[ee]
    have g:(y0::y1::y2::y3::y4::y5::y6::y7::y8::y9::y10::y11::y12::y13::y14::y15::(K++[x]++[MB.row 1 ((r.take N++[(q:Int)]).map I) 0]))[K.length+17]?=some (.row 1 ((r.take N++[(q:Int)]).map I) 0):=by
     rw[show K.length+17=(K.length+1)+16 from rfl,getElem_16,getM2]
    rw[reg_app2 (a:=r.take N++[(q:Int)]) (by unfold getRow;rw[g]) tl2 (by omega),dl,hN1]
    congr 2
    rw[show K.length+17=(K.length+1)+16 from rfl,set_16,setM2]
    rfl
   have c2:∀(id:Nat) (h:id=K.length+17) (x:MB),call Try.prog pol1 67 (NV (n+1)::NV q::I F.f::.ms id 1 R 0 R::capP) (hpA F ⟨s.ts,(s.mark q n).m,false,s.j⟩ (K++[x]++[.row 1 ((regSet r N q).map I) 0])) =
     some (.tup [],hpA F (pvisit F.g.ins q k (n+1) (regSet r N q) ⟨s.ts,(s.mark q n).m,false,s.j⟩) (K++[x]++[.row 1 ((regSet r N q).map I) R])):=by
    rintro _ rfl x
    rw[← hc1]
    have hrl:(regSet r N q).length=R:=by rw[regSet_len (by omega)];exact hr
    have hrow:getRow (hpA F ⟨s.ts,(s.mark q n).m,false,s.j⟩ (K++[x]++[.row 1 ((regSet r N q).map I) 0])) (K.length+17)=some (1,(regSet r N q).map I,0):=by
     unfold getRow hpA
     rw[show K.length+17=(K.length+1)+16 from rfl,getElem_16,getM2]
    have hz:=fz_row (tot:=R) hrow (by simp[hrl]) (plain_ints _)
    have hmk:mark (hpA F ⟨s.ts,(s.mark q n).m,false,s.j⟩ (K++[x]++[.row 1 ((regSet r N q).map I) 0])) (K.length+17) R=hpA F ⟨s.ts,(s.mark q n).m,false,s.j⟩ (K++[x]++[.row 1 ((regSet r N q).map I) R]):=by
     unfold mark
     rw[hrow]
     simp only[Nat.zero_max,Nat.max_eq_right (Nat.zero_le _)]
     unfold hpA
     rw[show K.length+17=(K.length+1)+16 from rfl,set_16,setM2]
    rw[hmk]at hz
    have hsl:=fz_slp (t:=false) (l:=(regSet r N q).map I) (plain_ints _)
    have hcap:∀ H,frzArgs pol1 67 4 capP H=some (capP,H):=fun H=>frzArgs_mix _ _ _ rfl
    have hb:∀ i,i < 4→pol1.byref 67 i=false:=by intro i hi;have:i=0∨i=1∨i=2∨i=3:=by { omega };rcases this with rfl|rfl|rfl|rfl<;>rfl
    have hint:∀(n:Int) H,fz (I n) H=some (I n,H):=fun n H=>fz_plain H rfl
    refine call_frz3 rfl rfl ?_ ?_
    ·simp only[frzArgs,hb 0 (by omega),hb (0+1) (by omega),hb (0+1+1) (by omega),hb (0+1+1+1) (by omega),Bool.false_eq_true,if_false,hint,hz]
     rw[show 0+1+1+1+1=4 from rfl]
     simp only[frzArgs]at hcap
     simp only[hcap]
    ·simp only[frzArgs,hb 0 (by omega),hb (0+1) (by omega),hb (0+1+1) (by omega),hb (0+1+1+1) (by omega),Bool.false_eq_true,if_false,hint,hsl]
     rw[show 0+1+1+1+1=4 from rfl]
     simp only[frzArgs]at hcap
     simp only[hcap]
   have m1:=fun x y:MB=>getM1 K x y
   simp +contextual (disch:=omega) only[Try.f67,dd67,go_sem,↓reduceIte,List.reduceReplicate,Nat.reduceAdd,Nat.reduceSub,reduceCtorEq,Nat.reduceLeDiff,Nat.reduceMul,Nat.reduceLT,Nat.reduceEqDiff,Int.reduceBNe,Int.reduceBEq,Int.reduceEq,Int.reduceLT,Int.reduceLE,Int.reduceGT,Int.reduceGE,mu67,Nat.reduceBEq,↓wrap_up,↓wrap_down,↓wrap_pred,↓wrap_sub_nat,Int.reduceToNat,hc',hx',hm,hxq,hi',hset,h4,hgl,hsl,hN,s1,s2,a1,a2,c2,m1,sameAt_15]
   repeat' (first|intro _|apply And.intro|(unfold dOk;kernel_rfl)|exact St.beq_refl _|(show altO _ _ _ _=true;kernel_rfl)|(show (_ || _)=true;kernel_rfl)|(show (_ && _)=true;kernel_rfl))
   all_goals (rw[List.append_assoc];exact hfin _)
abbrev hpB (F:PF) (s:PS) (K:List MB):List MB:=
 F.b0::F.b1::F.b2::.row 1 (s.m.map I) 0::.row 5 [mach F.g F.xs] 0::.row 1 [.rf 4 1 0 0] 0::F.b6::F.b7::F.b8::.row 1 [.rf 4 1 0 0] 0::F.b10 ::
  .row 1 [.ms 13 3 (s.ts.length+s.j.length) 0 s.ts.length] 0::.row 3 (F.E.map (thAV F.f)) 0::.row 3 (s.ts.map (thAV F.f)++s.j.map (thAV F.f)) 0::.row 1 [.bool s.c] 0::.row 1 [.clo 67 capP] 0::K
theorem keptB (F:PF) (s s':PS) (K K':List MB):keptOk (hpB F s K).length (hpB F s K) (hpB F s' (K++K'))=true:=by
 have hp1:=fun n=>underL_plain n _ (plain_ints s'.m)
 have hp2:=fun n=>underL_plain n _ (plain_th F.f s'.ts)
 have hp3:=fun n=>underL_plain n _ (plain_th F.f s'.j)
 simp only[hpB,keptOk,MB.beq_refl,kept_app,MB.under,AV.underL,AV.under,hp1,underL_append,hp2,hp3,Bool.and_self,Bool.or_true,Bool.true_or,Bool.and_true,Bool.true_and,List.length_cons]
 simp
theorem f67B (F:PF) (hl:F.g.ins.length≤1000000) (hw:Leads F.g.ins) (q:Nat) (hq:q≤1000000) (R:Nat) (hR:R≤1000) (hsv:∀ i∈F.g.ins,(i.op=4→0≤i.n∧i.n.toNat < R)∧i.op≠5) :
  ∀(k n:Nat) (r:List Int) (s:PS) (K:List MB),n < F.g.ins.length→r.length=R→s.m.length=F.g.ins.length→(s.vs q).Ok F.g.ins.length→(s.vs q).open < k →
  call Try.prog pol1 67 (NV n::NV q::I F.f::.sl false (r.map I)::capP) (hpB F s K)=some (.tup [],hpB F (pvisit F.g.ins q k n r s) K):=by
 intro k
 induction k with
 | zero=>intro n r s K _ _ _ _ h;omega
 | succ k ih=>
   intro n r s K hn hr hm hs ho
   refine call_run2 (pol:=pol1) Try.func67 rfl rfl rfl rfl (frzArgs_mix _ _ _ (by have h:AV.plain (.sl false (r.map I))=true:=by { simp[AV.plain,plain_ints] };simp only[mixOk,h,Bool.or_true,Bool.true_and];rfl)) ?_
   have fin:∀(s':PS) (K':List MB),retPol pol1 67 (hpB F s K) (.tup []) (hpB F s' (K++K'))=some (.tup [],hpB F s' K):=
    fun s' K'=>retPol_keep rfl rfl rfl (keptB F s s' K K') (by simp[hpB])
   obtain⟨x,hx⟩:∃ x,s.m[n]?=some x:=⟨_,List.getElem?_eq_getElem (by omega)⟩
   have hx':(s.m.map I)[n]?=some (I x):=by simp[hx]
   by_cases hc:s.c=true
   ·have e:pvisit F.g.ins q (k+1) n r s=s:=by simp only[pvisit];rw[if_pos (.inl hc)]
    rw[e]
    have:=fin s []
    rw[List.append_nil]at this
    simp +contextual (disch:=omega) only[Try.f67,dd67,go_sem,↓reduceIte,evAppend,List.reduceReplicate,Nat.reduceAdd,Nat.reduceSub,reduceCtorEq,evSlice,Nat.reduceLeDiff,Nat.reduceMul,Nat.reduceLT,Nat.reduceEqDiff,Int.reduceBNe,Int.reduceBEq,Int.reduceEq,Int.reduceLT,Int.reduceLE,Int.reduceGT,Int.reduceGE,mu67,Nat.reduceBEq,↓wrap_up,↓wrap_down,↓wrap_pred,↓wrap_sub_nat,Int.reduceToNat,hc]
    simpa only[hc] using this
   have hc':s.c=false:=by simpa using hc
   by_cases hxq:x=((q+1:Nat):Int)
   ·have e:pvisit F.g.ins q (k+1) n r s=s:=by simp only[pvisit];rw[if_pos (.inr (by rw[hx,hxq]))]
    rw[e]
    have:=fin s []
    rw[List.append_nil]at this
    simp +contextual (disch:=omega) only[Try.f67,dd67,go_sem,↓reduceIte,evAppend,List.reduceReplicate,Nat.reduceAdd,Nat.reduceSub,reduceCtorEq,evSlice,Nat.reduceLeDiff,Nat.reduceMul,Nat.reduceLT,Nat.reduceEqDiff,Int.reduceBNe,Int.reduceBEq,Int.reduceEq,Int.reduceLT,Int.reduceLE,Int.reduceGT,Int.reduceGE,mu67,Nat.reduceBEq,↓wrap_up,↓wrap_down,↓wrap_pred,↓wrap_sub_nat,Int.reduceToNat,hc',hx',hm,hxq]
    simpa only[hc'] using this
   obtain⟨i,hi⟩:∃ i,F.g.ins[n]?=some i:=⟨_,List.getElem?_eq_getElem hn⟩
   have hi':(F.g.ins.map insAV)[n]?=some (insAV i):=by simp[hi]
   obtain⟨w0,w1,w2,w3⟩:=hw n i hi
   obtain⟨v1,v2⟩:=hsv i (List.mem_of_getElem? hi)
   have hset:(s.m.map I).set n (NV (q+1))=(s.mark q n).m.map I:=by simp only[PS.mark,List.map_set]
   rw[show pvisit F.g.ins q (k+1) n r s=_ by simp only[pvisit];rw[if_neg (by rw[hx,hc'];simpa using hxq)],hi]
   simp only
   have hfalse:(s.vs q).a[n]?=some false:=by simp only[PS.vs,List.getElem?_map,hx,Option.map_some];simpa using hxq
   have hom:=open_mark (s:=s.vs q) (n:=n) hfalse
   rw[← vs_mark]at hom
   have hmk:((s.mark q n).vs q).Ok F.g.ins.length:=by rw[vs_mark];exact hs.mark
   have hml:(s.mark q n).m.length=F.g.ins.length:=by simp[PS.mark,hm]
   have hsm:s.ts.length≤F.g.ins.length:=by have:=hs.small;simpa [PS.vs] using this
   have hgl:=fun x:MB=>get_last K x
   have hsl:=fun x y:MB=>set_last K x y
   have hgi:∀(T:List MB),F.b0=F.b0:=fun _=>rfl
   have happ:∀(y0 y1 y2 y3 y4 y5 y6 y7 y8 y9 y10 y11 y12:MB) (T:List MB) (t:Bool),evAppend Try.prog (y0::y1::y2::y3::y4::y5::y6::y7::y8::y9::y10::y11::y12::.row 3 (s.ts.map (thAV F.f)++s.j.map (thAV F.f)) 0::T) 122 122 (.ms 13 3 (s.ts.length+s.j.length) 0 s.ts.length) (.sl t [.agg [NV n,I F.f,.sl false (r.map I)]]) =
     some (.ms 13 3 (s.ts.length+1+(s.j.drop 1).length) 0 (s.ts.length+1),y0::y1::y2::y3::y4::y5::y6::y7::y8::y9::y10::y11::y12::.row 3 ((s.ts++[(n,r)]).map (thAV F.f)++(s.j.drop 1).map (thAV F.f)) 0::T):=
    fun y0 y1 y2 y3 y4 y5 y6 y7 y8 y9 y10 y11 y12 T t=>app_th (c:=(n,r)) rfl rfl rfl (by omega)
   by_cases h0:i.op=0
   ·rw[if_pos h0]
    have:=fin (s.found q n r true) [.row 5 [.agg [I 0,I i.x,I i.y,I i.n,.sl false (i.set.map spanAV)]] 0]
    simp +contextual (disch:=omega) only[Try.f67,dd67,go_sem,↓reduceIte,List.reduceReplicate,Nat.reduceAdd,Nat.reduceSub,reduceCtorEq,evSlice,Nat.reduceLeDiff,Nat.reduceMul,Nat.reduceLT,Nat.reduceEqDiff,Int.reduceBNe,Int.reduceBEq,Int.reduceEq,Int.reduceLT,Int.reduceLE,Int.reduceGT,Int.reduceGE,mu67,Nat.reduceBEq,↓wrap_up,↓wrap_down,↓wrap_pred,↓wrap_sub_nat,Int.reduceToNat,hc',hx',hm,hxq,hi',hset,h0,hgl,hsl,happ]
    simpa only[hpB,PS.found,PS.mark,hc',List.length_append,List.length_cons,List.length_nil,Nat.zero_add,List.map_append,List.map_cons,List.map_nil] using this
   rw[if_neg h0]
   by_cases h1:i.op=1
   ·rw[if_pos h1]
    have:=fin (s.found q n r false) [.row 5 [.agg [I 1,I i.x,I i.y,I i.n,.sl false (i.set.map spanAV)]] 0]
    simp +contextual (disch:=omega) only[Try.f67,dd67,go_sem,↓reduceIte,List.reduceReplicate,Nat.reduceAdd,Nat.reduceSub,reduceCtorEq,evSlice,Nat.reduceLeDiff,Nat.reduceMul,Nat.reduceLT,Nat.reduceEqDiff,Int.reduceBNe,Int.reduceBEq,Int.reduceEq,Int.reduceLT,Int.reduceLE,Int.reduceGT,Int.reduceGE,mu67,Nat.reduceBEq,↓wrap_up,↓wrap_down,↓wrap_pred,↓wrap_sub_nat,Int.reduceToNat,hc',hx',hm,hxq,hi',hset,h1,hgl,hsl,happ]
    simpa only[hpB,PS.found,PS.mark,hc',List.length_append,List.length_cons,List.length_nil,Nat.zero_add,List.map_append,List.map_cons,List.map_nil] using this
   rw[if_neg h1]
   have hcall:∀(n':Nat) (r':List Int) (s':PS) (K':List MB),n' < F.g.ins.length→r'.length=R→s'.m.length=F.g.ins.length→(s'.vs q).Ok F.g.ins.length→(s'.vs q).open≤((s.mark q n).vs q).open →
     call Try.prog pol1 67 (NV n'::NV q::I F.f::.sl false (r'.map I)::capP) (hpB F s' K')=some (.tup [],hpB F (pvisit F.g.ins q k n' r' s') K'):=
    fun n' r' s' K' a b c d e=>ih n' r' s' K' a b c d (by omega)
   have hmc:s.mark q n=⟨s.ts,(s.mark q n).m,false,s.j⟩:=by simp[PS.mark,hc']
   by_cases h3:i.op=3
   ·rw[if_pos h3]
    obtain⟨x1,x2⟩:=w1 (.inr h3)
    obtain⟨y,hy⟩:∃ y:Nat,i.x=y:=⟨i.x.toNat,by omega⟩
    rw[hy]at x2 ⊢
    simp only[Int.toNat_natCast]at x2 ⊢
    have hc1:=fun J=>hcall y r (s.mark q n) (K++[J]) x2 hr hml hmk (Nat.le_refl _)
    have hfin:=fun J=>fin (pvisit F.g.ins q k y r (s.mark q n)) [J]
    rw[hmc]at hc1 hfin
    rw[hmc]
    simp +contextual (disch:=omega) only[Try.f67,dd67,go_sem,↓reduceIte,List.reduceReplicate,Nat.reduceAdd,Nat.reduceSub,reduceCtorEq,evSlice,Nat.reduceLeDiff,Nat.reduceMul,Nat.reduceLT,Nat.reduceEqDiff,Int.reduceBNe,Int.reduceBEq,Int.reduceEq,Int.reduceLT,Int.reduceLE,Int.reduceGT,Int.reduceGE,mu67,Nat.reduceBEq,↓wrap_up,↓wrap_down,↓wrap_pred,↓wrap_sub_nat,Int.reduceToNat,hc',hx',hm,hxq,hi',hset,h3,hgl,hsl,hy,hc1]
    exact hfin _
   rw[if_neg h3]
   by_cases h2:i.op=2
   ·rw[if_pos h2]
    obtain⟨x1,x2⟩:=w1 (.inl h2)
    obtain⟨y1,y2⟩:=w2 h2
    obtain⟨y,hy⟩:∃ y:Nat,i.x=y:=⟨i.x.toNat,by omega⟩
    obtain⟨z,hz⟩:∃ z:Nat,i.y=z:=⟨i.y.toNat,by omega⟩
    rw[hy]at x2 ⊢
    rw[hz]at y2 ⊢
    simp only[Int.toNat_natCast]at x2 y2 ⊢
    have hc1:=fun J=>hcall y r (s.mark q n) (K++[J]) x2 hr hml hmk (Nat.le_refl _)
    obtain⟨p1,p2⟩:=vs_pvisit F.g.ins q k y r (s.mark q n) hml
    have p3:=hmk.visit (ins:=F.g.ins) (k:=k) (n:=y)
    rw[← p1]at p3
    have hc2:=fun J=>hcall z r (pvisit F.g.ins q k y r (s.mark q n)) (K++[J]) y2 hr p2 p3.1 p3.2
    have hfin:=fun J=>fin (pvisit F.g.ins q k z r (pvisit F.g.ins q k y r (s.mark q n))) [J]
    rw[hmc]at hc1 hc2 hfin
    rw[hmc]
    simp +contextual (disch:=omega) only[Try.f67,dd67,go_sem,↓reduceIte,List.reduceReplicate,Nat.reduceAdd,Nat.reduceSub,reduceCtorEq,evSlice,Nat.reduceLeDiff,Nat.reduceMul,Nat.reduceLT,Nat.reduceEqDiff,Int.reduceBNe,Int.reduceBEq,Int.reduceEq,Int.reduceLT,Int.reduceLE,Int.reduceGT,Int.reduceGE,mu67,Nat.reduceBEq,↓wrap_up,↓wrap_down,↓wrap_pred,↓wrap_sub_nat,Int.reduceToNat,hc',hx',hm,hxq,hi',hset,h2,hgl,hsl,hy,hz,hc1,hc2]
    exact hfin _
   rw[if_neg h2]
   have h4:i.op=4:=by omega
   rw[if_pos h4]
   obtain⟨z1,z2⟩:=v1 h4
   obtain⟨N,hN⟩:∃ N:Nat,i.n=N:=⟨i.n.toNat,by omega⟩
   rw[hN]at z2 ⊢
   simp only[Int.toNat_natCast]at z2 ⊢
   have x2:=w3 (.inr (.inl h4))
   have hc1:=fun K'=>hcall (n+1) (regSet r N q) (s.mark q n) K' x2 (by rw[regSet_len (by omega)];exact hr) hml hmk (Nat.le_refl _)
   have hfin:=fun K'=>fin (pvisit F.g.ins q k (n+1) (regSet r N q) (s.mark q n)) K'
   rw[hmc]at hc1 hfin
   rw[hmc]
   have s1:∀(H:List MB),evSlice Try.prog H 22 (.sl false (r.map I)) none (some (NV N)) (some (NV N))=some (.sl true ((r.take N).map I),H):=fun H=>sl_max (by omega)
   have s2:∀(H:List MB),evSlice Try.prog H 22 (.sl false (r.map I)) (some (NV (N+1))) none none=some (.sl false ((r.drop (N+1)).map I),H):=fun H=>sl_lo (by omega)
   have tl:(r.take N).length=N:=by simp;omega
   have a1:∀(H:List MB),evAppend Try.prog H 22 22 (.sl true ((r.take N).map I)) (.sl true [NV q])=some (.ms H.length 1 (N+1) 0 (N+1),H++[.row 1 ((r.take N++[(q:Int)]).map I) 0]):=by
    intro H
    have:=reg_app (H:=H) (id:=0) (a:=r.take N) (c:=(q:Int)) (by omega)
    rwa [tl]at this
   have tl2:(r.take N++[(q:Int)]).length=N+1:=by simp;omega
   have dl:(r.drop (N+1)).length=R - (N+1):=by simp[hr]
   have hN1:N+1+(R - (N+1))=R:=by omega
   have a2:∀(id:Nat) (h:id=K.length+17) (x y0 y1 y2 y3 y4 y5 y6 y7 y8 y9 y10 y11 y12 y13 y14 y15:MB),evAppend Try.prog (y0::y1::y2::y3::y4::y5::y6::y7::y8::y9::y10::y11::y12::y13::y14::y15::(K++[x]++[.row 1 ((r.take N).map I++[I q]) 0])) 22 22 (.ms id 1 (N+1) 0 (N+1)) (.sl false ((r.drop (N+1)).map I)) =
     some (.ms id 1 R 0 R,y0::y1::y2::y3::y4::y5::y6::y7::y8::y9::y10::y11::y12::y13::y14::y15::(K++[x]++[.row 1 ((regSet r N q).map I) 0])):=by
    rintro _ rfl x y0 y1 y2 y3 y4 y5 y6 y7 y8 y9 y10 y11 y12 y13 y14 y15
    have ee:(r.take N).map I++[I q]=(r.take N++[(q:Int)]).map I:=by simp
    rw[ee]
    have g:(y0::y1::y2::y3::y4::y5::y6::y7::y8::y9::y10::y11::y12::y13::y14::y15::(K++[x]++[MB.row 1 ((r.take N++[(q:Int)]).map I) 0]))[K.length+17]?=some (.row 1 ((r.take N++[(q:Int)]).map I) 0):=by
     rw[show K.length+17=(K.length+1)+16 from rfl,getElem_16,getM2]
    rw[reg_app2 (a:=r.take N++[(q:Int)]) (by unfold getRow;rw[g]) tl2 (by omega),dl,hN1]
    congr 2
    rw[show K.length+17=(K.length+1)+16 from rfl,set_16,setM2]
    rfl
   have c2:∀(id:Nat) (h:id=K.length+17) (x:MB),call Try.prog pol1 67 (NV (n+1)::NV q::I F.f::.ms id 1 R 0 R::capP) (hpB F ⟨s.ts,(s.mark q n).m,false,s.j⟩ (K++[x]++[.row 1 ((regSet r N q).map I) 0])) =
     some (.tup [],hpB F (pvisit F.g.ins q k (n+1) (regSet r N q) ⟨s.ts,(s.mark q n).m,false,s.j⟩) (K++[x]++[.row 1 ((regSet r N q).map I) R])):=by
    rintro _ rfl x
    rw[← hc1]
    have hrl:(regSet r N q).length=R:=by rw[regSet_len (by omega)];exact hr
    have hrow:getRow (hpB F ⟨s.ts,(s.mark q n).m,false,s.j⟩ (K++[x]++[.row 1 ((regSet r N q).map I) 0])) (K.length+17)=some (1,(regSet r N q).map I,0):=by
     unfold getRow hpB
     rw[show K.length+17=(K.length+1)+16 from rfl,getElem_16,getM2]
    have hz:=fz_row (tot:=R) hrow (by simp[hrl]) (plain_ints _)
    have hmk:mark (hpB F ⟨s.ts,(s.mark q n).m,false,s.j⟩ (K++[x]++[.row 1 ((regSet r N q).map I) 0])) (K.length+17) R=hpB F ⟨s.ts,(s.mark q n).m,false,s.j⟩ (K++[x]++[.row 1 ((regSet r N q).map I) R]):=by
     unfold mark
     rw[hrow]
     simp only[Nat.zero_max,Nat.max_eq_right (Nat.zero_le _)]
     unfold hpB
     rw[show K.length+17=(K.length+1)+16 from rfl,set_16,setM2]
    rw[hmk]at hz
    have hsl:=fz_slp (t:=false) (l:=(regSet r N q).map I) (plain_ints _)
    have hcap:∀ H,frzArgs pol1 67 4 capP H=some (capP,H):=fun H=>frzArgs_mix _ _ _ rfl
    have hb:∀ i,i < 4→pol1.byref 67 i=false:=by intro i hi;have:i=0∨i=1∨i=2∨i=3:=by { omega };rcases this with rfl|rfl|rfl|rfl<;>rfl
    have hint:∀(n:Int) H,fz (I n) H=some (I n,H):=fun n H=>fz_plain H rfl
    refine call_frz3 rfl rfl ?_ ?_
    ·simp only[frzArgs,hb 0 (by omega),hb (0+1) (by omega),hb (0+1+1) (by omega),hb (0+1+1+1) (by omega),Bool.false_eq_true,if_false,hint,hz]
     rw[show 0+1+1+1+1=4 from rfl]
     simp only[frzArgs]at hcap
     simp only[hcap]
    ·simp only[frzArgs,hb 0 (by omega),hb (0+1) (by omega),hb (0+1+1) (by omega),hb (0+1+1+1) (by omega),Bool.false_eq_true,if_false,hint,hsl]
     rw[show 0+1+1+1+1=4 from rfl]
     simp only[frzArgs]at hcap
     simp only[hcap]
   have m1:=fun x y:MB=>getM1 K x y
   simp +contextual (disch:=omega) only[Try.f67,dd67,go_sem,↓reduceIte,List.reduceReplicate,Nat.reduceAdd,Nat.reduceSub,reduceCtorEq,Nat.reduceLeDiff,Nat.reduceMul,Nat.reduceLT,Nat.reduceEqDiff,Int.reduceBNe,Int.reduceBEq,Int.reduceEq,Int.reduceLT,Int.reduceLE,Int.reduceGT,Int.reduceGE,mu67,Nat.reduceBEq,↓wrap_up,↓wrap_down,↓wrap_pred,↓wrap_sub_nat,Int.reduceToNat,hc',hx',hm,hxq,hi',hset,h4,hgl,hsl,hN,s1,s2,a1,a2,c2,m1,sameAt_15]
   repeat' (first|intro _|apply And.intro|(unfold dOk;kernel_rfl)|exact St.beq_refl _|(show altO _ _ _ _=true;kernel_rfl)|(show (_ || _)=true;kernel_rfl)|(show (_ && _)=true;kernel_rfl))
   all_goals (rw[List.append_assoc];exact hfin _)
end
section
attribute [local go_sem] evAppend evSlice
open Go.Proofs Go.RowKit Go.IntWalk
set_option maxRecDepth 100000
set_option maxHeartbeats 8000000
structure CS where
 L:List (List Nat)
 made:Nat
 emptied:Nat
def CS.need (c:CS) (size:Nat) (l:List Nat):CS:=
 if l=[] then c
 else if l∈c.L then c
 else if c.L.length=size then⟨[l],c.made+1,c.emptied+1⟩
 else⟨c.L++[l],c.made+1,c.emptied⟩
structure Lay2 where
 st:Nat→Option (List Nat×Nat)
 nx:Nat→Option (List Nat)
def Lay2.le (a b:Lay2):Prop:=(∀ i x,a.st i=some x→b.st i=some x)∧(∀ i x,a.nx i=some x→b.nx i=some x)
abbrev stAV (b:Bool) (l:List Nat) (m:AV) (f:Nat):AV:=.agg [.sl b (l.map NV),m,NV f]
abbrev dfaAV (ins:List Ins) (first:List Nat) (size:Nat) (C:Nat) (c:CS):AV:=.agg [.sl false (ins.map insAV),.sl false (first.map NV),NV size,.mpr C,NV c.made,NV c.emptied]
structure DI (ins:List Ins) (first:List Nat) (size:Nat) (n0 D C:Nat) (a:Lay2) (c:CS) (H:List MB):Prop where
 d:H[D]?=some (.row 6 [dfaAV ins first size C c] 0)
 lo:n0≤D∧n0≤C∧(∀ i x,a.st i=some x→n0≤i)∧(∀ i x,a.nx i=some x→n0≤i)
 cache:∃ es:List (AV×AV),H[C]?=some (.mp .str es)∧es.length=c.L.length∧∀(i:Nat) (l:List Nat),c.L[i]?=some l→l≠[]∧(∀ n∈l,n < 65536)∧∃ t,es[i]?=some (AV.str (keyS l),AV.rf t 1 0 0)∧a.st t=some (l,c.emptied)
 st:∀ t l f,a.st t=some (l,f)→∃ b m,H[t]?=some (.row 3 [stAV b l m f] 0)∧(∀ n∈l,n < ins.length)∧l.length≤ins.length∧f≤c.emptied∧(l≠[]→f=c.emptied→l∈c.L)∧(l≠[]→b=false∧∃ q,m=.mpr q∧a.nx q=some l)
 nx:∀ q l,a.nx q=some l→∃ es,H[q]?=some (.mp (.int .i64) es)∧∀ k v,(k,v)∈es→∃ x t f,k=I x∧v=.rf t 1 0 0∧a.st t=some (stateL ins (afterL ins l x),f)
 small:c.made≤4000000000000∧c.emptied≤c.made∧c.L.length≤size∧1≤size∧size≤1024
theorem findMp_mem {x v:AV} {es:List (AV×AV)} (h:findMp x es=some v):∃ k,(k,v)∈es∧AV.beq k x=true:=by
 induction es with
 | nil=>cases h
 | cons p es ih=>
   obtain⟨k,u⟩:=p
   simp only[findMp]at h
   split at h
   ·rename_i hb
    cases h
    exact⟨k,.head _,hb⟩
   ·obtain⟨k',h1,h2⟩:=ih h
    exact⟨k',.tail _ h1,h2⟩
theorem updMp_mem {x v k u:AV} {es:List (AV×AV)} (h:(k,u)∈updMp x v es):(k,u)∈es∨(u=v∧(k=x∨AV.beq k x=true)):=by
 induction es with
 | nil=>
   simp only[updMp,List.mem_singleton,Prod.mk.injEq]at h
   exact .inr ⟨h.2,.inl h.1⟩
 | cons p es ih=>
   obtain⟨k',u'⟩:=p
   simp only[updMp]at h
   split at h
   ·rename_i hb
    rcases List.mem_cons.1 h with h|h
    ·cases h;exact .inr ⟨rfl,.inr hb⟩
    ·exact .inl (.tail _ h)
   ·rcases List.mem_cons.1 h with h|h
    ·cases h;exact .inl (.head _)
    ·rcases ih h with h|h
     ·exact .inl (.tail _ h)
     ·exact .inr h
theorem beq_str {k:AV} {b:ByteArray}:AV.beq k (.str b)=true↔k=.str b:=by
 cases k<;>simp[AV.beq]
theorem beq_I {k:AV} {b:Int}:AV.beq k (I b)=true↔k=I b:=by
 cases k<;>simp[AV.beq]
theorem map8_inj:∀ {a b:List Int},(∀ x∈a,0≤x∧x < 256)→(∀ x∈b,0≤x∧x < 256)→a.map (fun n=>UInt8.ofNat n.toNat)=b.map (fun n=>UInt8.ofNat n.toNat)→a=b
 | [],[],_,_,_=>rfl
 | [],_::_,_,_,h=>by simp at h
 | _::_,[],_,_,h=>by simp at h
 | x::a,y::b,ha,hb,h=>by
   simp only[List.map_cons,List.cons.injEq]at h
   have hx:=ha x (.head _)
   have hy:=hb y (.head _)
   have h1:x=y:=by
    have:=congrArg UInt8.toNat h.1
    simp at this
    omega
   rw[h1,map8_inj (fun z hz=>ha z (.tail _ hz)) (fun z hz=>hb z (.tail _ hz)) h.2]
theorem strB_inj {a b:List Int} (ha:∀ x∈a,0≤x∧x < 256) (hb:∀ x∈b,0≤x∧x < 256) (h:strB a=strB b):a=b:=by
 simp only[strB,ByteArray.mk.injEq,Array.mk.injEq]at h
 exact map8_inj ha hb (by simpa using h)
theorem keyI_range (l:List Nat):∀ x∈keyI l,0≤x∧x < 256:=by
 intro x hx
 simp only[keyI,List.mem_flatMap,List.mem_cons,List.not_mem_nil,or_false]at hx
 obtain⟨n,_,h|h⟩:=hx<;>omega
theorem keyI_inj:∀ {a b:List Nat},(∀ n∈a,n < 65536)→(∀ n∈b,n < 65536)→keyI a=keyI b→a=b
 | [],[],_,_,_=>rfl
 | [],_::_,_,_,h=>by simp[keyI]at h
 | _::_,[],_,_,h=>by simp[keyI]at h
 | x::a,y::b,ha,hb,h=>by
   simp only[keyI,List.flatMap_cons,List.cons_append,List.nil_append,List.cons.injEq]at h
   have hx:=ha x (.head _)
   have hy:=hb y (.head _)
   have h1:x=y:=by omega
   rw[h1,keyI_inj (fun z hz=>ha z (.tail _ hz)) (fun z hz=>hb z (.tail _ hz)) h.2.2]
theorem keyS_inj {a b:List Nat} (ha:∀ n∈a,n < 65536) (hb:∀ n∈b,n < 65536) (h:keyS a=keyS b):a=b:=
 keyI_inj ha hb (strB_inj (keyI_range a) (keyI_range b) h)
def own2 (H:List MB) (D C:Nat) (x y:MB) (K:List MB):List MB:=(H.set D x).set C y++K
theorem own2_D {H:List MB} {D C:Nat} (hD:D < H.length) (hC:C < H.length) (hn:D≠C) (x y:MB) (K:List MB):(own2 H D C x y K)[D]?=some x:=by
 unfold own2
 rw[List.getElem?_append_left (by simpa using hD),List.getElem?_set_ne (Ne.symm hn),List.getElem?_set_self hD]
theorem own2_C {H:List MB} {D C:Nat} (hD:D < H.length) (hC:C < H.length) (hn:D≠C) (x y:MB) (K:List MB):(own2 H D C x y K)[C]?=some y:=by
 unfold own2
 rw[List.getElem?_append_left (by simpa using hC),List.getElem?_set_self (by simpa using hC)]
theorem own2_setD {H:List MB} {D C:Nat} (hD:D < H.length) (hC:C < H.length) (hn:D≠C) (x y v:MB) (K:List MB):(own2 H D C x y K).set D v=own2 H D C v y K:=by
 unfold own2
 rw[List.set_append_left _ _ (by simpa using hD),List.set_comm _ _ (Ne.symm hn),List.set_set]
theorem own2_setC {H:List MB} {D C:Nat} (hD:D < H.length) (hC:C < H.length) (hn:D≠C) (x y v:MB) (K:List MB):(own2 H D C x y K).set C v=own2 H D C x v K:=by
 unfold own2
 rw[List.set_append_left _ _ (by simpa using hC),List.set_set]
section
variable {H:List MB} {D C:Nat} (x y v:MB) (K:List MB)
theorem own2_app:own2 H D C x y K++[v]=own2 H D C x y (K++[v]):=by simp[own2]
theorem own2_len:(own2 H D C x y K).length=H.length+K.length:=by simp[own2]
theorem own2_ne {i:Nat} (h1:i≠D) (h2:i≠C) (hi:i < H.length):(own2 H D C x y K)[i]?=H[i]?:=by
 unfold own2
 rw[List.getElem?_append_left (by simpa using hi),List.getElem?_set_ne (Ne.symm h2),List.getElem?_set_ne (Ne.symm h1)]
theorem own2_new {k:Nat}:(own2 H D C x y K)[H.length+k]?=K[k]?:=by
 unfold own2
 rw[List.getElem?_append_right (by simp)]
 congr 1
 simp
theorem own2_self (h1:H[D]?=some x) (h2:H[C]?=some y):own2 H D C x y []=H:=by
 unfold own2
 rw[List.append_nil]
 have e1:H.set D x=H:=by
  apply List.ext_getElem?
  intro q
  by_cases e:D=q
  ·subst e;rw[List.getElem?_set_self (List.getElem?_eq_some_iff.1 h1).1,h1]
  ·rw[List.getElem?_set_ne e]
 rw[e1]
 apply List.ext_getElem?
 intro q
 by_cases e:C=q
 ·subst e;rw[List.getElem?_set_self (List.getElem?_eq_some_iff.1 h2).1,h2]
 ·rw[List.getElem?_set_ne e]
end
section
variable {ins:List Ins} {first:List Nat} {size n0 D C:Nat} {a:Lay2} {c:CS} {H:List MB}
theorem DI.find (h:DI ins first size n0 D C a c H) {l:List Nat} (hl:∀ n∈l,n < 65536) {es:List (AV×AV)} (he:H[C]?=some (.mp .str es)) :
  (l∈c.L∧∃ t,findMp (.str (keyS l)) es=some (.rf t 1 0 0)∧a.st t=some (l,c.emptied))∨(l ∉ c.L∧findMp (.str (keyS l)) es=none):=by
 obtain⟨es',e1,e2,e3⟩:=h.cache
 rw[he]at e1
 cases e1
 cases hf:findMp (.str (keyS l)) es with
 | some v=>
   obtain⟨k,m1,m2⟩:=findMp_mem hf
   rw[beq_str]at m2
   subst m2
   obtain⟨i,hi,hg⟩:=List.getElem_of_mem m1
   obtain⟨l',hl'⟩:∃ l',c.L[i]?=some l':=⟨_,List.getElem?_eq_getElem (by omega)⟩
   obtain⟨b1,b2,t,b3,b4⟩:=e3 i l' hl'
   rw[List.getElem?_eq_getElem hi,hg]at b3
   simp only[Option.some.injEq,Prod.mk.injEq,AV.str.injEq]at b3
   obtain⟨b5,rfl⟩:=b3
   have:=keyS_inj hl b2 b5
   subst this
   exact .inl ⟨List.mem_of_getElem? hl',t,rfl,b4⟩
 | none=>
   refine .inr ⟨fun hm=>?_,rfl⟩
   obtain⟨i,hi,hg⟩:=List.getElem_of_mem hm
   obtain⟨_,_,t,b3,_⟩:=e3 i l (by rw[← hg];exact List.getElem?_eq_getElem hi)
   have hne:∀ {es:List (AV×AV)} {i:Nat} {k v:AV},es[i]?=some (k,v)→AV.beq k k=true→findMp k es≠none:=by
    intro es
    induction es with
    | nil=>intro i k v h;simp at h
    | cons p es ih=>
      intro i k v h hb
      obtain⟨k',u'⟩:=p
      simp only[findMp]
      split
      ·simp
      ·cases i with
       | zero=>simp at h;rename_i hx;rw[h.1]at hx;exact absurd hb hx
       | succ i=>exact ih (by simpa using h) hb
   exact hne b3 (beq_str.2 rfl) hf
end
end
section
attribute [local go_sem] evAppend evSlice ty0 ty3 ty4 ty9 ty22 ty39 ty78 ty80 ty102 ty104 ty106 ty141
open Go.Proofs Go.RowKit Go.IntWalk
set_option maxRecDepth 100000
set_option maxHeartbeats 8000000
def KeepsLow (n0:Nat) (H H':List MB):Prop:=H.length≤H'.length∧∀ i,i < n0→H'[i]?=H[i]?
theorem KeepsLow.refl (n0:Nat) (H:List MB):KeepsLow n0 H H:=⟨Nat.le_refl _,fun _ _=>rfl⟩
theorem KeepsLow.trans {n0:Nat} {H H' H'':List MB} (h:KeepsLow n0 H H') (h2:KeepsLow n0 H' H''):KeepsLow n0 H H'':=⟨Nat.le_trans h.1 h2.1,fun i hi=>(h2.2 i hi).trans (h.2 i hi)⟩
theorem Lay2.le_refl (a:Lay2):a.le a:=⟨fun _ _ h=>h,fun _ _ h=>h⟩
theorem Lay2.le_trans {a b c:Lay2} (h:a.le b) (h2:b.le c):a.le c:=⟨fun i x hx=>h2.1 i x (h.1 i x hx),fun i x hx=>h2.2 i x (h.2 i x hx)⟩
section
variable {ins:List Ins} {first:List Nat} {size n0 D C:Nat} {a:Lay2} {c:CS} {H:List MB}
theorem DI.st_at (h:DI ins first size n0 D C a c H) {t:Nat} {x:List Nat×Nat} (ht:a.st t=some x):t < H.length∧t≠D∧t≠C:=by
 obtain⟨l,f⟩:=x
 obtain⟨b,m,h1,_⟩:=h.st t l f ht
 refine⟨(List.getElem?_eq_some_iff.1 h1).1,fun e=>?_,fun e=>?_⟩
 ·rw[e,h.d]at h1;simp at h1
 ·obtain⟨es,h2,_⟩:=h.cache
  rw[e,h2]at h1;cases h1
theorem DI.nx_at (h:DI ins first size n0 D C a c H) {q:Nat} {x:List Nat} (hq:a.nx q=some x):q < H.length∧q≠D∧q≠C:=by
 obtain⟨es',h1,_⟩:=h.nx q x hq
 refine⟨(List.getElem?_eq_some_iff.1 h1).1,fun e=>?_,fun e=>?_⟩
 ·rw[e,h.d]at h1;cases h1
 ·obtain⟨es,h2,_⟩:=h.cache
  rw[e,h2]at h1;simp at h1
theorem DI.dead (h:DI ins first size n0 D C a c H) (x:MB) (hx:x=.row 3 [stAV true [] .nilm 0] 0) :
  DI ins first size n0 D C ⟨fun i=>if i=H.length then some ([],0) else a.st i,a.nx⟩ c (H++[x])∧a.le ⟨fun i=>if i=H.length then some ([],0) else a.st i,a.nx⟩:=by
 have old:∀ i,i < H.length→(H++[x])[i]?=H[i]?:=fun i hi=>List.getElem?_append_left hi
 have hD:=(List.getElem?_eq_some_iff.1 h.d).1
 obtain⟨es,hC,hes,hce⟩:=h.cache
 have hCl:=(List.getElem?_eq_some_iff.1 hC).1
 have hne:∀ t y,a.st t=some y→t≠H.length:=fun t y ht=>by have:=(h.st_at ht).1;omega
 have hle:a.le ⟨fun i=>if i=H.length then some ([],0) else a.st i,a.nx⟩:=⟨fun i y hy=>by simp[hne i y hy,hy],fun _ _ h=>h⟩
 refine⟨⟨by rw[old _ hD];exact h.d,⟨h.lo.1,h.lo.2.1,fun i y hy=>?_,h.lo.2.2.2⟩,⟨es,by rw[old _ hCl];exact hC,hes,fun i l hi=>?_⟩,fun t l f ht=>?_,fun q l hq=>?_,h.small⟩,hle⟩
 ·simp only at hy
  split at hy
  ·rename_i e;have:=h.lo.1;omega
  ·exact h.lo.2.2.1 i y hy
 ·obtain⟨b1,b2,t,b3,b4⟩:=hce i l hi
  exact⟨b1,b2,t,b3,hle.1 _ _ b4⟩
 ·simp only at ht
  split at ht
  ·rename_i e
   cases ht
   subst e
   exact⟨true,.nilm,by simp[hx],(fun n hn=>by cases hn),Nat.zero_le _,Nat.zero_le _,fun h=>absurd rfl h,fun h=>absurd rfl h⟩
  ·obtain⟨b,m,c1,c2,c3,c4,c5,c6⟩:=h.st t l f ht
   exact⟨b,m,by rw[old _ (h.st_at ht).1];exact c1,c2,c3,c4,c5,c6⟩
 ·obtain⟨es',d1,d2⟩:=h.nx q l hq
  refine⟨es',by rw[old _ (h.nx_at hq).1];exact d1,fun k v hm=>?_⟩
  obtain⟨y,t,f,e1,e2,e3⟩:=d2 k v hm
  exact⟨y,t,f,e1,e2,hle.1 _ _ e3⟩
abbrev layN (a:Lay2) (n:Nat) (l:List Nat) (f:Nat):Lay2:=⟨fun i=>if i=n+1 then some (l,f) else a.st i,fun i=>if i=n then some l else a.nx i⟩
theorem DI.made (h:DI ins first size n0 D C a c H) {l:List Nat} (hl:∀ n∈l,n < ins.length) (hll:l.length≤ins.length) (h0:l≠[]) (hN:ins.length≤8192) (c':CS) (es':List (AV×AV)) (hes:es'.length=c'.L.length)
  (hc:∀(i:Nat) (l':List Nat),c'.L[i]?=some l'→(l' = l∧es'[i]?=some (AV.str (keyS l),AV.rf (H.length+1) 1 0 0))∨(c'.emptied=c.emptied∧∃ es:List (AV×AV),H[C]?=some (.mp .str es)∧c.L[i]?=some l'∧es'[i]?=es[i]?))
  (he:c.emptied≤c'.emptied) (hin:l∈c'.L) (hold:c'.emptied=c.emptied→∀ x∈c.L,x∈c'.L) (hold2:c'.emptied=c.emptied∨c.emptied < c'.emptied)
  (hs:c'.made≤4000000000000∧c'.emptied≤c'.made∧c'.L.length≤size∧1≤size∧size≤1024) :
  DI ins first size n0 D C (layN a H.length l c'.emptied) c' (own2 H D C (.row 6 [dfaAV ins first size C c'] 0) (.mp .str es') [.mp (.int .i64) [],.row 3 [stAV false l (.mpr H.length) c'.emptied] 0])∧a.le (layN a H.length l c'.emptied):=by
 have hDl:=(List.getElem?_eq_some_iff.1 h.d).1
 obtain⟨es,hC,hes0,hce⟩:=h.cache
 have hCl:=(List.getElem?_eq_some_iff.1 hC).1
 have hDC:D≠C:=fun e=>by rw[← e,h.d]at hC;cases hC
 have hne:∀ t y,a.st t=some y→t≠H.length+1:=fun t y ht=>by have:=(h.st_at ht).1;omega
 have hne2:∀ t y,a.nx t=some y→t≠H.length:=fun t y ht=>by have:=(h.nx_at ht).1;omega
 have hle:a.le (layN a H.length l c'.emptied):=⟨fun i y hy=>by simp[layN,hne i y hy,hy],fun i y hy=>by simp[layN,hne2 i y hy,hy]⟩
 have hlo:=h.lo
 refine⟨⟨own2_D hDl hCl hDC _ _ _,⟨hlo.1,hlo.2.1,fun i y hy=>?_,fun i y hy=>?_⟩,⟨es',own2_C hDl hCl hDC _ _ _,hes,fun i l' hi=>?_⟩,fun t l' f ht=>?_,fun q l' hq=>?_,hs⟩,hle⟩
 ·simp only[layN]at hy
  split at hy
  ·omega
  ·exact hlo.2.2.1 i y hy
 ·simp only[layN]at hy
  split at hy
  ·omega
  ·exact hlo.2.2.2 i y hy
 ·rcases hc i l' hi with ⟨rfl,e2⟩|⟨e1,es0,e2,e3,e4⟩
  ·exact⟨h0,fun n hn=>by have:=hl n hn;omega,_,e2,by simp[layN]⟩
  ·rw[hC]at e2;cases e2
   obtain⟨b1,b2,t,b3,b4⟩:=hce i l' e3
   exact⟨b1,b2,t,by rw[e4];exact b3,(hle.1 _ _ b4).trans (by rw[e1])⟩
 ·simp only[layN]at ht
  split at ht
  ·rename_i e
   simp only[Option.some.injEq,Prod.mk.injEq]at ht
   obtain⟨rfl,rfl⟩:=ht
   subst e
   exact⟨false,.mpr H.length,by rw[own2_new];rfl,hl,hll,Nat.le_refl _,fun _ _=>hin,fun _=>⟨rfl,_,rfl,by simp[layN]⟩⟩
  ·obtain⟨b,m,c1,c2,c3,c4,c5,c6⟩:=h.st t l' f ht
   obtain⟨g1,g2,g3⟩:=h.st_at ht
   refine⟨b,m,by rw[own2_ne _ _ _ g2 g3 g1];exact c1,c2,c3,by omega,fun z1 z2=>?_,fun z1=>?_⟩
   ·rcases hold2 with e|e
    ·exact hold e l' (c5 z1 (by omega))
    ·omega
   ·obtain⟨z,q,k1,k2⟩:=c6 z1
    exact⟨z,q,k1,hle.2 _ _ k2⟩
 ·simp only[layN]at hq
  split at hq
  ·rename_i e
   subst e
   exact⟨[],by have:=own2_new (H:=H) (D:=D) (C:=C) (.row 6 [dfaAV ins first size C c'] 0) (.mp .str es') [.mp (.int .i64) [],.row 3 [stAV false l (.mpr H.length) c'.emptied] 0] (k:=0);simpa using this,fun k v hm=>by cases hm⟩
  ·obtain⟨es2,d1,d2⟩:=h.nx q l' hq
   obtain⟨g1,g2,g3⟩:=h.nx_at hq
   refine⟨es2,by rw[own2_ne _ _ _ g2 g3 g1];exact d1,fun k v hm=>?_⟩
   obtain⟨y,t,f,e1,e2,e3⟩:=d2 k v hm
   exact⟨y,t,f,e1,e2,hle.1 _ _ e3⟩
theorem own2_low (h:DI ins first size n0 D C a c H) (x y:MB) (K:List MB):KeepsLow n0 H (own2 H D C x y K):=by
 have hlo:=h.lo
 have hDl:=(List.getElem?_eq_some_iff.1 h.d).1
 refine⟨by rw[own2_len];omega,fun i hi=>own2_ne _ _ _ (by omega) (by omega) (by omega)⟩
end
theorem updMp_none {x v:AV}:∀ {es:List (AV×AV)},findMp x es=none→updMp x v es=es++[(x,v)]
 | [],_=>rfl
 | (k,u)::es,h=>by
   simp only[findMp]at h
   split at h
   ·cases h
   ·rename_i hb
    simp only[updMp]
    rw[if_neg hb,updMp_none h]
    rfl
theorem f47 {ins:List Ins} {first:List Nat} {size n0 D C:Nat} {a:Lay2} {c:CS} {H:List MB} (hi:DI ins first size n0 D C a c H) (hN:ins.length≤8192) (hmd:c.made < 4000000000000) {l:List Nat} (hl:∀ n∈l,n < ins.length) (hll:l.length≤ins.length) :
  ∃ r,(∃ t H' a' f,r=(AV.rf t 1 0 0,H')∧DI ins first size n0 D C a' (c.need size l) H'∧a.le a'∧a'.st t=some (l,f)∧KeepsLow n0 H H')∧call Try.prog pol1 47 [.rf D 1 0 0,.sl false (l.map NV)] H=some r:=by
 have hD:=hi.d
 have hDl:=(List.getElem?_eq_some_iff.1 hD).1
 obtain⟨es,hC,hes,hce⟩:=hi.cache
 have hCl:=(List.getElem?_eq_some_iff.1 hC).1
 have hDC:D≠C:=fun e=>by rw[← e,hD]at hC;cases hC
 obtain⟨s1,s2,s3,s4,s5⟩:=hi.small
 have hk:=f51 l (by omega)
 have oD:=fun x y K=>own2_D (D:=D) (C:=C) hDl hCl hDC x y K
 have oC:=fun x y K=>own2_C (D:=D) (C:=C) hDl hCl hDC x y K
 have oSD:=fun x y v K=>own2_setD (D:=D) (C:=C) hDl hCl hDC x y v K
 have oSC:=fun x y v K=>own2_setC (D:=D) (C:=C) hDl hCl hDC x y v K
 have hself:=own2_self _ _ hD hC
 refine call_run2E (pol:=pol1) Try.func47 rfl rfl rfl rfl (frzArgs_mix _ _ _ rfl) ?_
 rw[← hself]
 have rp:∀ H1 r H,retPol pol1 47 H1 r H=some (r,H):=fun H1 r H=>rfl
 by_cases h0:l=[]
 ·subst h0
  simp +contextual (disch:=omega) only[Try.f47,dd47,go_sem,↓reduceIte,List.reduceReplicate,Nat.reduceAdd,Nat.reduceSub,reduceCtorEq,Nat.reduceLeDiff,Nat.reduceMul,Nat.reduceLT,Nat.reduceEqDiff,Int.reduceBNe,Int.reduceBEq,Int.reduceEq,Int.reduceLT,Int.reduceLE,Int.reduceGT,Int.reduceGE,mu47,Nat.reduceBEq,↓wrap_up,↓wrap_down,↓wrap_pred,↓wrap_sub_nat,Int.reduceToNat,oD,oC,oSD,oSC,own2_app,own2_len]
  refine⟨_,⟨_,_,⟨fun i=>if i=H.length then some ([],0) else a.st i,a.nx⟩,0,rfl,?_⟩,rp _ _ _⟩
  rw[show own2 H D C (.row 6 [dfaAV ins first size C c] 0) (.mp .str es) [.row 3 [.agg [.sl true [],.nilm,.int .i64 0]] 0]=H++[.row 3 [stAV true [] .nilm 0] 0] from(own2_app _ _ _ []).symm.trans (by rw[hself];rfl),hself]
  obtain⟨g1,g2⟩:=hi.dead _ rfl
  exact⟨g1,g2,by simp,⟨by simp,fun i hi2=>List.getElem?_append_left (by have:=hi.lo.1;omega)⟩⟩
 have hl0:((l.length:Nat):Int)=0↔False:=by
  have:l.length≠0:=fun e=>h0 (List.length_eq_zero_iff.1 e)
  exact⟨fun h=>this (by omega),False.elim⟩
 rcases hi.find (l:=l) (fun n hn=>by have:=hl n hn;omega) hC with ⟨hm,t,ht,hst⟩|⟨hm,ht⟩
 ·simp +contextual (disch:=omega) only[Try.f47,dd47,go_sem,↓reduceIte,List.reduceReplicate,Nat.reduceAdd,Nat.reduceSub,reduceCtorEq,Nat.reduceLeDiff,Nat.reduceMul,Nat.reduceLT,Nat.reduceEqDiff,Int.reduceBNe,Int.reduceBEq,Int.reduceEq,Int.reduceLT,Int.reduceLE,Int.reduceGT,Int.reduceGE,mu47,Nat.reduceBEq,↓wrap_up,↓wrap_down,↓wrap_pred,↓wrap_sub_nat,Int.reduceToNat,oD,oC,oSD,oSC,own2_app,own2_len,hl0,hk,ht]
  refine⟨False.elim,fun _=>⟨_,⟨_,_,a,c.emptied,rfl,?_⟩,rp _ _ _⟩⟩
  rw[hself]
  refine⟨?_,a.le_refl,hst,.refl _ _⟩
  unfold CS.need
  rw[if_neg h0,if_pos hm]
  exact hi
 ·by_cases hfull:c.L.length=size
  ·simp +contextual (disch:=omega) only[Try.f47,dd47,go_sem,↓reduceIte,List.reduceReplicate,Nat.reduceAdd,Nat.reduceSub,reduceCtorEq,Nat.reduceLeDiff,Nat.reduceMul,Nat.reduceLT,Nat.reduceEqDiff,Int.reduceBNe,Int.reduceBEq,Int.reduceEq,Int.reduceLT,Int.reduceLE,Int.reduceGT,Int.reduceGE,mu47,Nat.reduceBEq,↓wrap_up,↓wrap_down,↓wrap_pred,↓wrap_sub_nat,Int.reduceToNat,oD,oC,oSD,oSC,own2_app,own2_len,hl0,hk,ht,lenMp,evClear,hes,hfull]
   refine⟨False.elim,fun _=>⟨by unfold dOk;kernel_rfl,_,⟨_,_,layN a H.length l (c.emptied+1),c.emptied+1,rfl,?_⟩,rp _ _ _⟩⟩
   rw[hself]
   have hn:c.need size l=⟨[l],c.made+1,c.emptied+1⟩:=by unfold CS.need;rw[if_neg h0,if_neg hm,if_pos hfull]
   rw[hn]
   obtain⟨g1,g2⟩:=hi.made hl hll h0 hN ⟨[l],c.made+1,c.emptied+1⟩ [(.str (keyS l),.rf (H.length+1) 1 0 0)] rfl (fun i l' h=>by
    cases i with
    | zero=>simp at h;exact .inl ⟨h.symm,rfl⟩
    | succ i=>simp at h) (Nat.le_succ _) (by simp) (fun h=>by simp at h) (.inr (Nat.lt_succ_self _)) ⟨by simp only;omega,by simp only;omega,by simp only[List.length_singleton];omega,s4,s5⟩
   exact⟨g1,g2,by simp[layN],own2_low hi _ _ _⟩
  ·simp +contextual (disch:=omega) only[Try.f47,dd47,go_sem,↓reduceIte,List.reduceReplicate,Nat.reduceAdd,Nat.reduceSub,reduceCtorEq,Nat.reduceLeDiff,Nat.reduceMul,Nat.reduceLT,Nat.reduceEqDiff,Int.reduceBNe,Int.reduceBEq,Int.reduceEq,Int.reduceLT,Int.reduceLE,Int.reduceGT,Int.reduceGE,mu47,Nat.reduceBEq,↓wrap_up,↓wrap_down,↓wrap_pred,↓wrap_sub_nat,Int.reduceToNat,oD,oC,oSD,oSC,own2_app,own2_len,hl0,hk,ht,lenMp,evClear,hes,hfull]
   refine⟨False.elim,fun _=>⟨by unfold dOk;kernel_rfl,_,⟨_,_,layN a H.length l c.emptied,c.emptied,rfl,?_⟩,rp _ _ _⟩⟩
   rw[hself,updMp_none ht]
   have hn:c.need size l=⟨c.L++[l],c.made+1,c.emptied⟩:=by unfold CS.need;rw[if_neg h0,if_neg hm,if_neg hfull]
   rw[hn]
   obtain⟨g1,g2⟩:=hi.made hl hll h0 hN ⟨c.L++[l],c.made+1,c.emptied⟩ (es++[(.str (keyS l),.rf (H.length+1) 1 0 0)]) (by simp[hes]) (fun i l' h=>by
    by_cases hlt:i < c.L.length
    ·rw[List.getElem?_append_left hlt]at h
     exact .inr ⟨rfl,es,hC,h,List.getElem?_append_left (by omega)⟩
    ·have hi3:i=c.L.length:=by
      have:=(List.getElem?_eq_some_iff.1 h).1
      simp at this;omega
     subst hi3
     simp at h
     exact .inl ⟨h.symm,by rw[← hes];simp⟩) (Nat.le_refl _) (by simp) (fun _ x hx=>List.mem_append_left _ hx) (.inl rfl) ⟨by simp only;omega,by simp only;omega,by simp only[List.length_append,List.length_singleton];omega,s4,s5⟩
   exact⟨g1,g2,by simp[layN],own2_low hi _ _ _⟩
end
section
attribute [local go_sem] evAppend evSlice ty0 ty3 ty4 ty22 ty39 ty42 ty80 ty102 ty104 ty106 ty141
open Go.Proofs Go.RowKit Go.IntWalk
set_option maxRecDepth 100000
set_option maxHeartbeats 8000000
section
variable {ins:List Ins} {first:List Nat} {size n0 D C:Nat} {a:Lay2} {c:CS} {H:List MB}
theorem DI.setNx (h:DI ins first size n0 D C a c H) {q:Nat} {l:List Nat} (hq:a.nx q=some l) (es:List (AV×AV)) (hes:∀ k v,(k,v)∈es→∃ x t f,k=I x∧v=.rf t 1 0 0∧a.st t=some (stateL ins (afterL ins l x),f)) :
  DI ins first size n0 D C a c (H.set q (.mp (.int .i64) es))∧KeepsLow n0 H (H.set q (.mp (.int .i64) es)):=by
 obtain⟨g1,g2,g3⟩:=h.nx_at hq
 have hlo:=h.lo.2.2.2 q l hq
 have old:∀ i,i≠q→(H.set q (.mp (.int .i64) es))[i]?=H[i]?:=fun i hi=>List.getElem?_set_ne (Ne.symm hi)
 obtain⟨es0,hC,hes0,hce⟩:=h.cache
 obtain⟨es1,hq1,hq2⟩:=h.nx q l hq
 refine⟨⟨by rw[old _ (Ne.symm g2)];exact h.d,h.lo,⟨es0,by rw[old _ (Ne.symm g3)];exact hC,hes0,hce⟩,fun t l' f ht=>?_,fun q' l' hq'=>?_,h.small⟩,⟨by simp,fun i hi=>old i (by omega)⟩⟩
 ·obtain⟨b,m,c1,c2⟩:=h.st t l' f ht
  have:t≠q:=fun e=>by rw[e,hq1]at c1;cases c1
  exact⟨b,m,by rw[old _ this];exact c1,c2⟩
 ·by_cases e:q' = q
  ·subst e
   rw[hq]at hq';cases hq'
   exact⟨es,List.getElem?_set_self g1,hes⟩
  ·obtain⟨es2,d1,d2⟩:=h.nx q' l' hq'
   exact⟨es2,by rw[old _ e];exact d1,d2⟩
theorem CS.need_made (c:CS) (size:Nat) (l:List Nat):(c.need size l).made≤c.made+1:=by
 unfold CS.need
 split
 ·omega
 ·split
  ·omega
  ·split<;>simp
end
structure InsOk (ins:List Ins):Prop where
 len:ins.length≤8192
 leads:Leads ins
 sets:∀ i∈ins,i.set.length≤1000000
theorem afterL_lt {ins:List Ins} (h:Leads ins) (l:List Nat) (x:Int):∀ n∈afterL ins l x,n < ins.length:=by
 intro n hn
 simp only[afterL,List.mem_flatMap]at hn
 obtain⟨m,_,hm⟩:=hn
 split at hm
 ·rename_i i hi
  split at hm
  ·rename_i h1
   simp at hm;subst hm
   exact(h m i hi).2.2.2 (.inl h1.1)
  ·simp at hm
 ·simp at hm
abbrev nextL (ins:List Ins) (l:List Nat) (x:Int):List Nat:=stateL ins (afterL ins l x)
theorem f48 {ins:List Ins} {first:List Nat} {size n0 D C:Nat} {a:Lay2} {c:CS} {H:List MB} (hi:DI ins first size n0 D C a c H) (ho:InsOk ins) (hmd:c.made < 4000000000000) {s:Nat} {l:List Nat} {f:Nat} (hs:a.st s=some (l,f)) (hl0:l≠[]) (x:Int) :
  ∃ r,(∃ t H' a' f,r=(AV.rf t 1 0 0,H')∧DI ins first size n0 D C a' (c.need size (nextL ins l x)) H'∧a.le a'∧a'.st t=some (nextL ins l x,f)∧KeepsLow n0 H H')∧call Try.prog pol1 48 [.rf D 1 0 0,.rf s 1 0 0,I x] H=some r:=by
 have hN:=ho.len
 have hD:=hi.d
 obtain⟨b,m,s1,s2,s3,s4,s5,s6⟩:=hi.st s l f hs
 obtain⟨rfl,q,rfl,hq⟩:=s6 hl0
 obtain⟨es,q1,q2⟩:=hi.nx q l hq
 obtain⟨t1,⟨t,H1,a1,f1,rfl,d1,le1,st1,low1⟩,hc47⟩:=f47 hi hN hmd (l:=nextL ins l x) (stateL_ok ins _).1 (stateL_ok ins _).2
 obtain⟨b',m',u1,u2,u3,u4,u5,u6⟩:=d1.st s l f (le1.1 _ _ hs)
 obtain⟨rfl,q',rfl,hq'⟩:=u6 hl0
 obtain⟨es',v1,v2⟩:=d1.nx q' l hq'
 have hal:=afterL_len ins l x
 have hc52:=f52 ins (by omega) ho.sets l (by omega) s2 x
 have hc30:=f30l ins (by omega) ho.leads (afterL ins l x) (by omega) (afterL_lt ho.leads l x)
 have rp:∀ H1 r H,retPol pol1 48 H1 r H=some (r,H):=fun H1 r H=>rfl
 have hsq:s≠q':=fun e=>by rw[e,v1]at u1;cases u1
 have hq'l:=(d1.nx_at hq').1
 have g1:∀ z,(H1.set q' z)[s]?=some (.row 3 [stAV false l (.mpr q') f] 0):=fun z=>by rw[List.getElem?_set_ne (Ne.symm hsq)];exact u1
 have g2:∀ z,(H1.set q' z)[q']?=some z:=fun z=>List.getElem?_set_self hq'l
 have hgood:∀(es2:List (AV×AV)),(∀ k v,(k,v)∈es2→(k,v)∈es')→∀ k v,(k,v)∈updMp (I x) (.rf t 1 0 0) es2→∃ x t f,k=I x∧v=.rf t 1 0 0∧a1.st t=some (stateL ins (afterL ins l x),f):=by
  intro es2 he k v hm
  rcases updMp_mem hm with h|⟨h1,h2⟩
  ·exact v2 k v (he k v h)
  ·refine⟨x,t,f1,?_,h1,st1⟩
   rcases h2 with h2|h2
   ·exact h2
   ·exact beq_I.1 h2
 refine call_run2E (pol:=pol1) Try.func48 rfl rfl rfl rfl (frzArgs_mix _ _ _ rfl) ?_
 have fin:∀(es2:List (AV×AV)),(∀ k v,(k,v)∈es2→(k,v)∈es')→∃ r,(∃ t H' a' f,r=(AV.rf t 1 0 0,H')∧DI ins first size n0 D C a' (c.need size (nextL ins l x)) H'∧a.le a'∧a'.st t=some (nextL ins l x,f)∧KeepsLow n0 H H') ∧
   retPol pol1 48 H (.rf t 1 0 0) (H1.set q' (.mp (.int .i64) (updMp (I x) (.rf t 1 0 0) es2)))=some r:=by
  intro es2 he
  obtain⟨w1,w2⟩:=d1.setNx hq' _ (hgood es2 he)
  exact⟨_,⟨t,_,a1,f1,rfl,w1,le1,st1,low1.trans w2⟩,rp _ _ _⟩
 cases hf:findMp (I x) es with
 | some v=>
   obtain⟨k,hm,hb⟩:=findMp_mem hf
   rw[beq_I]at hb
   subst hb
   obtain⟨x',t2,f2,e1,rfl,e3⟩:=q2 _ _ hm
   have e1:x=x':=by simpa using e1
   subst e1
   obtain⟨b2,m2,k1,k2,k3,k4,k5,k6⟩:=hi.st t2 _ _ e3
   by_cases hhit:nextL ins l x=[]∨f2=c.emptied
   ·have hneed:c.need size (nextL ins l x)=c:=by
     unfold CS.need
     by_cases h0:nextL ins l x=[]
     ·rw[if_pos h0]
     ·rw[if_neg h0]
      rcases hhit with h|h
      ·exact absurd h h0
      ·rw[if_pos (k5 h0 h)]
    have hres:∃ r,(∃ t H' a' f,r=(AV.rf t 1 0 0,H')∧DI ins first size n0 D C a' (c.need size (nextL ins l x)) H'∧a.le a'∧a'.st t=some (nextL ins l x,f)∧KeepsLow n0 H H')∧retPol pol1 48 H (.rf t2 1 0 0) H=some r:=
     ⟨_,⟨t2,H,a,f2,rfl,by rw[hneed];exact hi,a.le_refl,e3,.refl _ _⟩,rp _ _ _⟩
    by_cases h0:(nextL ins l x).length=0
    ·simp +contextual (disch:=omega) only[Try.f48,dd48,go_sem,↓reduceIte,List.reduceReplicate,Nat.reduceAdd,Nat.reduceSub,reduceCtorEq,Nat.reduceLeDiff,Nat.reduceMul,Nat.reduceLT,Nat.reduceEqDiff,Int.reduceBNe,Int.reduceBEq,Int.reduceEq,Int.reduceLT,Int.reduceLE,Int.reduceGT,Int.reduceGE,mu48,Nat.reduceBEq,↓wrap_up,↓wrap_down,↓wrap_pred,↓wrap_sub_nat,Int.reduceToNat,hD,s1,q1,hf,k1,h0]
     repeat' (first|intro _|apply And.intro|(unfold dOk;kernel_rfl)|exact St.beq_refl _|(show altO _ _ _ _=true;kernel_rfl)|(show (_ || _)=true;kernel_rfl)|(show (_ && _)=true;kernel_rfl))
     all_goals first|exact hres|omega
    ·have h1:f2=c.emptied:=by
      rcases hhit with h|h
      ·exact absurd (List.length_eq_zero_iff.2 h) h0
      ·exact h
     subst h1
     simp +contextual (disch:=omega) only[Try.f48,dd48,go_sem,↓reduceIte,List.reduceReplicate,Nat.reduceAdd,Nat.reduceSub,reduceCtorEq,Nat.reduceLeDiff,Nat.reduceMul,Nat.reduceLT,Nat.reduceEqDiff,Int.reduceBNe,Int.reduceBEq,Int.reduceEq,Int.reduceLT,Int.reduceLE,Int.reduceGT,Int.reduceGE,mu48,Nat.reduceBEq,↓wrap_up,↓wrap_down,↓wrap_pred,↓wrap_sub_nat,Int.reduceToNat,hD,s1,q1,hf,k1]
     repeat' (first|intro _|apply And.intro|(unfold dOk;kernel_rfl)|exact St.beq_refl _|(show altO _ _ _ _=true;kernel_rfl)|(show (_ || _)=true;kernel_rfl)|(show (_ && _)=true;kernel_rfl))
     all_goals exact hres
   ·have h0:(stateL ins (afterL ins l x)).length≠0:=fun e=>hhit (.inl (List.length_eq_zero_iff.1 e))
    have h0':((stateL ins (afterL ins l x)).length:Int)=0↔False:=⟨fun h=>h0 (by omega),False.elim⟩
    have h1:((f2:Nat):Int)=(c.emptied:Nat)↔False:=⟨fun h=>hhit (.inr (by omega)),False.elim⟩
    simp +contextual (disch:=omega) only[Try.f48,dd48,go_sem,↓reduceIte,List.reduceReplicate,Nat.reduceAdd,Nat.reduceSub,reduceCtorEq,Nat.reduceLeDiff,Nat.reduceMul,Nat.reduceLT,Nat.reduceEqDiff,Int.reduceBNe,Int.reduceBEq,Int.reduceEq,Int.reduceLT,Int.reduceLE,Int.reduceGT,Int.reduceGE,mu48,Nat.reduceBEq,↓wrap_up,↓wrap_down,↓wrap_pred,↓wrap_sub_nat,Int.reduceToNat,hD,s1,q1,hf,k1,h0',h1,hc52,hc30,hc47,u1,v1,g1,g2,lenMp,evClear,List.set_set]
    repeat' (first|intro _|apply And.intro|(unfold dOk;kernel_rfl)|exact St.beq_refl _|(show altO _ _ _ _=true;kernel_rfl)|(show (_ || _)=true;kernel_rfl)|(show (_ && _)=true;kernel_rfl))
    all_goals first|contradiction|exact fin [] (fun k v h=>by cases h)|exact fin es' (fun k v h=>h)|trace_state
 | none=>
   simp +contextual (disch:=omega) only[Try.f48,dd48,go_sem,↓reduceIte,List.reduceReplicate,Nat.reduceAdd,Nat.reduceSub,reduceCtorEq,Nat.reduceLeDiff,Nat.reduceMul,Nat.reduceLT,Nat.reduceEqDiff,Int.reduceBNe,Int.reduceBEq,Int.reduceEq,Int.reduceLT,Int.reduceLE,Int.reduceGT,Int.reduceGE,mu48,Nat.reduceBEq,↓wrap_up,↓wrap_down,↓wrap_pred,↓wrap_sub_nat,Int.reduceToNat,hD,s1,q1,hf,hc52,hc30,hc47,u1,v1,g1,g2,lenMp,evClear,List.set_set]
   repeat' (first|intro _|apply And.intro|(unfold dOk;kernel_rfl)|exact St.beq_refl _|(show altO _ _ _ _=true;kernel_rfl)|(show (_ || _)=true;kernel_rfl)|(show (_ && _)=true;kernel_rfl))
   ·exact fin [] (fun k v h=>by cases h)
   ·exact fin es' (fun k v h=>h)
def doneL (ins:List Ins) (l:List Nat):Bool:=match l.getLast? with
 | some n=>match ins[n]? with
   | some i=>i.op == 0
   | none=>false
 | none=>false
def runL (ins:List Ins):List Int→Nat→List Nat→Int→Int
 | xs,p,l,e=>if l=[] then e else match xs with
   | []=>if doneL ins l=true then(p:Int) else e
   | x::xs=>runL ins xs (p+1) (nextL ins l x) (if doneL ins l=true then(p:Int) else e)
def runC (ins:List Ins) (size:Nat):List Int→List Nat→CS→CS
 | xs,l,c=>if l=[] then c else match xs with
   | []=>c
   | x::xs=>runC ins size xs (nextL ins l x) (c.need size (nextL ins l x))
end
end Go.Ev
