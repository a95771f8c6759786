/- Functions of the program, each with what it computes; no further conditions. -/
import Derived.Test.YtpbobopcmhpbbaaE05
import Derived.Test.YtpbobopcmhpbbaaE10
import Derived.Test.YtpbobopcmhpbbaaE18
import Derived.Test.YtpbobopcmhpbbaaE14
import Derived.Test.YtpbobopcmhpbbaaE11
import Derived.Test.YtpbobopcmhpbbaaE12
set_option linter.unusedVariables false
set_option linter.unusedSimpArgs false
namespace Go.Ev
attribute [local go_sem] eq_self bindW_some bindW_map bindW_ite bindW_iteN W_seq W_region W_draw W_cond W_condK W_ret W_skip W_exit W_scope W_label W_block blockK_norm blockK_ret blockK_exit WO_nil WO_cons WO_guard WD_nil WD_cons WD_guard guardV guardW_boolT guardW_boolF guardW_tup fpL_some fpL_none footprint thenK_norm thenK_ret thenK_exit put_some put_none ev_tmp ev_con ev_func ofK_int ofK_bool ofK_str ofK_nil evOp evBuiltin evCall evLen getElem_16 getElem_4 List.length_cons List.length_nil List.cons_append List.nil_append List.append_nil if_false if_true Bool.false_eq_true Bool.true_eq_false Option.map_some Option.map_none List.map_cons List.map_nil evBinOp evUn asB_bool splitB_decide splitB_true splitB_false splitB_beq splitB_bne splitB_not endK_ret endK_norm List.getElem?_cons_zero List.getElem?_cons_succ evResults evResult packRes retK_norm retK_ret cellsAt mkVal evFieldAddr evField evIndexAddr evPart evStore evBuild evBuildSlice fillC fillE evSlice evMakeSlice evConvert getRow AV.cells List.head?_cons List.drop_zero List.drop_succ_cons List.take_zero List.take_succ_cons List.drop_nil List.take_nil List.all_cons List.all_nil AV.ok Bool.and_self Bool.and_true Bool.true_and and_self and_true true_and Nat.zero_add Nat.add_zero setCells splice pairsOk pairsX altW_none altW_some cfg_al WI_nil WI_cons FP.apart heapEq_refl sameAt_refl Bool.or_true Bool.true_or Bool.or_false srcElems elemsOf mutDst indDst roundK_norm roundK_exit roundK_ret List.length_map List.getElem?_map Int.toNat_natCast decide_true decide_false Bool.not_true Bool.not_false List.set set_0 set_1 set_2 set_3 set_4 look_hit look lookD_hit lookD_cons lookD_nil ins_hit ins upd_hit upd rem1_hit rem1 dropT dropSt_eq initT cfg_dd cfg_bd cfg_ra actL_nil actL_cons act1 updT_hit updT frzB retE_norm retE_ret bndO bnd evEq eqCells not_false_eq_true not_true_eq_false toList_some Array.size_empty List.length_append tySzE List.head?_drop Nat.mul_one sameAt_zero sameAt_two sameAt_three sameAt_four sameAt_five endE_norm endE_ret head_take1 List.contains_nil List.contains_cons Bool.or_self dlt_t dlt_f dle_t dle_f dgt_t dgt_f dge_t dge_f beq_t beq_f bne_t bne_f lt_T le_T nle_T nle_F Go.IntWalk.i64_in Go.IntWalk.i64_quo Go.IntWalk.rem_in room_ok ty0 ty3
section
attribute [local go_sem] evAppend evBin List.map_append ty22 ty23 ty26 ty86 ty91 ty93 ty189
open Go.Proofs Go.RowKit Go.IntWalk
set_option maxRecDepth 100000
set_option linter.unusedSimpArgs false
set_option linter.unusedVariables false
set_option maxHeartbeats 8000000
theorem plain_re (r:Re):AV.plain (reAV r)=true:=plain_reC r
structure MS where
 at_:Int
 left:Int
 caps:Int
abbrev mkAV (l:List Int) (uses:Int) (s:MS):AV:=.agg [.sl false (l.map I),I s.at_,I uses,I s.left,I s.caps]
abbrev mH (b0:MB) (l:List Int) (uses:Int) (s:MS) (K:List MB):List MB:=b0::.row 5 [mkAV l uses s] 0::K
def nx (l:List Int) (n:Int) (s:MS):Int×MS:=(pickI l s.at_ n,⟨s.at_+1,s.left,s.caps⟩)
theorem kept_mk (n:Nat) (b0 x y:MB) (K L:List MB) (h:MB.under n y=true):keptOk n (b0::x::K) (b0::y::(K++L))=true:=by
 simp only[keptOk,MB.beq_refl,h,Bool.true_or,Bool.or_true,Bool.true_and]
 exact keptOk_self n L K
theorem ret_mk {f:Nat} (hk:pol1.keep f=false) (ho:pol1.own f=false) {l:List Int} {uses:Int} {s s':MS} {b0:MB} {K L:List MB} {r r':AV} (hz:∀ H,fz r H=some (r',H)) (hp:AV.plain r' = true) :
 retPol pol1 f (mH b0 l uses s K) r (mH b0 l uses s' (K++L))=some (r',mH b0 l uses s' K):=by
 have h1:=kept_mk (mH b0 l uses s K).length b0 (.row 5 [mkAV l uses s] 0) (.row 5 [mkAV l uses s'] 0) K L (by simp[MB.under,AV.underL,AV.under,underL_plain,plain_ints])
 unfold retPol
 rw[if_neg (by rw[hk];exact Bool.false_ne_true),if_neg (by rw[ho];exact Bool.false_ne_true)]
 simp only[hz,under_plain _ _ hp,h1,and_self,if_true]
 simp
theorem ret_mk0 {f:Nat} (hk:pol1.keep f=false) (ho:pol1.own f=false) {l:List Int} {uses:Int} {s s':MS} {b0:MB} {K:List MB} {r r':AV} (hz:∀ H,fz r H=some (r',H)) (hp:AV.plain r' = true) :
 retPol pol1 f (mH b0 l uses s K) r (mH b0 l uses s' K)=some (r',mH b0 l uses s' K):=by
 have:=ret_mk (L:=[]) hk ho (s:=s) (s':=s') (K:=K) (l:=l) (uses:=uses) (b0:=b0) hz hp
 rwa [List.append_nil]at this
theorem f97 (l:List Int) (hl:∀ x∈l,In64 x) (uses n:Int) (hn:n≠0) (s:MS) (hs:0≤s.at_∧s.at_≤1000000) (b0:MB) (K:List MB) :
 call Try.prog pol1 97 [.rf 1 1 0 0,I n] (mH b0 l uses s K)=some (I (nx l n s).1,mH b0 l uses (nx l n s).2 K):=by
 obtain⟨at_,left,caps⟩:=s
 simp only at hs
 have h57:=f57 l at_ n hl hn
 have fr:frzArgs pol1 97 0 [.rf 1 1 0 0,I n] (mH b0 l uses ⟨at_,left,caps⟩ K)=some ([.rf 1 1 0 0,I n],mH b0 l uses ⟨at_,left,caps⟩ K):=frzArgs_mix _ _ _ rfl
 refine call_run2 (pol:=pol1) Try.func97 rfl rfl rfl rfl fr ?_
 have hsub:at_+1 - 1=at_:=by omega
 simp +contextual (disch:=omega) only[Try.f97,dd97,go_sem,↓reduceIte,List.reduceReplicate,Nat.reduceAdd,Nat.reduceSub,reduceCtorEq,Nat.reduceLeDiff,Nat.reduceMul,Nat.reduceLT,Nat.reduceEqDiff,Int.reduceBNe,Int.reduceBEq,Int.reduceEq,Int.reduceLT,Int.reduceLE,Int.reduceGT,Int.reduceGE,mu97,Nat.reduceBEq,↓wrap_up,↓wrap_down,↓wrap_pred,↓wrap_sub_nat,Int.reduceToNat,h57,hsub]
 repeat' (first|intro _|apply And.intro|(unfold dOk;kernel_rfl)|exact St.beq_refl _|(show altO _ _ _ _=true;kernel_rfl)|(show (_ || _)=true;kernel_rfl)|(show (_ && _)=true;kernel_rfl))
 exact ret_mk0 (s:=⟨at_,left,caps⟩) (s':=⟨at_+1,left,caps⟩) rfl rfl (fun H=>rfl) rfl
def smallS:List (List (Int×Int)):=[[(97,97)],[(98,98)],[(97,98)],[(99,99)],[(97,99)],[(0,96),(98,255)],[(10,10),(97,97)],[]]
def setM (l:List Int) (s:MS):Re×MS:=(.mk 1 (smallS.getD ((pickI l s.at_ 15).tdiv 2).toNat []) [] 0 0 0 0 false,⟨s.at_+1,s.left,s.caps⟩)
theorem f98 (l:List Int) (hl:∀ x∈l,In64 x) (uses:Int) (s:MS) (hs:0≤s.at_∧s.at_≤1000000) (b0:MB) (K:List MB) :
 call Try.prog pol1 98 [.rf 1 1 0 0] (mH b0 l uses s K)=some (reAV (setM l s).1,mH b0 l uses (setM l s).2 K):=by
 obtain⟨at_,left,caps⟩:=s
 have h97:=fun K=>f97 l hl uses 15 (by omega) ⟨at_,left,caps⟩ hs b0 K
 have fr:frzArgs pol1 98 0 [.rf 1 1 0 0] (mH b0 l uses ⟨at_,left,caps⟩ K)=some ([.rf 1 1 0 0],mH b0 l uses ⟨at_,left,caps⟩ K):=frzArgs_mix _ _ _ rfl
 have hp:=pick_lt (l:=l) (i:=at_) (m:=15) (by omega)
 simp only[nx]at h97
 unfold setM
 simp only
 generalize pickI l at_ 15=k at *
 obtain⟨j,hj,hk⟩:∃ j:Nat,j < 8∧k.tdiv 2=j:=⟨(k.tdiv 2).toNat,by rw[Int.tdiv_eq_ediv_of_nonneg hp.1];omega,by rw[Int.tdiv_eq_ediv_of_nonneg hp.1];omega⟩
 have hw:IntKind.i64.wrap (k.tdiv 2)=(j:Int):=by rw[hk];exact i64_in _ ⟨by omega,by omega⟩
 rw[hk,Int.toNat_natCast]
 obtain⟨set,hset,hsj⟩:∃ set,[AV.sl true [.agg [I 97,I 97]],.sl true [.agg [I 98,I 98]],.sl true [.agg [I 97,I 98]],.sl true [.agg [I 99,I 99]],.sl true [.agg [I 97,I 99]],.sl true [.agg [I 0,I 96],.agg [I 98,I 255]],.sl true [.agg [I 10,I 10],.agg [I 97,I 97]],.sl true []][j]?=some (.sl true (set.map spanAV))∧smallS.getD j []=set:=by
  have:j=0∨j=1∨j=2∨j=3∨j=4∨j=5∨j=6∨j=7:=by omega
  rcases this with rfl|rfl|rfl|rfl|rfl|rfl|rfl|rfl<;>exact⟨_,rfl,rfl⟩
 rw[hsj]
 refine call_run2 (pol:=pol1) Try.func98 rfl rfl rfl rfl fr ?_
 simp +contextual (disch:=omega) only[Try.f98,dd98,go_sem,↓reduceIte,List.reduceReplicate,Nat.reduceAdd,Nat.reduceSub,reduceCtorEq,Nat.reduceLeDiff,Nat.reduceMul,Nat.reduceLT,Nat.reduceEqDiff,Int.reduceBNe,Int.reduceBEq,Int.reduceEq,Int.reduceLT,Int.reduceLE,Int.reduceGT,Int.reduceGE,mu98,Nat.reduceBEq,↓wrap_up,↓wrap_down,↓wrap_pred,↓wrap_sub_nat,Int.reduceToNat,h97,hw,hset,get_last,set_last]
 exact ret_mk (s:=⟨at_,left,caps⟩) (s':=⟨at_+1,left,caps⟩) rfl rfl (fz_node true true 1 set [] 0 0 0 0 false) (plain_re _)
def andI (a b:Int):Int:=IntKind.i64.wrap ((BitVec.ofInt 64 a &&& BitVec.ofInt 64 b).toNat)
theorem evBin_and (a b:Int):evBin .and .i64 a b=some (.int .i64 (andI a b)):=rfl
def stK (l:List Int) (tr:MS→Re×MS) (s:MS):Nat→List Re×MS
 | 0=>([],s)
 | i+1=>((stK l tr s i).1++[(tr (nx l 2 (stK l tr s i).2).2).1],(tr (nx l 2 (stK l tr s i).2).2).2)
def kidsF (l:List Int) (tr:MS→Re×MS) (s:MS):List Re×MS:=
 if(nx l 2 (stK l tr s 2).2).1=1 then((stK l tr s 3).1,(nx l 2 (stK l tr s 3).2).2) else((stK l tr s 2).1,(nx l 2 (stK l tr s 2).2).2)
def repF (l:List Int) (uses:Int) (tr:MS→Re×MS) (s:MS):Re×MS:=
 let k:=nx l 12 s
 let md:=nx l 2 k.2
 let m:Int×MS:=if 0 < andI uses 8 then(if(nx l 4 md.2).1=0 then 2 else md.1,(nx l 4 md.2).2) else md
 let kid:=tr m.2
 let r:=if andI uses 32=0∧nullG kid.1=true then setM l kid.2 else kid
 (.mk 4 [] [r.1] (([0,0,0,0,1,1,1,0,2,0,1,2]:List Int).getD k.1.toNat 0) (([-1,-1,-1,1,-1,-1,2,2,2,3,1,-1]:List Int).getD k.1.toNat 0) m.1 0 false,r.2)
def capF (l:List Int) (tr:MS→Re×MS) (s:MS):Re×MS:=
 let p:Bool×MS:=if 4 < s.caps+1 then(true,s) else if 0 < s.caps then(decide ((nx l 9 s).1=0),(nx l 9 s).2) else(false,s)
 let q:Int×MS:=if p.1=true then(1+(nx l (max 1 p.2.caps) p.2).1,(nx l (max 1 p.2.caps) p.2).2) else(s.caps+1,p.2)
 let kid:=tr ⟨q.2.at_,q.2.left,max q.2.caps q.1⟩
 (.mk 5 [] [kid.1] 0 0 0 q.1 false,kid.2)
def leafF (l:List Int) (k:Int) (s:MS):Re×MS:=if k=0 then(.mk 0 [] [] 0 0 0 0 false,s) else setM l s
def treeStep (l:List Int) (uses:Int) (tr:MS→Re×MS) (k:Int) (s:MS):Re×MS:=
 if s.left < 3∨(l.length:Int) < s.at_ then leafF l k s
 else if k < 5 then(.mk 2 [] (kidsF l tr s).1 0 0 0 0 false,(kidsF l tr s).2)
 else if k < 8 then(.mk 3 [] (kidsF l tr s).1 0 0 0 0 false,(kidsF l tr s).2)
 else if k < 12 then repF l uses tr s
 else if(k=12∨k=13)∧0 < andI uses 64 then capF l tr s
 else if k=14∧0 < andI uses 16 then(.mk 11 [] [] 0 0 0 (nx l 6 s).1 false,(nx l 6 s).2)
 else if k=15∧0 < andI uses 4 then
  (.mk (7+(nx l 2 (nx l 3 s).2).1) [] [(tr (nx l 2 (nx l 3 s).2).2).1] 0 0 0 0 ((nx l 3 s).1 == 0),(tr (nx l 2 (nx l 3 s).2).2).2)
 else if k=16∧0 < andI uses 8 then(.mk 9 [] [(tr s).1] 0 0 0 0 false,(tr s).2)
 else if k=17∧0 < andI uses 1∧0 < s.caps then(.mk 6 [] [] 0 0 0 (1+(nx l s.caps s).1) false,(nx l s.caps s).2)
 else if k=18∧0 < andI uses 2∧0 < s.caps then
  (.mk 10 [] [(tr (nx l s.caps s).2).1,(tr (tr (nx l s.caps s).2).2).1] 0 0 0 (1+(nx l s.caps s).1) false,(tr (tr (nx l s.caps s).2).2).2)
 else setM l s
def treeF (l:List Int) (uses:Int):Nat→MS→Re×MS
 | 0,s=>leafF l (nx l 20 ⟨s.at_,s.left - 1,s.caps⟩).1 (nx l 20 ⟨s.at_,s.left - 1,s.caps⟩).2
 | d+1,s=>treeStep l uses (treeF l uses d) (nx l 20 ⟨s.at_,s.left - 1,s.caps⟩).1 (nx l 20 ⟨s.at_,s.left - 1,s.caps⟩).2
def mA1:Nat→Int
 | 0=>3
 | d+1=>9+3 * mA1 d
def mS1:Nat→Int
 | 0=>1
 | d+1=>1+3 * mS1 d
structure Pre (A S:Int) (s:MS):Prop where
 a:0≤s.at_∧s.at_+A≤1000000
 l:-1000000≤s.left - S∧s.left≤1000000
 c:0≤s.caps∧s.caps≤4
structure Post (A S:Int) (s s':MS):Prop where
 a:s.at_≤s'.at_∧s'.at_≤s.at_+A
 l:s.left - S≤s'.left∧s'.left≤s.left
 c:0≤s'.caps∧s'.caps≤4
theorem nx_val (l:List Int) {n:Int} (hn:0 < n) (s:MS):0≤(nx l n s).1∧(nx l n s).1 < n:=pick_lt hn
theorem app_re {H:List MB} {i n z:Nat} {els:List AV} {y:AV} {t:Bool} (hi:getRow H i=some (8,els,z)) (hn:els.length=n) (hy:(decide (y.cells.length=8) && y.cells.all AV.ok)=true) (hz:z≤n) (hr:n+1≤4000000000) :
 evAppend Try.prog H 24 24 (.ms i 8 n 0 n) (.sl t [y])=some (.ms i 8 (n+1) 0 (n+1),H.set i (.row 8 (els++[y]) z)):=by
 have hs:srcElems Try.prog H 26 (.sl t [y])=some [y]:=rfl
 rw[evAppend_end (e:=26) (by kernel_rfl) (by kernel_rfl) (k:=8) (by kernel_rfl) (by_:=96) (by kernel_rfl) (ze:=.agg [I 0,.sl true [],.sl true [],I 0,I 0,I 0,I 0,.bool false]) (by kernel_rfl) rfl (by omega) hs (by simp only[List.all_cons,List.all_nil,hy,Bool.and_true]) hi hn hz (room_ok hr (by omega))]
 rfl
theorem ret_kids {f:Nat} (hk:pol1.keep f=false) (ho:pol1.own f=false) {l:List Int} {uses:Int} {s s':MS} {b0:MB} {K:List MB} {ks:List Re} {n:Nat} (hn:ks.length=n) :
 retPol pol1 f (mH b0 l uses s K) (.ms (K.length+1+1) 8 n 0 n) (mH b0 l uses s' (K++[.row 8 (ks.map reAV) 0]))=some (.sl false (ks.map reAV),mH b0 l uses s' K):=by
 have hr:getRow (mH b0 l uses s' (K++[.row 8 (ks.map reAV) 0])) (K.length+1+1)=some (8,ks.map reAV,0):=by
  simp[getRow]
 have hz:fz (.ms (K.length+1+1) 8 n 0 n) (mH b0 l uses s' (K++[.row 8 (ks.map reAV) 0]))=some (.sl false (ks.map reAV),mH b0 l uses s' (K++[.row 8 (ks.map reAV) n])):=by
  rw[fz_row hr (by rw[List.length_map];exact hn) (plain_kids ks)]
  unfold mark
  rw[hr]
  simp[set_last]
 have h1:=kept_mk (mH b0 l uses s K).length b0 (.row 5 [mkAV l uses s] 0) (.row 5 [mkAV l uses s'] 0) K [.row 8 (ks.map reAV) n] (by simp[MB.under,AV.underL,AV.under,underL_plain,plain_ints])
 unfold retPol
 rw[if_neg (by rw[hk];exact Bool.false_ne_true),if_neg (by rw[ho];exact Bool.false_ne_true)]
 simp only[hz,AV.under,underL_plain _ _ (plain_kids ks),h1,and_self,if_true]
 simp
abbrev TreeLaw (l:List Int) (uses:Int) (d:Nat):Prop:=∀(s:MS) (b0:MB) (K:List MB),Pre (mA1 d) (mS1 d) s→call Try.prog pol1 44 [.rf 1 1 0 0,I d] (mH b0 l uses s K)=some (reAV (treeF l uses d s).1,mH b0 l uses (treeF l uses d s).2 K)
abbrev TreeB (l:List Int) (uses:Int) (d:Nat):Prop:=∀ s:MS,Pre (mA1 d) (mS1 d) s→Post (mA1 d) (mS1 d) s (treeF l uses d s).2
theorem mA1_pos:∀ d,3≤mA1 d
 | 0=>by simp[mA1]
 | d+1=>by have:=mA1_pos d;simp only[mA1];omega
theorem mS1_pos:∀ d,1≤mS1 d
 | 0=>by simp[mS1]
 | d+1=>by have:=mS1_pos d;simp only[mS1];omega
theorem Pre.step {A S:Int} {s s':MS} {A' S' x y:Int} (h:Pre A S s) (p:Post x y s s') (ha:A' + x≤A) (hs:S' + y≤S):Pre A' S' s':=by
 obtain⟨h1,h2,h3⟩:=h
 obtain⟨p1,p2,p3⟩:=p
 exact⟨by omega,by omega,p3⟩
theorem Post.trans {s s' s'':MS} {x y x' y':Int} (p:Post x y s s') (q:Post x' y' s' s''):Post (x+x') (y+y') s s'':=by
 obtain⟨p1,p2,p3⟩:=p
 obtain⟨q1,q2,q3⟩:=q
 exact⟨by omega,by omega,q3⟩
theorem Post.up {s s':MS} {x y x' y':Int} (p:Post x y s s') (hx:x≤x') (hy:y≤y'):Post x' y' s s':=by
 obtain⟨p1,p2,p3⟩:=p
 exact⟨by omega,by omega,p3⟩
theorem nx_post (l:List Int) (n:Int) (s:MS) (hc:0≤s.caps∧s.caps≤4):Post 1 0 s (nx l n s).2:=⟨by simp only[nx];omega,by simp only[nx];omega,hc⟩
theorem setM_post (l:List Int) (s:MS) (hc:0≤s.caps∧s.caps≤4):Post 1 0 s (setM l s).2:=⟨by simp only[setM];omega,by simp only[setM];omega,hc⟩
theorem stK_post {l:List Int} {uses:Int} {d:Nat} (hb:TreeB l uses d) {s:MS} (hp:Pre (5+3 * mA1 d) (3 * mS1 d) s):∀ i:Nat,i≤3→Post (i+i * mA1 d) (i * mS1 d) s (stK l (treeF l uses d) s i).2
 | 0,_=>⟨by simp[stK],by simp[stK],by simpa [stK] using hp.c⟩
 | i+1,hi=>by
   have p:=stK_post hb hp i (by omega)
   have:=mA1_pos d
   have:=mS1_pos d
   have e1:((i+1:Nat):Int) * mA1 d=i * mA1 d+mA1 d:=by rw[Int.natCast_add,Int.add_mul];simp
   have e2:((i+1:Nat):Int) * mS1 d=i * mS1 d+mS1 d:=by rw[Int.natCast_add,Int.add_mul];simp
   have e3:(i:Int) * mA1 d≤2 * mA1 d:=Int.mul_le_mul_of_nonneg_right (by omega) (by omega)
   have e4:(i:Int) * mS1 d≤2 * mS1 d:=Int.mul_le_mul_of_nonneg_right (by omega) (by omega)
   have q:=p.trans (nx_post l 2 _ p.c)
   have r:=hb _ (hp.step q (by omega) (by omega))
   refine(q.trans r).up (by omega) (by omega)
theorem kidsF_post {l:List Int} {uses:Int} {d:Nat} (hb:TreeB l uses d) {s:MS} (hp:Pre (5+3 * mA1 d) (3 * mS1 d) s):Post (5+3 * mA1 d) (3 * mS1 d) s (kidsF l (treeF l uses d) s).2:=by
 have p2:=stK_post hb hp 2 (by omega)
 have p3:=stK_post hb hp 3 (by omega)
 have:=mA1_pos d
 have:=mS1_pos d
 unfold kidsF
 split
 ·exact(p3.trans (nx_post l 2 _ p3.c)).up (by omega) (by omega)
 ·exact(p2.trans (nx_post l 2 _ p2.c)).up (by omega) (by omega)
theorem stK_len (l:List Int) (tr:MS→Re×MS) (s:MS):∀ i,(stK l tr s i).1.length=i
 | 0=>rfl
 | i+1=>by simp[stK,stK_len l tr s i]
def mW1:Nat→Nat
 | 0=>3
 | d+1=>1+3 * mW1 d
theorem mW1_pos:∀ d,3≤mW1 d
 | 0=>by simp[mW1]
 | d+1=>by have:=mW1_pos d;simp only[mW1];omega
theorem smallS_len (j:Nat):(smallS.getD j []).length≤2:=by
 rw[List.getD_eq_getElem?_getD]
 cases h:smallS[j]? with
 | none=>simp
 | some x=>
   have hm:=List.mem_of_getElem? h
   have:∀ x∈smallS,x.length≤2:=by decide
   exact this x hm
theorem setM_wt (l:List Int) (s:MS):(setM l s).1.wt≤3:=by
 have:=smallS_len ((pickI l s.at_ 15).tdiv 2).toNat
 simp only[setM,Re.wt,Re.wtL]
 omega
theorem leafF_wt (l:List Int) (k:Int) (s:MS):(leafF l k s).1.wt≤3:=by
 unfold leafF
 split
 ·simp[Re.wt,Re.wtL]
 ·exact setM_wt l s
theorem Re.wtL_append:∀(a b:List Re),Re.wtL (a++b)=Re.wtL a+Re.wtL b
 | [],b=>by simp[Re.wtL]
 | k::ks,b=>by simp[Re.wtL,Re.wtL_append ks b];omega
theorem stK_wt {l:List Int} {tr:MS→Re×MS} {W:Nat} (h:∀ s,(tr s).1.wt≤W) (s:MS):∀ i,Re.wtL (stK l tr s i).1≤i * W
 | 0=>by simp[stK,Re.wtL]
 | i+1=>by
   have h1:=stK_wt (l:=l) h s i
   have h2:=h (nx l 2 (stK l tr s i).2).2
   simp only[stK,Re.wtL_append,Re.wtL,Nat.add_mul]
   omega
theorem kidsF_wt {l:List Int} {tr:MS→Re×MS} {W:Nat} (h:∀ s,(tr s).1.wt≤W) (s:MS):Re.wtL (kidsF l tr s).1≤3 * W:=by
 have h2:=stK_wt (l:=l) h s 2
 have h3:=stK_wt (l:=l) h s 3
 unfold kidsF
 split
 ·exact h3
 ·simp only;omega
theorem treeF_wt (l:List Int) (uses:Int):∀(d:Nat) (s:MS),(treeF l uses d s).1.wt≤mW1 d
 | 0,s=>leafF_wt l _ _
 | d+1,s=>by
   have h:=treeF_wt l uses d
   have hp:=mW1_pos d
   simp only[treeF,mW1]
   generalize (nx l 20 ⟨s.at_,s.left - 1,s.caps⟩).1=k
   generalize (nx l 20 ⟨s.at_,s.left - 1,s.caps⟩).2=s1
   have hk:=kidsF_wt (l:=l) h s1
   have hl:=leafF_wt l k s1
   have hs:=setM_wt l s1
   generalize treeF l uses d=tr at *
   have key:∀(c:Prop) [Decidable c] (x:Re×MS),x.1.wt≤mW1 d→(if c then setM l x.2 else x).1.wt≤mW1 d:=by
    intro c _ x hx
    have:=setM_wt l x.2
    split
    ·omega
    ·exact hx
   have hr:(repF l uses tr s1).1.wt≤1+3 * mW1 d:=by
    unfold repF
    simp only[Re.wt,Re.wtL,List.length_nil]
    exact Nat.le_trans (Nat.add_le_add_left (Nat.add_le_add_right (key _ _ (h _)) 0) _) (by omega)
   have hc:(capF l tr s1).1.wt≤1+3 * mW1 d:=by
    unfold capF
    simp only[Re.wt,Re.wtL,List.length_nil]
    have:∀ s,(tr s).1.wt≤mW1 d:=h
    refine Nat.le_trans (Nat.add_le_add_left (Nat.add_le_add_right (this _) 0) _) (by omega)
   unfold treeStep
   repeat' split
   all_goals first|omega|(simp only[Re.wt,Re.wtL,List.length_nil];first|omega|(have:=h s1;omega)|(have:=h (nx l 2 (nx l 3 s1).2).2;omega)|(have:=h (nx l s1.caps s1).2;have:=h (tr (nx l s1.caps s1).2).2;omega))
end
section
attribute [local go_sem] evBin ty4 ty22 ty24 ty26 ty91 ty93
open Go.Proofs Go.RowKit Go.IntWalk
set_option maxRecDepth 100000
set_option linter.unusedSimpArgs false
set_option linter.unusedVariables false
set_option maxHeartbeats 8000000
section
variable (k:IntKind) (a b:Int)
theorem evBin_add':evBin .add k a b=some (.int k (k.wrap (a+b))):=rfl
theorem evBin_sub':evBin .sub k a b=some (.int k (k.wrap (a - b))):=rfl
theorem evBin_eql':evBin .eql k a b=some (.bool (a == b)):=rfl
theorem evBin_neq':evBin .neq k a b=some (.bool (a != b)):=rfl
theorem evBin_lss':evBin .lss k a b=some (.bool (decide (a < b))):=rfl
theorem evBin_gtr':evBin .gtr k a b=some (.bool (decide (a > b))):=rfl
end
section
variable {α:Type} (K:List α) (a b c x:α)
theorem ex1:∃ L,K++[a]=K++L:=⟨_,rfl⟩
theorem ex2:∃ L,K++[a]++[b]=K++L:=⟨[a,b],by simp⟩
theorem ex3:∃ L,K++[a]++[b]++[c]=K++L:=⟨[a,b,c],by simp⟩
theorem get_l2a:(K++[a]++[b])[K.length]?=some a:=by simp
theorem get_l2b:(K++[a]++[b])[K.length+1]?=some b:=by simp
theorem set_l2a:(K++[a]++[b]).set K.length x=K++[x]++[b]:=by simp
theorem set_l2b:(K++[a]++[b]).set (K.length+1) x=K++[a]++[x]:=by simp[List.set_append]
theorem get_l3a:(K++[a]++[b]++[c])[K.length]?=some a:=by simp
theorem get_l3b:(K++[a]++[b]++[c])[K.length+1]?=some b:=by simp[List.getElem?_append]
theorem get_l3c:(K++[a]++[b]++[c])[K.length+1+1]?=some c:=by
 rw[List.getElem?_append_right (by simp)]
 simp
theorem set_l3a:(K++[a]++[b]++[c]).set K.length x=K++[x]++[b]++[c]:=by simp
theorem set_l3b:(K++[a]++[b]++[c]).set (K.length+1) x=K++[a]++[x]++[c]:=by simp[List.set_append]
theorem set_l3c:(K++[a]++[b]++[c]).set (K.length+1+1) x=K++[a]++[b]++[x]:=by
 rw[List.set_append_right _ _ (by simp)]
 simp
end
theorem ret_mkx {f:Nat} (hk:pol1.keep f=false) (ho:pol1.own f=false) {l:List Int} {uses:Int} (s s':MS) {b0:MB} {K M:List MB} (hM:∃ L,M=K++L) {r r':AV} (hz:∀ H,fz r H=some (r',H)) (hp:AV.plain r' = true) :
 retPol pol1 f (mH b0 l uses s K) r (mH b0 l uses s' M)=some (r',mH b0 l uses s' K):=by
 obtain⟨L,rfl⟩:=hM
 exact ret_mk hk ho hz hp
theorem ret_node {f:Nat} (hk:pol1.keep f=false) (ho:pol1.own f=false) {l:List Int} {uses:Int} (s s':MS) {b0:MB} {K M:List MB} (hM:∃ L,M=K++L) (a b:Bool) (op:Int) (set:List (Int×Int)) (kids:List Re) (mn mx md n:Int) (neg:Bool) :
 retPol pol1 f (mH b0 l uses s K) (.agg [I op,.sl a (set.map spanAV),.sl b (kids.map reAV),I mn,I mx,I md,I n,.bool neg]) (mH b0 l uses s' M)=some (reAV (.mk op set kids mn mx md n neg),mH b0 l uses s' K):=by
 rw[ret_mkx hk ho s s' hM (fz_node a b op set kids mn mx md n neg) (by simp[AV.plain,AV.plainL,plain_span,plain_kids])]
 rw[show reAV (.mk op set kids mn mx md n neg)=.agg (nodeL op set kids mn mx md n neg) from congrArg AV.agg reC_mk]
section
variable {l:List Int} (hl:∀ x∈l,In64 x) {uses:Int} {d:Nat} (hd:d≤5) (ht:TreeLaw l uses d) (hb:TreeB l uses d)
include hl hd ht hb
theorem f99 (s:MS) (hp:Pre (5+3 * mA1 d) (3 * mS1 d) s) (b0:MB) (K:List MB) :
 call Try.prog pol1 99 [.rf 1 1 0 0,I ((d+1:Nat):Int)] (mH b0 l uses s K)=some (.sl false ((kidsF l (treeF l uses d) s).1.map reAV),mH b0 l uses (kidsF l (treeF l uses d) s).2 K):=by
 have fr:frzArgs pol1 99 0 [.rf 1 1 0 0,I ((d+1:Nat):Int)] (mH b0 l uses s K)=some ([.rf 1 1 0 0,I ((d+1:Nat):Int)],mH b0 l uses s K):=frzArgs_mix _ _ _ rfl
 have hA:=mA1_pos d
 have hS:=mS1_pos d
 have hpost:=fun i hi=>stK_post hb hp i hi
 have hmul:∀ i n:Nat,i≤n→(i:Int) * mA1 d≤n * mA1 d∧(i:Int) * mS1 d≤n * mS1 d:=fun i n hi=>⟨Int.mul_le_mul_of_nonneg_right (by omega) (by omega),Int.mul_le_mul_of_nonneg_right (by omega) (by omega)⟩
 have hlen:=fun i=>stK_len l (treeF l uses d) s i
 refine call_run2 (pol:=pol1) Try.func99 rfl rfl rfl rfl fr ?_
 obtain⟨N,hN,hN2,hval⟩:∃ N:Nat,2≤N∧N≤3∧kidsF l (treeF l uses d) s=((stK l (treeF l uses d) s N).1,(nx l 2 (stK l (treeF l uses d) s N).2).2)∧(N=3→(nx l 2 (stK l (treeF l uses d) s 2).2).1=1)∧(N=2→(nx l 2 (stK l (treeF l uses d) s 2).2).1≠1):=by
  unfold kidsF
  by_cases h:(nx l 2 (stK l (treeF l uses d) s 2).2).1=1
  ·exact⟨3,by omega,by omega,if_pos h,fun _=>h,fun h=>by omega⟩
  ·exact⟨2,by omega,by omega,if_neg h,fun h=>by omega,fun _=>h⟩
 obtain⟨hval,h3,h2⟩:=hval
 rw[hval]
 simp +contextual (disch:=omega) only[Try.f99,dd99,go_sem,↓reduceIte,evAppend,List.reduceReplicate,Nat.reduceAdd,Nat.reduceSub,reduceCtorEq,Nat.reduceLeDiff,Nat.reduceMul,Nat.reduceLT,Nat.reduceEqDiff,Int.reduceBNe,Int.reduceBEq,Int.reduceEq,Int.reduceLT,Int.reduceLE,Int.reduceGT,Int.reduceGE,List.map_append,mu99,Nat.reduceBEq,↓wrap_up,↓wrap_down,↓wrap_pred,↓wrap_sub_nat,Int.reduceToNat]
 refine W_count (M:=(mskOf (pol1.mask 99) (pol1.gc 99) (pol1.acts 99) 0 3)) rfl N (fun i=>(⟨22,[(6,I i),(5,.ms (K.length+1+1) 8 i 0 i),(1,I ((d+1:Nat):Int)),(0,.rf 1 1 0 0)],mH b0 l uses (stK l (treeF l uses d) s i).2 (K++[.row 8 ((stK l (treeF l uses d) s i).1.map reAV) 0])⟩:St)) (fun _=>True) ?_ ?_ trivial _ (by rfl)
 ·intro i hi _
  have pi:=hpost i (by omega)
  have hmi:=hmul i 2 (by omega)
  have hli:=hlen i
  have e:stK l (treeF l uses d) s (i+1)=((stK l (treeF l uses d) s i).1++[(treeF l uses d (nx l 2 (stK l (treeF l uses d) s i).2).2).1],(treeF l uses d (nx l 2 (stK l (treeF l uses d) s i).2).2).2):=rfl
  rw[e]
  have hv2:i=2→(nx l 2 (stK l (treeF l uses d) s i).2).1=1:=fun h=>by subst h;exact h3 (by omega)
  generalize stK l (treeF l uses d) s i=X at *
  obtain⟨ks,si⟩:=X
  simp only at pi hli hv2 ⊢
  obtain⟨pa,pl,pc⟩:=pi
  obtain⟨qa,ql,qc⟩:=hp
  have h97:=fun K=>f97 l hl uses 2 (by omega) si ⟨by omega,by omega⟩ b0 K
  have hv:=nx_val l (n:=2) (by omega) si
  have hq:=nx_post l 2 si pc
  generalize nx l 2 si=Y at *
  obtain⟨v,sj⟩:=Y
  simp only at h97 hv hq hv2 ⊢
  obtain⟨ra,rl,rc⟩:=hq
  have h44:=fun K=>ht sj b0 K ⟨by omega,by omega,rc⟩
  generalize treeF l uses d sj=Z at *
  obtain⟨r,sk⟩:=Z
  simp only at h44 ⊢
  have hap:=fun s=>app_re (H:=mH b0 l uses s (K++[.row 8 (ks.map reAV) 0])) (i:=K.length+1+1) (n:=i) (t:=true) (y:=reAV r) (z:=0) (els:=ks.map reAV) (by simp[getRow]) (by rw[List.length_map];exact hli) (by simp[AV.cells,reC_len,reC_ok]) (Nat.zero_le _) (by omega)
  simp +contextual (disch:=omega) only[Try.f99,dd99,go_sem,↓reduceIte,List.reduceReplicate,Nat.reduceAdd,Nat.reduceSub,reduceCtorEq,Nat.reduceLeDiff,Nat.reduceMul,Nat.reduceLT,Nat.reduceEqDiff,Int.reduceBNe,Int.reduceBEq,Int.reduceEq,Int.reduceLT,Int.reduceLE,Int.reduceGT,Int.reduceGE,mu99,Nat.reduceBEq,↓wrap_up,↓wrap_down,↓wrap_pred,↓wrap_sub_nat,Int.reduceToNat,h97,h44,hap,get_last,set_last,reC_len,reC_ok,reC_take,reC_drop,List.append_nil]
  rw[List.map_append]
  rfl
 ·intro _
  have pi:=hpost N (by omega)
  have hmi:=hmul N 3 (by omega)
  have hli:=hlen N
  have hv2:N=2→(nx l 2 (stK l (treeF l uses d) s N).2).1≠1:=fun h=>by rw[h];exact h2 h
  generalize stK l (treeF l uses d) s N=X at *
  obtain⟨ks,si⟩:=X
  simp only at pi hli hv2 ⊢
  obtain⟨pa,pl,pc⟩:=pi
  obtain⟨qa,ql,qc⟩:=hp
  have h97:=fun K=>f97 l hl uses 2 (by omega) si ⟨by omega,by omega⟩ b0 K
  have hv:=nx_val l (n:=2) (by omega) si
  generalize nx l 2 si=Y at *
  obtain⟨v,sj⟩:=Y
  simp only at h97 hv hv2 ⊢
  have hvn:¬ (N:Int) < 2+v:=by omega
  simp +contextual (disch:=omega) only[Try.f99,dd99,go_sem,↓reduceIte,List.reduceReplicate,Nat.reduceAdd,Nat.reduceSub,reduceCtorEq,Nat.reduceLeDiff,Nat.reduceMul,Nat.reduceLT,Nat.reduceEqDiff,Int.reduceBNe,Int.reduceBEq,Int.reduceEq,Int.reduceLT,Int.reduceLE,Int.reduceGT,Int.reduceGE,mu99,Nat.reduceBEq,↓wrap_up,↓wrap_down,↓wrap_pred,↓wrap_sub_nat,Int.reduceToNat,h97,get_last,set_last,reC_len,reC_ok,reC_take,reC_drop,List.append_nil]
  exact ret_kids rfl rfl hli
theorem f100 (s:MS) (hp:Pre (5+3 * mA1 d) (3 * mS1 d) s) (b0:MB) (K:List MB) :
 call Try.prog pol1 100 [.rf 1 1 0 0,I ((d+1:Nat):Int)] (mH b0 l uses s K)=some (reAV (repF l uses (treeF l uses d) s).1,mH b0 l uses (repF l uses (treeF l uses d) s).2 K):=by
 have fr:frzArgs pol1 100 0 [.rf 1 1 0 0,I ((d+1:Nat):Int)] (mH b0 l uses s K)=some ([.rf 1 1 0 0,I ((d+1:Nat):Int)],mH b0 l uses s K):=frzArgs_mix _ _ _ rfl
 have hA:=mA1_pos d
 have hS:=mS1_pos d
 unfold repF
 obtain⟨qa,ql,qc⟩:=hp
 have h97a:=fun K=>f97 l hl uses 12 (by omega) s ⟨by omega,by omega⟩ b0 K
 have hk:=nx_val l (n:=12) (by omega) s
 have p1:=nx_post l 12 s qc
 generalize nx l 12 s=Y at *
 obtain⟨k,s1⟩:=Y
 simp only at h97a hk p1 ⊢
 obtain⟨kn,rfl⟩:∃ kn:Nat,k=kn:=⟨k.toNat,by omega⟩
 obtain⟨hm1,hm2⟩:[I 0,I 0,I 0,I 0,I 1,I 1,I 1,I 0,I 2,I 0,I 1,I 2][kn]?=some (I (([0,0,0,0,1,1,1,0,2,0,1,2]:List Int).getD kn 0))∧[I (-1),I (-1),I (-1),I 1,I (-1),I (-1),I 2,I 2,I 2,I 3,I 1,I (-1)][kn]?=some (I (([-1,-1,-1,1,-1,-1,2,2,2,3,1,-1]:List Int).getD kn 0)):=by
  have:kn=0∨kn=1∨kn=2∨kn=3∨kn=4∨kn=5∨kn=6∨kn=7∨kn=8∨kn=9∨kn=10∨kn=11:=by omega
  rcases this with rfl|rfl|rfl|rfl|rfl|rfl|rfl|rfl|rfl|rfl|rfl|rfl<;>exact⟨rfl,rfl⟩
 simp only[Int.toNat_natCast]
 generalize ([0,0,0,0,1,1,1,0,2,0,1,2]:List Int).getD kn 0=mn at *
 generalize ([-1,-1,-1,1,-1,-1,2,2,2,3,1,-1]:List Int).getD kn 0=mx at *
 have h97b:=fun K=>f97 l hl uses 2 (by omega) s1 ⟨by have:=p1.a;omega,by have:=p1.a;omega⟩ b0 K
 have p2:=p1.trans (nx_post l 2 s1 p1.c)
 generalize nx l 2 s1=Y at *
 obtain⟨md,s2⟩:=Y
 simp only at h97b p2 ⊢
 have h97c:=fun K=>f97 l hl uses 4 (by omega) s2 ⟨by have:=p2.a;omega,by have:=p2.a;omega⟩ b0 K
 have p3':=p2.trans (nx_post l 4 s2 p2.c)
 obtain⟨m,s3,hm,p3,hms⟩:∃ m s3,(if 0 < andI uses 8 then(if(nx l 4 s2).1=0 then(2:Int) else md,(nx l 4 s2).2) else(md,s2))=(m,s3)∧Post (1+1+1) (0+0+0) s s3 ∧
  ((¬ 0 < andI uses 8∧m=md∧s3=s2)∨(0 < andI uses 8∧(nx l 4 s2).1=0∧m=2∧s3=(nx l 4 s2).2)∨(0 < andI uses 8∧(nx l 4 s2).1≠0∧m=md∧s3=(nx l 4 s2).2)):=by
  by_cases u:0 < andI uses 8
  ·rw[if_pos u]
   by_cases x0:(nx l 4 s2).1=0
   ·rw[if_pos x0];exact⟨_,_,rfl,p3',.inr (.inl ⟨u,x0,rfl,rfl⟩)⟩
   ·rw[if_neg x0];exact⟨_,_,rfl,p3',.inr (.inr ⟨u,x0,rfl,rfl⟩)⟩
  ·rw[if_neg u];exact⟨_,_,rfl,p2.up (by omega) (by omega),.inl ⟨u,rfl,rfl⟩⟩
 rw[hm]
 clear hm p3'
 simp only
 generalize nx l 4 s2=Y at *
 obtain⟨x,s2'⟩:=Y
 simp only at h97c hms ⊢
 have hpre:Pre (mA1 d) (mS1 d) s3:=⟨⟨by have:=p3.a;omega,by have:=p3.a;omega⟩,⟨by have:=p3.l;omega,by have:=p3.l;omega⟩,p3.c⟩
 have hw6:mW1 d≤1000000:=by
  have:d=0∨d=1∨d=2∨d=3∨d=4∨d=5:=by omega
  rcases this with rfl|rfl|rfl|rfl|rfl|rfl<;>decide
 have h44:=fun K=>ht s3 b0 K hpre
 have p4:=hb s3 hpre
 have h20:=f20 (treeF l uses d s3).1.wt (treeF l uses d s3).1 (Nat.le_refl _) (Nat.le_trans (treeF_wt l uses d s3) hw6)
 generalize treeF l uses d s3=Y at *
 obtain⟨r,s4⟩:=Y
 simp only at h44 p4 h20 ⊢
 have h98:=fun K=>f98 l hl uses s4 ⟨by have:=p3.a;have:=p4.a;omega,by have:=p3.a;have:=p4.a;omega⟩ b0 K
 obtain⟨X,hX,hXc⟩:∃ X,(if andI uses 32=0∧nullG r=true then setM l s4 else(r,s4))=X∧((andI uses 32≠0∧X=(r,s4))∨(andI uses 32=0∧nullG r=true∧X=setM l s4)∨(andI uses 32=0∧nullG r=false∧X=(r,s4))):=by
  by_cases u:andI uses 32=0
  ·cases hn:nullG r with
   | true=>exact⟨_,if_pos ⟨u,rfl⟩,.inr (.inl ⟨u,rfl,rfl⟩)⟩
   | false=>exact⟨_,if_neg (by simp),.inr (.inr ⟨u,rfl,rfl⟩)⟩
  ·exact⟨_,if_neg (fun h=>u h.1),.inl ⟨u,rfl⟩⟩
 rw[hX]
 clear hX
 generalize setM l s4=Y at *
 obtain⟨r5,s5⟩:=Y
 simp only at h98
 refine call_run2 (pol:=pol1) Try.func100 rfl rfl rfl rfl fr ?_
 rcases hms with ⟨u8,rfl,rfl⟩|⟨u8,rfl,rfl,rfl⟩|⟨u8,x0,rfl,rfl⟩<;>rcases hXc with ⟨u32,rfl⟩|⟨u32,hn,rfl⟩|⟨u32,hn,rfl⟩
 all_goals try rw[hn]at h20
 all_goals simp +contextual (disch:=omega) only[Try.f100,dd100,go_sem,↓reduceIte,evAppend,List.reduceReplicate,Nat.reduceAdd,Nat.reduceSub,reduceCtorEq,Nat.reduceLeDiff,Nat.reduceMul,Nat.reduceLT,Nat.reduceEqDiff,Int.reduceBNe,Int.reduceBEq,Int.reduceEq,Int.reduceLT,Int.reduceLE,Int.reduceGT,Int.reduceGE,List.map_append,mu100,Nat.reduceBEq,↓wrap_up,↓wrap_down,↓wrap_pred,↓wrap_sub_nat,Int.reduceToNat,h97a,h97b,h97c,h44,h20,h98,hm1,hm2,↓evBin_and,get_last,set_last,get_l2a,get_l2b,set_l2a,set_l2b,get_l3a,get_l3b,get_l3c,set_l3a,set_l3b,set_l3c,reC_len,reC_ok,reC_take,reC_drop,List.append_nil]
 all_goals repeat' (first|intro _|apply And.intro|(unfold dOk;kernel_rfl)|exact St.beq_refl _|(show altO _ _ _ _=true;kernel_rfl)|(show (_ || _)=true;kernel_rfl)|(show (_ && _)=true;kernel_rfl))
 all_goals exact ret_node (by rfl) (by rfl) s _ (ex3 ..) true true 4 [] [_] _ _ _ 0 false
theorem f101 (s:MS) (hp:Pre (5+3 * mA1 d) (3 * mS1 d) s) (b0:MB) (K:List MB) :
 call Try.prog pol1 101 [.rf 1 1 0 0,I ((d+1:Nat):Int)] (mH b0 l uses s K)=some (reAV (capF l (treeF l uses d) s).1,mH b0 l uses (capF l (treeF l uses d) s).2 K):=by
 have _:=hb
 have fr:frzArgs pol1 101 0 [.rf 1 1 0 0,I ((d+1:Nat):Int)] (mH b0 l uses s K)=some ([.rf 1 1 0 0,I ((d+1:Nat):Int)],mH b0 l uses s K):=frzArgs_mix _ _ _ rfl
 have hA:=mA1_pos d
 have hS:=mS1_pos d
 unfold capF
 obtain⟨qa,ql,qc⟩:=hp
 have h97a:=fun K=>f97 l hl uses 9 (by omega) s ⟨by omega,by omega⟩ b0 K
 have p1:=nx_post l 9 s qc
 have hmx1:(if s.caps > 1 then s.caps else 1)=max 1 s.caps:=by split<;>omega
 have c1:(nx l 9 s).2.caps=s.caps:=rfl
 generalize nx l 9 s=Y at *
 obtain⟨x,s1⟩:=Y
 simp only at h97a p1 c1 ⊢
 obtain⟨b,s2,hps,p2,c2,hc⟩:∃(b:Bool) (s2:MS),(if 4 < s.caps+1 then(true,s) else if 0 < s.caps then(decide (x=0),s1) else(false,s))=(b,s2)∧Post 1 0 s s2∧s2.caps=s.caps ∧
  ((4 < s.caps+1∧b=true∧s2=s)∨(¬ 4 < s.caps+1∧0 < s.caps∧x=0∧b=true∧s2=s1)∨(¬ 4 < s.caps+1∧0 < s.caps∧x≠0∧b=false∧s2=s1)∨(¬ 4 < s.caps+1∧¬ 0 < s.caps∧b=false∧s2=s)):=by
  have p0:Post 1 0 s s:=⟨by omega,by omega,qc⟩
  by_cases h1:4 < s.caps+1
  ·rw[if_pos h1];exact⟨_,_,rfl,p0,rfl,.inl ⟨h1,rfl,rfl⟩⟩
  ·rw[if_neg h1]
   by_cases h2:0 < s.caps
   ·rw[if_pos h2]
    by_cases h3:x=0
    ·exact⟨true,s1,by rw[decide_eq_true h3],p1,c1,.inr (.inl ⟨h1,h2,h3,rfl,rfl⟩)⟩
    ·exact⟨false,s1,by rw[decide_eq_false h3],p1,c1,.inr (.inr (.inl ⟨h1,h2,h3,rfl,rfl⟩))⟩
   ·rw[if_neg h2];exact⟨_,_,rfl,p0,rfl,.inr (.inr (.inr ⟨h1,h2,rfl,rfl⟩))⟩
 rw[hps]
 clear hps
 simp only
 have hm1:0 < max 1 s2.caps:=by omega
 have h97b:=fun K=>f97 l hl uses (max 1 s2.caps) (by omega) s2 ⟨by have:=p2.a;omega,by have:=p2.a;omega⟩ b0 K
 have p3:=p2.trans (nx_post l (max 1 s2.caps) s2 p2.c)
 have hv:=nx_val l hm1 s2
 have c3:(nx l (max 1 s2.caps) s2).2.caps=s2.caps:=rfl
 generalize hY:nx l (max 1 s2.caps) s2=Y at *
 obtain⟨y,s3⟩:=Y
 clear hY
 simp only at h97b p3 hv c3 ⊢
 rw[c2]at h97b hv c3
 obtain⟨m,s4,hms,p4,c4,hmb,hc2⟩:∃(m:Int) (s4:MS),(if b=true then(1+y,s3) else(s.caps+1,s2))=(m,s4)∧Post 2 0 s s4∧s4.caps=s.caps∧(0≤m∧m≤4)∧((b=true∧m=1+y∧s4=s3)∨(b=false∧m=s.caps+1∧s4=s2)):=by
  cases b with
  | true=>exact⟨_,_,if_pos rfl,p3,c3,by omega,.inl ⟨rfl,rfl,rfl⟩⟩
  | false=>
    refine⟨_,_,if_neg Bool.false_ne_true,p2.up (by omega) (by omega),c2,?_,.inr ⟨rfl,rfl,rfl⟩⟩
    rcases hc with h|h|h|h<;>first|omega|(simp at h;done)|(simp at h;omega)
 rw[hms]
 clear hms
 simp only
 have hmx2:(if m > s.caps then m else s.caps)=max s.caps m:=by split<;>omega
 have hpre:Pre (mA1 d) (mS1 d) ⟨s4.at_,s4.left,max s.caps m⟩:=⟨⟨by have:=p4.a;simp only;omega,by have:=p4.a;simp only;omega⟩,⟨by have:=p4.l;simp only;omega,by have:=p4.l;simp only;omega⟩,by simp only;omega⟩
 have h44:=fun K=>ht _ b0 K hpre
 rw[c4]
 generalize treeF l uses d ⟨s4.at_,s4.left,max s.caps m⟩=Y at *
 obtain⟨r,s5⟩:=Y
 simp only at h44 ⊢
 have fin:∀(M:List MB),(∃ L,M=K++L)→retPol pol1 101 (mH b0 l uses s K) (.agg [I 5,.sl true [],.sl true [reAV r],I 0,I 0,I 0,I m,.bool false]) (mH b0 l uses s5 M)=some (reAV (.mk 5 [] [r] 0 0 0 m false),mH b0 l uses s5 K):=fun M hM=>
  ret_node (by rfl) (by rfl) s s5 hM true true 5 [] [r] 0 0 0 m false
 refine call_run2 (pol:=pol1) Try.func101 rfl rfl rfl rfl fr ?_
 rcases hc with ⟨g1,rfl,rfl⟩|⟨g1,g2,g3,rfl,rfl⟩|⟨g1,g2,g3,rfl,rfl⟩|⟨g1,g2,rfl,rfl⟩<;>rcases hc2 with ⟨g4,rfl,rfl⟩|⟨g4,rfl,rfl⟩<;>(try cases g4)
 ·rw[show max 1 s2.caps=s2.caps by omega]at h97b
  simp +contextual (disch:=omega) only[Try.f101,dd101,go_sem,↓reduceIte,evAppend,List.reduceReplicate,Nat.reduceAdd,Nat.reduceSub,reduceCtorEq,Nat.reduceLeDiff,Nat.reduceMul,Nat.reduceLT,Nat.reduceEqDiff,Int.reduceBNe,Int.reduceBEq,Int.reduceEq,Int.reduceLT,Int.reduceLE,Int.reduceGT,Int.reduceGE,List.map_append,mu101,Nat.reduceBEq,↓wrap_up,↓wrap_down,↓wrap_pred,↓wrap_sub_nat,Int.reduceToNat,h97a,h97b,h44,hmx1,hmx2,c1,c2,c3,evMax,get_last,set_last,reC_len,reC_ok,reC_take,reC_drop,List.append_nil]
  repeat' (first|intro _|apply And.intro|(unfold dOk;kernel_rfl)|exact St.beq_refl _|(show altO _ _ _ _=true;kernel_rfl)|(show (_ || _)=true;kernel_rfl)|(show (_ && _)=true;kernel_rfl))
  exact fin _ (ex1 ..)
 ·simp +contextual (disch:=omega) only[Try.f101,dd101,go_sem,↓reduceIte,evAppend,List.reduceReplicate,Nat.reduceAdd,Nat.reduceSub,reduceCtorEq,Nat.reduceLeDiff,Nat.reduceMul,Nat.reduceLT,Nat.reduceEqDiff,Int.reduceBNe,Int.reduceBEq,Int.reduceEq,Int.reduceLT,Int.reduceLE,Int.reduceGT,Int.reduceGE,List.map_append,mu101,Nat.reduceBEq,↓wrap_up,↓wrap_down,↓wrap_pred,↓wrap_sub_nat,Int.reduceToNat,h97a,h97b,h44,hmx1,hmx2,c1,c2,c3,evMax,get_last,set_last,reC_len,reC_ok,reC_take,reC_drop,List.append_nil]
  repeat' (first|intro _|apply And.intro|(unfold dOk;kernel_rfl)|exact St.beq_refl _|(show altO _ _ _ _=true;kernel_rfl)|(show (_ || _)=true;kernel_rfl)|(show (_ && _)=true;kernel_rfl))
  exact fin _ (ex1 ..)
 ·first|rw[show max s.caps (s.caps+1)=s.caps+1 by omega]at h44|rw[show max s2.caps (s2.caps+1)=s2.caps+1 by omega]at h44|rw[show max s4.caps (s4.caps+1)=s4.caps+1 by omega]at h44
  simp +contextual (disch:=omega) only[Try.f101,dd101,go_sem,↓reduceIte,evAppend,List.reduceReplicate,Nat.reduceAdd,Nat.reduceSub,reduceCtorEq,Nat.reduceLeDiff,Nat.reduceMul,Nat.reduceLT,Nat.reduceEqDiff,Int.reduceBNe,Int.reduceBEq,Int.reduceEq,Int.reduceLT,Int.reduceLE,Int.reduceGT,Int.reduceGE,List.map_append,mu101,Nat.reduceBEq,↓wrap_up,↓wrap_down,↓wrap_pred,↓wrap_sub_nat,Int.reduceToNat,h97a,h97b,h44,hmx1,hmx2,c1,c2,c3,evMax,get_last,set_last,reC_len,reC_ok,reC_take,reC_drop,List.append_nil]
  repeat' (first|intro _|apply And.intro|(unfold dOk;kernel_rfl)|exact St.beq_refl _|(show altO _ _ _ _=true;kernel_rfl)|(show (_ || _)=true;kernel_rfl)|(show (_ && _)=true;kernel_rfl))
  exact fin _ (ex1 ..)
 ·first|rw[show max s.caps (s.caps+1)=s.caps+1 by omega]at h44|rw[show max s2.caps (s2.caps+1)=s2.caps+1 by omega]at h44|rw[show max s4.caps (s4.caps+1)=s4.caps+1 by omega]at h44
  simp +contextual (disch:=omega) only[Try.f101,dd101,go_sem,↓reduceIte,evAppend,List.reduceReplicate,Nat.reduceAdd,Nat.reduceSub,reduceCtorEq,Nat.reduceLeDiff,Nat.reduceMul,Nat.reduceLT,Nat.reduceEqDiff,Int.reduceBNe,Int.reduceBEq,Int.reduceEq,Int.reduceLT,Int.reduceLE,Int.reduceGT,Int.reduceGE,List.map_append,mu101,Nat.reduceBEq,↓wrap_up,↓wrap_down,↓wrap_pred,↓wrap_sub_nat,Int.reduceToNat,h97a,h97b,h44,hmx1,hmx2,c1,c2,c3,evMax,get_last,set_last,reC_len,reC_ok,reC_take,reC_drop,List.append_nil]
  repeat' (first|intro _|apply And.intro|(unfold dOk;kernel_rfl)|exact St.beq_refl _|(show altO _ _ _ _=true;kernel_rfl)|(show (_ || _)=true;kernel_rfl)|(show (_ && _)=true;kernel_rfl))
  exact fin _ (ex1 ..)
end
end
section
attribute [local go_sem] evAppend evBin List.map_append ty23 ty24 ty26
open Go.Proofs Go.RowKit Go.IntWalk
set_option maxRecDepth 100000
set_option linter.unusedSimpArgs false
set_option linter.unusedVariables false
set_option maxHeartbeats 8000000
def extZ (f:Nat):Option (List AV→List MB→Option (AV×List MB)):=if f=92 then some (cloneExt 2 16) else none
noncomputable def pol0:Pol:={ pol1 with ext:=extZ,pure:=fun f=>f == 74 || pol1.pure f }
noncomputable def polL:Pol:={ pol1 with ext:=extZ,byref:=fun f i=>f == 74 || pol1.byref f i,keep:=fun f=>f == 74 || pol1.keep f,racts:=fun f r=>if f=74 then [] else pol1.racts f r,gc:=fun f r=>if f=74 then none else pol1.gc f r }
theorem extZ_sound {pol:Pol} (hp:pol.ext=extZ) (hP:∀ args H r H',cloneExt 2 16 args H=some (r,H')→CallSound Try.prog 92 args H r H'):ExtOk Try.prog pol:=by
 intro f g hg args H r H' h
 rw[hp]at hg
 unfold extZ at hg
 split at hg
 ·rename_i e
  subst e
  cases hg
  exact hP _ _ _ _ h
 ·cases hg
theorem cl92:∀ args H r H',cloneExt 2 16 args H=some (r,H')→CallSound Try.prog 92 args H r H':=fun args H r H' h=>ext1 92 _ rfl args H r H' h
theorem ok0:CfOk Try.prog (call Try.prog pol0):=call_ok (extZ_sound rfl cl92) follows1
theorem okL:CfOk Try.prog (call Try.prog polL):=call_ok (extZ_sound rfl cl92) follows1
theorem f92z {pol:Pol} (hp:pol.pure 92=false) (he:pol.ext 92=some (cloneExt 2 16)) (l:List (Int×Int)) (hl:l.length≤1000000) (H:List MB) (hH:H≠[]):call Try.prog pol 92 [.sl false (l.map spanAV)] H=some (.sl false (l.map spanAV),H):=by
 obtain⟨b,K,rfl⟩:∃ b K,H=b::K:=by cases H with
  | nil=>exact absurd rfl hH
  | cons b K=>exact⟨b,K,rfl⟩
 rw[call_eq]
 unfold evStep
 have hx:cloneExt 2 16 [.sl false (l.map spanAV)] (b::K)=some (.sl false (l.map spanAV),b::K):=by
  simp only[cloneExt,elemsOf]
  rw[if_pos (cloneX l hl)]
 rw[if_neg (by rw[hp];exact Bool.false_ne_true)]
 unfold evBody
 simp only[he]
 exact hx
theorem p0d:pol0.dead=pol1.dead:=rfl
theorem p0b:pol0.bdead=pol1.bdead:=rfl
theorem p0r:pol0.racts=pol1.racts:=rfl
theorem p0l:pol0.alts=pol1.alts:=rfl
theorem p0u:pol0.muts=pol1.muts:=rfl
theorem pLd:polL.dead=pol1.dead:=rfl
theorem pLb:polL.bdead=pol1.bdead:=rfl
theorem pLr (r:Nat):polL.racts 74 r=[]:=rfl
theorem pLl:polL.alts=pol1.alts:=rfl
theorem pLu:polL.muts=pol1.muts:=rfl
theorem f74z:∀(N:Nat) (r:Re),r.wt≤N→r.wt≤1000000→∀ H,call Try.prog pol0 74 [reAV r] H=some (reAV r,H)
 | 0,r,h,_,_=>by have:=r.wt_pos;omega
 | N+1,.mk op set kids mn mx md n neg,h,hN,H=>by
   have hkl:=Re.wtL_len kids
   have hwt:1+set.length+Re.wtL kids=(Re.mk op set kids mn mx md n neg).wt:=by simp[Re.wt]
   have ih:=fun k (hk:k∈kids)=>f74z N k (by have:=Re.wtL_mem hk;omega) (by have:=Re.wtL_mem hk;omega)
   have h92:=f92z (pol:=pol0) rfl rfl set (by omega)
   refine call_run Try.func74 rfl rfl rfl rfl rfl rfl (fun _=>rfl) (by simp[AV.plainL,plain_re]) (plain_re _) ?_ H
   rw[show reAV (.mk op set kids mn mx md n neg)=.agg [I op,.sl false (set.map spanAV),.sl false (kids.map reAV),I mn,I mx,I md,I n,.bool neg] from congrArg AV.agg reC_mk]
   have h92b:=fun b K=>h92 (b::K) (by simp)
   simp +contextual (disch:=omega) only[Try.f74,dd74,go_sem,↓reduceIte,List.reduceReplicate,Nat.reduceAdd,Nat.reduceSub,reduceCtorEq,Nat.reduceLeDiff,Nat.reduceMul,Nat.reduceLT,Nat.reduceEqDiff,Int.reduceBNe,Int.reduceBEq,Int.reduceEq,Int.reduceLT,Int.reduceLE,Int.reduceGT,Int.reduceGE,mu74,Nat.reduceBEq,↓wrap_up,↓wrap_down,↓wrap_pred,↓wrap_sub_nat,Int.reduceToNat,p0d,p0b,p0r,p0l,p0u,h92b]
   refine W_count (M:=(mskOf (pol1.mask 74) (pol1.gc 74) (pol1.acts 74) 0 5)) rfl kids.length (fun i=>(⟨28,[(15,I i),(14,I kids.length),(13,.sl false (kids.map reAV)),(2,.rf 1 1 0 0),(1,.rf 0 1 0 0)],[.row 8 [.agg [I op,.sl false (set.map spanAV),.ms 2 8 i 0 i,I mn,I mx,I md,I n,.bool neg]] 0,.row 8 [.agg [I 0,.sl true [],.sl true [],I 0,I 0,I 0,I 0,.bool false]] 0,.row 8 ((kids.take i).map reAV) 0]⟩:St)) (fun _=>True) ?_ ?_ trivial _ ?_
   ·intro i hi _
    obtain⟨k,hk⟩:∃ k,kids[i]?=some k:=⟨_,List.getElem?_eq_getElem hi⟩
    have h1:=ih k (List.mem_of_getElem? hk)
    have hlt:(kids.take i).length=i:=by simp;omega
    have htk:=take_map_len (f:=reAV) hlt
    have hnx:kids.take (i+1)=kids.take i++[k]:=by rw[List.take_add_one,hk];rfl
    rw[hnx]
    generalize kids.take i=ks at *
    simp +contextual (disch:=omega) only[Try.f74,dd74,go_sem,↓reduceIte,List.reduceReplicate,Nat.reduceAdd,Nat.reduceSub,reduceCtorEq,Nat.reduceLeDiff,Nat.reduceMul,Nat.reduceLT,Nat.reduceEqDiff,Int.reduceBNe,Int.reduceBEq,Int.reduceEq,Int.reduceLT,Int.reduceLE,Int.reduceGT,Int.reduceGE,mu74,Nat.reduceBEq,↓wrap_up,↓wrap_down,↓wrap_pred,↓wrap_sub_nat,Int.reduceToNat,p0d,p0b,p0r,p0l,p0u,h1,hk,reC_len,reC_ok,reC_take,hlt,htk]
    repeat' (first|intro _|apply And.intro|(unfold dOk;kernel_rfl)|exact St.beq_refl _|(show altO _ _ _ _=true;kernel_rfl)|(show (_ || _)=true;kernel_rfl)|(show (_ && _)=true;kernel_rfl))
    all_goals exact(by first|rfl|(refine prep_to (n:=3) (m:=⟨some [15,14,13,2,1],some 3,[]⟩) rfl rfl ?_ ?_ ?_<;>first|rfl|(simp[keepT,AV.underL,AV.under,MB.under,underL_plain,under_plain,underL_append,plain_ints,plain_span,plain_ins,plain_prg,-List.map_take,-List.map_replicate,-List.map_set,plain_kids,underL_plain _ _ (plain_kids ks),underL_plain _ _ (plain_reC k)];done)|(simp[keepT,AV.underL,AV.under,MB.under,underL_plain,under_plain,underL_append,plain_ints,plain_span,plain_ins,plain_prg,-List.map_take,-List.map_replicate,-List.map_set,plain_kids,underL_plain _ _ (plain_kids ks),underL_plain _ _ (plain_reC k)];omega)))
   ·intro _
    simp +contextual (disch:=omega) only[Try.f74,dd74,go_sem,↓reduceIte,List.reduceReplicate,Nat.reduceAdd,Nat.reduceSub,reduceCtorEq,Nat.reduceLeDiff,Nat.reduceMul,Nat.reduceLT,Nat.reduceEqDiff,Int.reduceBNe,Int.reduceBEq,Int.reduceEq,Int.reduceLT,Int.reduceLE,Int.reduceGT,Int.reduceGE,mu74,Nat.reduceBEq,↓wrap_up,↓wrap_down,↓wrap_pred,↓wrap_sub_nat,Int.reduceToNat,p0d,p0b,p0r,p0l,p0u]
    rw[List.take_length]
    simp only[fz,fzA_agg,fzL,fzA_int,fzA_sl,fzL_plain _ _ _ (plain_span set)]
    rw[fzA_row (els:=kids.map reAV) (k:=8) (z:=0) rfl (by simp) (plain_kids kids)]
    exact⟨_,rfl⟩
   ·exact(by first|rfl|(refine prep_to (n:=3) (m:=⟨some [15,14,13,2,1],some 3,[]⟩) rfl rfl ?_ ?_ ?_<;>first|rfl|(simp[keepT,AV.underL,AV.under,MB.under,underL_plain,under_plain,underL_append,plain_ints,plain_span,plain_ins,plain_prg,-List.map_take,-List.map_replicate,-List.map_set,plain_kids];done)|(simp[keepT,AV.underL,AV.under,MB.under,underL_plain,under_plain,underL_append,plain_ints,plain_span,plain_ins,plain_prg,-List.map_take,-List.map_replicate,-List.map_set,plain_kids];omega)))
theorem f74of {v:AV} {H:List MB} (h:CallSound Try.prog 74 [v] H v H):call Try.prog pol1 74 [v] H=some (v,H):=by
 rw[call_eq]
 unfold evStep
 rw[if_neg (by exact Bool.false_ne_true)]
 unfold evBody
 have he:pol1.ext 74=some ext74:=rfl
 simp only[he]
 exact ext74_eq h
theorem f74 (r:Re) (h:r.wt≤1000000) (H:List MB):call Try.prog pol1 74 [reAV r] H=some (reAV r,H):=
 f74of (ok0 _ _ _ _ _ (f74z r.wt r (Nat.le_refl _) h H))
abbrev leafAV (op:Int) (set:List (Int×Int)) (mn mx md n:Int) (neg:Bool):AV:=.agg [I op,.sl false (set.map spanAV),.sl true [],I mn,I mx,I md,I n,.bool neg]
theorem f74l (op:Int) (set:List (Int×Int)) (mn mx md n:Int) (neg:Bool) (h:set.length≤1000000) (H:List MB) (hH:H≠[]) :
 call Try.prog polL 74 [leafAV op set mn mx md n neg] H=some (leafAV op set mn mx md n neg,H++[.row 8 [leafAV op set mn mx md n neg] 0,.row 8 [leafAV op set mn mx md n neg] 0]):=by
 have h92:=fun H=>f92z (pol:=polL) rfl rfl set h H
 have fr:frzArgs polL 74 0 [leafAV op set mn mx md n neg] H=some ([leafAV op set mn mx md n neg],H):=rfl
 refine call_run2 (pol:=polL) Try.func74 rfl rfl rfl rfl fr ?_
 have h92b:=fun x y=>h92 (H++[x]++[y]) (by simp)
 simp +contextual (disch:=omega) only[Try.f74,dd74,go_sem,↓reduceIte,List.reduceReplicate,Nat.reduceAdd,Nat.reduceSub,reduceCtorEq,Nat.reduceLeDiff,Nat.reduceMul,Nat.reduceLT,Nat.reduceEqDiff,Int.reduceBNe,Int.reduceBEq,Int.reduceEq,Int.reduceLT,Int.reduceLE,Int.reduceGT,Int.reduceGE,mu74,Nat.reduceBEq,↓wrap_up,↓wrap_down,↓wrap_pred,↓wrap_sub_nat,Int.reduceToNat,pLd,pLb,pLr,pLl,pLu,h92b,get_last,set_last,get_l2a,get_l2b,set_l2a,set_l2b]
 refine W_count rfl 0 (fun _=>(⟨28,[(15,I 0),(14,I ((0:Nat):Int)),(13,.sl true []),(2,.rf (H.length+1) 1 0 0),(1,.rf H.length 1 0 0)],H++[.row 8 [leafAV op set mn mx md n neg] 0]++[.row 8 [.agg [I 0,.sl true [],.sl true [],I 0,I 0,I 0,I 0,.bool false]] 0]⟩:St)) (fun _=>True) ?_ ?_ trivial _ rfl
 ·intro i hi;omega
 ·intro _
  simp +contextual (disch:=omega) only[Try.f74,dd74,go_sem,↓reduceIte,List.reduceReplicate,Nat.reduceAdd,Nat.reduceSub,reduceCtorEq,Nat.reduceLeDiff,Nat.reduceMul,Nat.reduceLT,Nat.reduceEqDiff,Int.reduceBNe,Int.reduceBEq,Int.reduceEq,Int.reduceLT,Int.reduceLE,Int.reduceGT,Int.reduceGE,mu74,Nat.reduceBEq,↓wrap_up,↓wrap_down,↓wrap_pred,↓wrap_sub_nat,Int.reduceToNat,pLd,pLb,pLr,pLl,pLu,h92b,get_last,set_last,get_l2a,get_l2b,set_l2a,set_l2b]
  unfold retPol
  rw[if_pos (by rfl)]
  simp
theorem f74leaf (op:Int) (set:List (Int×Int)) (mn mx md n:Int) (neg:Bool) (h:set.length≤1000000) (H:List MB) (hH:H≠[]) :
 call Try.prog pol1 74 [leafAV op set mn mx md n neg] H=some (leafAV op set mn mx md n neg,H):=
 f74of ((okL _ _ _ _ _ (f74l op set mn mx md n neg h H hH)).drop (by simp[AV.under,AV.underL,underL_plain,plain_span]))
end
end Go.Ev
namespace Go.Ev
set_option linter.unusedSimpArgs false
set_option linter.unusedVariables false
def joinX:List Re→Re
 | [a]=>a
 | l=>.mk 2 [] l 0 0 0 0 false
def repX (x:Re) (most md:Int):Re:=.mk 4 [] [x] 0 most md 0 false
def restX (x:Re) (md:Int):Nat→Re
 | 0=>repX x 1 md
 | c+1=>repX (joinX [x,restX x md c]) 1 md
def partsX (x:Re) (mn mx md:Int):List Re:=
 List.replicate mn.toNat x++(if mx = -1 then [repX x (-1) md] else if mn < mx then [restX x md (mx - mn - 1).toNat] else [])
def keptX (mn mx:Int):Bool:=decide (mn=0) && (decide (mx = -1) || decide (mx=1))
mutual
def expX:Re→Re
 | .mk op set kids mn mx md n neg=>
   if op≠4∨keptX mn mx=true then .mk op set (expXL kids) mn mx md n neg
   else match expXL kids with
    | []=>.mk op set [] mn mx md n neg
    | x::_=>joinX (partsX x mn mx md)
def expXL:List Re→List Re
 | []=>[]
 | k::ks=>expX k::expXL ks
end
theorem flat_congr {α β:Type} {l:List α} {f g:α→List β} (h:∀ x∈l,f x=g x):l.flatMap f=l.flatMap g:=by
 induction l with
 | nil=>rfl
 | cons a l ih=>rw[List.flatMap_cons,List.flatMap_cons,h a (by simp),ih fun x hx=>h x (by simp[hx])]
theorem code_join (l:List Re) (f:Nat):codeG (joinX l) f=codeCat l f:=by
 unfold joinX
 split
 ·simp[codeCat]
 ·rw[codeG];simp
theorem len_join (l:List Re):lenG (joinX l)=lenL l:=by
 unfold joinX
 split
 ·simp[lenL]
 ·simp[lenG]
theorem len_repX (x:Re) (md:Int):lenG (repX x 1 md)=lenG x+1∧lenG (repX x (-1) md)=lenG x+2:=by
 constructor<;>simp[repX,lenG,lenL]
theorem len_restX (x:Re) (md:Int):∀ c,lenG (restX x md c)=(c+1) * (lenG x+1)
 | 0=>by rw[restX,(len_repX x md).1];omega
 | c+1=>by
   rw[restX,(len_repX _ md).1,len_join]
   simp only[lenL,len_restX x md c,Nat.succ_mul];omega
theorem code_repX1 (x:Re) (md:Int) (p:Nat):codeG (repX x 1 md) p=insSplit md ((p+1:Nat):Int) ((p+lenG x+1:Nat):Int)::codeG x (p+1):=by
 rw[repX,codeG]
 simp[lenL,codeHd,List.range_succ]
theorem code_repXm (x:Re) (md:Int) (p:Nat):codeG (repX x (-1) md) p=insSplit md ((p+1:Nat):Int) ((p+lenG x+2:Nat):Int)::(codeG x (p+1)++[⟨3,(p:Int),0,0,[]⟩]):=by
 rw[repX,codeG]
 simp[lenL,codeHd]
theorem code_restX (x:Re) (md:Int) (e:Nat):∀(c p:Nat),p+(c+1) * (lenG x+1)=e →
 codeG (restX x md c) p=(List.range (c+1)).flatMap fun j=>insSplit md ((p+j * (lenG x+1)+1:Nat):Int) (e:Int)::codeG x (p+j * (lenG x+1)+1)
 | 0,p,h=>by
   rw[restX,code_repX1]
   have:p+lenG x+1=e:=by omega
   simp[List.range_succ,this]
 | c+1,p,h=>by
   have hl:=len_restX x md c
   rw[restX,code_repX1,code_join,len_join]
   simp only[lenL,codeCat,hl,List.append_nil,Nat.add_zero]
   rw[code_restX x md e c (p+1+lenG x) (by rw[Nat.succ_mul]at h;omega)]
   rw[List.range_succ_eq_map (n:=c+1),List.flatMap_cons,List.flatMap_map]
   have he:p+(lenG x+(c+1) * (lenG x+1))+1=e:=by rw[Nat.succ_mul]at h;omega
   rw[he]
   simp only[Nat.zero_mul,Nat.add_zero,List.cons_append]
   congr 2
   refine flat_congr fun j _=>?_
   have:p+1+lenG x+j * (lenG x+1)+1=p+(j+1) * (lenG x+1)+1:=by rw[Nat.succ_mul];omega
   rw[this]
theorem code_repl (x:Re) (rest:List Re):∀(m f:Nat),codeCat (List.replicate m x++rest) f=((List.range m).flatMap fun i=>codeG x (f+i * lenG x))++codeCat rest (f+m * lenG x)
 | 0,f=>by simp
 | m+1,f=>by
   rw[List.replicate_succ,List.cons_append,codeCat,code_repl x rest m,List.range_succ_eq_map,List.flatMap_cons,List.flatMap_map,List.append_assoc]
   have h1:∀ i,f+lenG x+i * lenG x=f+(i+1) * lenG x:=fun i=>by rw[Nat.succ_mul];omega
   simp only[h1,Nat.zero_mul,Nat.add_zero]
theorem len_repl (x:Re) (rest:List Re):∀ m,lenL (List.replicate m x++rest)=m * lenG x+lenL rest
 | 0=>by simp
 | m+1=>by rw[List.replicate_succ,List.cons_append,lenL,len_repl x rest m,Nat.succ_mul];omega
theorem code_parts (x:Re) (set:List (Int×Int)) (mn mx md n:Int) (neg:Bool) (h0:0≤mn) (hm:mx = -1∨mn≤mx) (f:Nat) :
 codeCat (partsX x mn mx md) f=codeG (.mk 4 set [x] mn mx md n neg) f∧lenL (partsX x mn mx md)=lenG (.mk 4 set [x] mn mx md n neg):=by
 rw[codeG,lenG]
 simp only[show ¬(4:Int)=1 by decide,show ¬(4:Int)=11 by decide,show ¬(4:Int)=2 by decide,show ¬(4:Int)=3 by decide,show ¬(4:Int)=5 by decide,if_false,if_true,or_self,lenL,codeHd,Nat.add_zero]
 unfold partsX
 rw[code_repl,len_repl]
 by_cases hx:mx = -1
 ·simp only[if_pos hx,codeCat,lenL,code_repXm,(len_repX x md).2,List.append_nil,Nat.add_zero]
  exact⟨trivial,by rw[Nat.succ_mul];omega⟩
 ·simp only[if_neg hx]
  by_cases hl:mn < mx
  ·obtain⟨c,hc⟩:∃ c:Nat,(mx - mn - 1).toNat=c∧mx.toNat=mn.toNat+(c+1):=⟨_,rfl,by omega⟩
   rw[if_pos hl,hc.1]
   have e1:mx.toNat - mn.toNat=c+1:=by omega
   simp only[codeCat,lenL,List.append_nil,Nat.add_zero,e1]
   have ee:mx.toNat * lenG x=mn.toNat * lenG x+c * lenG x+lenG x:=by rw[hc.2,← Nat.add_assoc,Nat.succ_mul,Nat.add_mul]
   have e2:(c+1) * (lenG x+1)=c * lenG x+lenG x+(c+1):=by rw[Nat.mul_succ,Nat.succ_mul]
   rw[code_restX x md (f+mx.toNat * lenG x+(c+1)) c (f+mn.toNat * lenG x) (by omega),len_restX]
   exact⟨rfl,by omega⟩
  ·have:mx.toNat=mn.toNat:=by omega
   rw[if_neg hl,this]
   simp[codeCat,lenL]
theorem code_same {op:Int} {set:List (Int×Int)} {ks ks':List Re} {mn mx md n:Int} {neg:Bool} (h1:∀ f,codeCat ks' f=codeCat ks f) (h2:∀ f,codeAlt ks' f=codeAlt ks f) (h3:∀ f,codeHd ks' f=codeHd ks f) (h4:lenL ks' = lenL ks) (h5:ks'.length=ks.length) :
 (∀ f,codeG (.mk op set ks' mn mx md n neg) f=codeG (.mk op set ks mn mx md n neg) f)∧lenG (.mk op set ks' mn mx md n neg)=lenG (.mk op set ks mn mx md n neg):=by
 refine⟨fun f=>?_,?_⟩
 ·rw[codeG,codeG];simp only[h1,h2,h3,h4]
 ·rw[lenG,lenG];simp only[h4,h5]
mutual
theorem code_exp (caps top:Int):∀ r:Re,GoodC caps top r→(∀ f,codeG (expX r) f=codeG r f)∧lenG (expX r)=lenG r
 | .mk op set kids mn mx md n neg,h=>by
   obtain⟨h1,h2,h3,h4,h5⟩:=code_expL caps top kids h.kids
   have hs:=code_same (op:=op) (set:=set) (mn:=mn) (mx:=mx) (md:=md) (n:=n) (neg:=neg) h1 h2 h3 h4 h5
   rw[expX]
   split
   ·exact hs
   ·rename_i ho
    have ho4:op=4:=by
     by_cases e:op=4
     ·exact e
     ·exact absurd (.inl e) ho
    subst ho4
    obtain⟨_,hkd,hrp,_⟩:=whole_facts h.whole
    obtain⟨k,rfl⟩:∃ k,kids=[k]:=List.length_eq_one_iff.1 (by simpa [kidsG] using hkd)
    rw[expXL,expXL]at hs ⊢
    simp only
    have hr:=hrp rfl
    simp only[repG,Bool.and_eq_true,Bool.or_eq_true,decide_eq_true_eq,beq_iff_eq]at hr
    have hp:=code_parts (expX k) set mn mx md n neg (by omega) (by omega)
    refine⟨fun f=>?_,?_⟩
    ·rw[code_join,(hp f).1];exact hs.1 f
    ·rw[len_join,(hp 0).2];exact hs.2
theorem code_expL (caps top:Int):∀ l:List Re,(∀ k∈l,GoodC caps top k) →
 (∀ f,codeCat (expXL l) f=codeCat l f)∧(∀ f,codeAlt (expXL l) f=codeAlt l f)∧(∀ f,codeHd (expXL l) f=codeHd l f)∧lenL (expXL l)=lenL l∧(expXL l).length=l.length
 | [],_=>⟨fun _=>rfl,fun _=>rfl,fun _=>rfl,rfl,rfl⟩
 | k::ks,h=>by
   obtain⟨a,b⟩:=code_exp caps top k (h k (by simp))
   obtain⟨h1,h2,h3,h4,h5⟩:=code_expL caps top ks (fun q hq=>h q (by simp[hq]))
   rw[expXL]
   refine⟨fun f=>?_,fun f=>?_,fun f=>?_,?_,?_⟩
   ·rw[codeCat,codeCat,a,b,h1]
   ·rw[codeAlt,codeAlt,h5,lenL,lenL,b,h4,a,a,h2]
   ·rw[codeHd,codeHd,a]
   ·rw[lenL,lenL,b,h4]
   ·simp[h5]
end
end Go.Ev
namespace Go.Ev
set_option linter.unusedSimpArgs false
set_option linter.unusedVariables false
end Go.Ev
namespace Go.Ev
attribute [local go_sem] eq_self bindW_some bindW_map bindW_ite bindW_iteN W_seq W_region W_draw W_cond W_condK W_ret W_skip W_exit W_scope W_label W_block blockK_norm blockK_ret blockK_exit WO_nil WO_cons WO_guard WD_nil WD_cons WD_guard guardV guardW_boolT guardW_boolF guardW_tup fpL_some fpL_none footprint thenK_norm thenK_ret thenK_exit put_some put_none ev_tmp ev_con ev_func ofK_int ofK_bool ofK_str ofK_nil evOp evBuiltin evCall evLen getElem_16 getElem_4 List.length_cons List.length_nil List.cons_append List.nil_append List.append_nil if_false if_true Bool.false_eq_true Bool.true_eq_false Option.map_some Option.map_none List.map_cons List.map_nil evBinOp evUn asB_bool splitB_decide splitB_true splitB_false splitB_beq splitB_bne splitB_not endK_ret endK_norm List.getElem?_cons_zero List.getElem?_cons_succ evResults evResult packRes retK_norm retK_ret cellsAt mkVal evFieldAddr evField evIndexAddr evPart evStore evBuild evBuildSlice fillC fillE evSlice evMakeSlice evConvert getRow AV.cells List.head?_cons List.drop_zero List.drop_succ_cons List.take_zero List.take_succ_cons List.drop_nil List.take_nil List.all_cons List.all_nil AV.ok Bool.and_self Bool.and_true Bool.true_and and_self and_true true_and Nat.zero_add Nat.add_zero setCells splice pairsOk pairsX altW_none altW_some cfg_al WI_nil WI_cons FP.apart heapEq_refl sameAt_refl Bool.or_true Bool.true_or Bool.or_false srcElems elemsOf mutDst indDst roundK_norm roundK_exit roundK_ret List.length_map List.getElem?_map Int.toNat_natCast decide_true decide_false Bool.not_true Bool.not_false List.set set_0 set_1 set_2 set_3 set_4 look_hit look lookD_hit lookD_cons lookD_nil ins_hit ins upd_hit upd rem1_hit rem1 dropT dropSt_eq initT cfg_dd cfg_bd cfg_ra actL_nil actL_cons act1 updT_hit updT frzB retE_norm retE_ret bndO bnd evEq eqCells not_false_eq_true not_true_eq_false toList_some Array.size_empty List.length_append tySzE List.head?_drop Nat.mul_one sameAt_zero sameAt_two sameAt_three sameAt_four sameAt_five endE_norm endE_ret head_take1 List.contains_nil List.contains_cons Bool.or_self dlt_t dlt_f dle_t dle_f dgt_t dgt_f dge_t dge_f beq_t beq_f bne_t bne_f lt_T le_T nle_T nle_F Go.IntWalk.i64_in Go.IntWalk.i64_quo Go.IntWalk.rem_in room_ok ty0 ty3
section
attribute [local go_sem] ty4 ty5 ty23 ty71 ty74 ty86 ty143 ty145 ty183
open Go.Proofs Go.RowKit Go.IntWalk
set_option maxRecDepth 100000
set_option linter.unusedSimpArgs false
set_option linter.unusedVariables false
set_option maxHeartbeats 8000000
section
variable {α:Type} (A K:List α) (x y v:α)
theorem pre_get:(A++x::K)[A.length]?=some x:=by simp
theorem pre_get1:(A++x::y::K)[A.length+1]?=some y:=by
 rw[List.getElem?_append_right (by omega)];simp
theorem pre_set:(A++x::K).set A.length v=A++v::K:=by simp
theorem pre_set1:(A++x::y::K).set (A.length+1) v=A++x::v::K:=by
 rw[List.set_append_right _ _ (by omega)];simp
end
section
variable {k:IntKind} {a b:Int}
end
end
end Go.Ev
namespace Go.Ev
set_option linter.unusedSimpArgs false
set_option linter.unusedVariables false
inductive Goal where
 | nil
 | mk (kind:Int) (re:Re) (k fr:Int) (next:Goal)
def goalA:Goal→AV
 | .nil=>.nilp
 | .mk kind re k fr next=>.pt (I kind::(reC re++[I k,I fr,goalA next]))
abbrev goalC (kind:Int) (re:Re) (k fr:Int) (next:Goal):List AV:=I kind::(reC re++[I k,I fr,goalA next])
theorem plainL_append:∀(a b:List AV),AV.plainL (a++b)=(AV.plainL a && AV.plainL b)
 | [],b=>by simp[AV.plainL]
 | x::a,b=>by simp[AV.plainL,plainL_append a b,Bool.and_assoc]
theorem plain_goal:∀ g:Goal,AV.plain (goalA g)=true
 | .nil=>rfl
 | .mk kind re k fr next=>by
   have h1:=plain_goal next
   have h2:=plain_reC re
   simp[goalA,AV.plain,AV.plainL,plainL_append,h1,h2]
theorem plain_goalC (kind:Int) (re:Re) (k fr:Int) (next:Goal):AV.plainL (goalC kind re k fr next)=true:=by
 have h1:=plain_goal next
 have h2:=plain_reC re
 simp[AV.plain,AV.plainL,plainL_append,h1,h2]
abbrev Caps:=List (Int×Int)
abbrev capA (c:Caps):AV:=.sl false (c.map spanAV)
structure SS where
 steps:Int
 empty:Bool
 ends:List Int
 caps:List Caps
def withI (c:Caps) (n fr to:Int):Caps:=if 1≤n∧n≤c.length then c.set (n - 1).toNat (fr,to) else c
def Re.op:Re→Int | .mk op _ _ _ _ _ _ _=>op
def Re.set:Re→List (Int×Int) | .mk _ set _ _ _ _ _ _=>set
def Re.kids:Re→List Re | .mk _ _ kids _ _ _ _ _=>kids
def Re.mn:Re→Int | .mk _ _ _ mn _ _ _ _=>mn
def Re.mx:Re→Int | .mk _ _ _ _ mx _ _ _=>mx
def Re.md:Re→Int | .mk _ _ _ _ _ md _ _=>md
def Re.n:Re→Int | .mk _ _ _ _ _ _ n _=>n
def stepS (fuel:Int) (s:SS):SS:=⟨s.steps+1,s.empty || decide (fuel < s.steps+1),s.ends,s.caps⟩
abbrev RunT:=Goal→Int→Caps→SS→Option (Bool×SS)
def orR (a:Option (Bool×SS)) (f:SS→Option (Bool×SS)):Option (Bool×SS):=
 match a with
 | none=>none
 | some (true,s)=>some (true,s)
 | some (false,s)=>f s
def repR (fuel:Int) (R:RunT) (re:Re) (k:Int) (next:Goal) (i:Int) (c:Caps) (s:SS):Option (Bool×SS):=
 let s1:=stepS fuel s
 if s1.empty=true then some (true,s1)
 else
  match re.kids with
  | []=>none
  | kid::_=>
    let once:=Goal.mk 0 kid 0 0 (.mk 2 re k i next)
    let more:Bool:=decide (re.mx = -1) || decide (k < re.mx)
    if k < re.mn then R once i c s1
    else if re.md=1 then orR (R next i c s1) fun s2=>if more then R once i c s2 else some (false,s2)
    else orR (if more then R once i c s1 else some (false,s1)) fun s2=>R next i c s2
def catG (next:Goal):List Re→Goal
 | []=>next
 | k::ks=>.mk 0 k 0 0 (catG next ks)
def altR (R:RunT) (next:Goal) (i:Int) (c:Caps):List Re→SS→Option (Bool×SS)
 | [],s=>some (false,s)
 | k::ks,s=>orR (R (.mk 0 k 0 0 next) i c s) (altR R next i c ks)
def nodeR (t:List Int) (fuel:Int) (R:RunT) (re:Re) (next:Goal) (i:Int) (c:Caps) (s:SS):Option (Bool×SS):=
 if re.op=4 then repR fuel R re 0 next i c s
 else
  let s1:=stepS fuel s
  if s1.empty=true then some (true,s1)
  else if re.op=1 then
   match t[i.toNat]? with
   | some x=>if hasSpan re.set x=true then R next (i+1) c s1 else some (false,s1)
   | none=>some (false,s1)
  else if re.op=2 then R (catG next re.kids) i c s1
  else if re.op=3 then altR R next i c re.kids s1
  else if re.op=5 then
   match re.kids with
   | []=>none
   | kid::_=>R (.mk 0 kid 0 0 (.mk 3 re 0 i next)) i c s1
  else if re.op=11 then(if assertI re.n (befS t i.toNat) t[i.toNat]?=true then R next i c s1 else some (false,s1))
  else R next i c s1
def runG (t:List Int) (fuel:Int):Nat→RunT
 | 0,_,_,_,_=>none
 | _+1,.nil,i,c,s=>some (false,⟨s.steps,s.empty,s.ends++[i],s.caps++[c]⟩)
 | d+1,.mk kind re k fr next,i,c,s=>
   if kind=1 then repR fuel (runG t fuel d) re k next i c s
   else if kind=2 then(if re.mn≤k∧i=fr then some (false,s) else runG t fuel d (.mk 1 re (k+1) 0 next) i c s)
   else if kind=3 then runG t fuel d next i (withI c re.n fr i) s
   else nodeR t fuel (runG t fuel d) re next i c s
end Go.Ev
