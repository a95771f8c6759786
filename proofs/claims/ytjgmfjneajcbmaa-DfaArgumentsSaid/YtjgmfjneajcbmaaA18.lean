/- Functions of the program, each with what it computes; no further conditions. -/
import Derived.Test.YtjgmfjneajcbmaaA06
import Derived.Test.YtjgmfjneajcbmaaA12
import Derived.Test.YtjgmfjneajcbmaaA14
import Derived.Test.YtjgmfjneajcbmaaA17
set_option linter.unusedVariables false
set_option linter.unusedSimpArgs false
namespace Go.Ev
attribute [local go_sem] evBin AV.cells frzB List.length_append tySzE List.head?_drop Nat.mul_one sameAt_zero sameAt_two sameAt_three sameAt_four sameAt_five room_ok
section
attribute [local go_sem] evAppend List.map_append
open Go.Proofs Go.RowKit Go.IntWalk
set_option maxRecDepth 100000
set_option maxHeartbeats 8000000
theorem plain_re (r:Re):AV.plain (reAV r)=true:=plain_reC r
structure MS where
 at_:Int
 left:Int
 caps:Int
abbrev mkAV (l:List Int) (uses:Int) (s:MS):AV:=.agg [.sl false (l.map I),I s.at_,I uses,I s.left,I s.caps]
abbrev mH (b0:MB) (l:List Int) (uses:Int) (s:MS) (K:List MB):List MB:=b0::.row 5 [mkAV l uses s] 0::K
def nx (l:List Int) (n:Int) (s:MS):Int×MS:=(pickI l s.at_ n,⟨s.at_+1,s.left,s.caps⟩)
theorem kept_mk (n:Nat) (b0 x y:MB) (K L:List MB) (h:MB.under n y=true):keptOk n (b0::x::K) (b0::y::(K++L))=true:=by
 simp only[keptOk,MB.beq_refl,h,Bool.true_or,Bool.or_true,Bool.true_and]
 exact keptOk_self n L K
theorem ret_mk {f:Nat} (hk:pol1.keep f=false) (ho:pol1.own f=false) {l:List Int} {uses:Int} {s s':MS} {b0:MB} {K L:List MB} {r r':AV} (hz:∀ H,fz r H=some (r',H)) (hp:AV.plain r' = true) :
  retPol pol1 f (mH b0 l uses s K) r (mH b0 l uses s' (K++L))=some (r',mH b0 l uses s' K):=by
 have h1:=kept_mk (mH b0 l uses s K).length b0 (.row 5 [mkAV l uses s] 0) (.row 5 [mkAV l uses s'] 0) K L (by simp[MB.under,AV.underL,AV.under,underL_plain,plain_ints])
 unfold retPol
 rw[if_neg (by rw[hk];exact Bool.false_ne_true),if_neg (by rw[ho];exact Bool.false_ne_true)]
 simp only[hz,under_plain _ _ hp,h1,and_self,if_true]
 simp
theorem ret_mk0 {f:Nat} (hk:pol1.keep f=false) (ho:pol1.own f=false) {l:List Int} {uses:Int} {s s':MS} {b0:MB} {K:List MB} {r r':AV} (hz:∀ H,fz r H=some (r',H)) (hp:AV.plain r' = true) :
  retPol pol1 f (mH b0 l uses s K) r (mH b0 l uses s' K)=some (r',mH b0 l uses s' K):=by
 have:=ret_mk (L:=[]) hk ho (s:=s) (s':=s') (K:=K) (l:=l) (uses:=uses) (b0:=b0) hz hp
 rwa [List.append_nil]at this
theorem f97 (l:List Int) (hl:∀ x∈l,In64 x) (uses n:Int) (hn:n≠0) (s:MS) (hs:0≤s.at_∧s.at_≤1000000) (b0:MB) (K:List MB) :
  call Try.prog pol1 70 [.rf 1 1 0 0,I n] (mH b0 l uses s K)=some (I (nx l n s).1,mH b0 l uses (nx l n s).2 K):=by
 obtain⟨at_,left,caps⟩:=s
 simp only at hs
 have h57:=f57 l at_ n hl hn
 have fr:frzArgs pol1 70 0 [.rf 1 1 0 0,I n] (mH b0 l uses ⟨at_,left,caps⟩ K)=some ([.rf 1 1 0 0,I n],mH b0 l uses ⟨at_,left,caps⟩ K):=frzArgs_mix _ _ _ rfl
 refine call_run2 (pol:=pol1) Try.func70 rfl rfl rfl rfl fr ?_
 have hsub:at_+1 - 1=at_:=by omega
 simp +contextual (disch:=omega) only[Try.f70,dd70,go_sem,simprocAttr,mu70,↓wrap_up,↓wrap_down,↓wrap_pred,↓wrap_sub_nat,h57,hsub]
 repeat' (first|intro _|apply And.intro|(unfold dOk;kernel_rfl)|exact St.beq_refl _|(show altO _ _ _ _=true;kernel_rfl)|(show (_ || _)=true;kernel_rfl)|(show (_ && _)=true;kernel_rfl))
 exact ret_mk0 (s:=⟨at_,left,caps⟩) (s':=⟨at_+1,left,caps⟩) rfl rfl (fun H=>rfl) rfl
def smallS:List (List (Int×Int)):=[[(97,97)],[(98,98)],[(97,98)],[(99,99)],[(97,99)],[(0,96),(98,255)],[(10,10),(97,97)],[]]
def setM (l:List Int) (s:MS):Re×MS:=(.mk 1 (smallS.getD ((pickI l s.at_ 15).tdiv 2).toNat []) [] 0 0 0 0 false,⟨s.at_+1,s.left,s.caps⟩)
theorem f98 (l:List Int) (hl:∀ x∈l,In64 x) (uses:Int) (s:MS) (hs:0≤s.at_∧s.at_≤1000000) (b0:MB) (K:List MB) :
  call Try.prog pol1 71 [.rf 1 1 0 0] (mH b0 l uses s K)=some (reAV (setM l s).1,mH b0 l uses (setM l s).2 K):=by
 obtain⟨at_,left,caps⟩:=s
 have h97:=fun K=>f97 l hl uses 15 (by omega) ⟨at_,left,caps⟩ hs b0 K
 have fr:frzArgs pol1 71 0 [.rf 1 1 0 0] (mH b0 l uses ⟨at_,left,caps⟩ K)=some ([.rf 1 1 0 0],mH b0 l uses ⟨at_,left,caps⟩ K):=frzArgs_mix _ _ _ rfl
 have hp:=pick_lt (l:=l) (i:=at_) (m:=15) (by omega)
 simp only[nx]at h97
 unfold setM
 simp only
 generalize pickI l at_ 15=k at *
 obtain⟨j,hj,hk⟩:∃ j:Nat,j < 8∧k.tdiv 2=j:=⟨(k.tdiv 2).toNat,by rw[Int.tdiv_eq_ediv_of_nonneg hp.1];omega,by rw[Int.tdiv_eq_ediv_of_nonneg hp.1];omega⟩
 have hw:IntKind.i64.wrap (k.tdiv 2)=(j:Int):=by rw[hk];exact i64_in _ ⟨by omega,by omega⟩
 rw[hk,Int.toNat_natCast]
 obtain⟨set,hset,hsj⟩:∃ set,[AV.sl true [.agg [I 97,I 97]],.sl true [.agg [I 98,I 98]],.sl true [.agg [I 97,I 98]],.sl true [.agg [I 99,I 99]],.sl true [.agg [I 97,I 99]],.sl true [.agg [I 0,I 96],.agg [I 98,I 255]],.sl true [.agg [I 10,I 10],.agg [I 97,I 97]],.sl true []][j]?=some (.sl true (set.map spanAV))∧smallS.getD j []=set:=by
  have:j=0∨j=1∨j=2∨j=3∨j=4∨j=5∨j=6∨j=7:=by omega
  rcases this with rfl|rfl|rfl|rfl|rfl|rfl|rfl|rfl<;>exact⟨_,rfl,rfl⟩
 rw[hsj]
 refine call_run2 (pol:=pol1) Try.func71 rfl rfl rfl rfl fr ?_
 simp +contextual (disch:=omega) only[Try.f71,dd71,go_sem,simprocAttr,mu71,↓wrap_up,↓wrap_down,↓wrap_pred,↓wrap_sub_nat,h97,hw,hset,get_last,set_last]
 exact ret_mk (s:=⟨at_,left,caps⟩) (s':=⟨at_+1,left,caps⟩) rfl rfl (fz_node true true 1 set [] 0 0 0 0 false) (plain_re _)
def andI (a b:Int):Int:=IntKind.i64.wrap ((BitVec.ofInt 64 a &&& BitVec.ofInt 64 b).toNat)
theorem evBin_and (a b:Int):evBin .and .i64 a b=some (.int .i64 (andI a b)):=rfl
def stK (l:List Int) (tr:MS→Re×MS) (s:MS):Nat→List Re×MS
 | 0=>([],s)
 | i+1=>((stK l tr s i).1++[(tr (nx l 2 (stK l tr s i).2).2).1],(tr (nx l 2 (stK l tr s i).2).2).2)
def kidsF (l:List Int) (tr:MS→Re×MS) (s:MS):List Re×MS:=
 if(nx l 2 (stK l tr s 2).2).1=1 then((stK l tr s 3).1,(nx l 2 (stK l tr s 3).2).2) else((stK l tr s 2).1,(nx l 2 (stK l tr s 2).2).2)
def repF (l:List Int) (uses:Int) (tr:MS→Re×MS) (s:MS):Re×MS:=
 let k:=nx l 12 s
 let md:=nx l 2 k.2
 let m:Int×MS:=if 0 < andI uses 8 then(if(nx l 4 md.2).1=0 then 2 else md.1,(nx l 4 md.2).2) else md
 let kid:=tr m.2
 let r:=if andI uses 32=0∧nullG kid.1=true then setM l kid.2 else kid
 (.mk 4 [] [r.1] (([0,0,0,0,1,1,1,0,2,0,1,2]:List Int).getD k.1.toNat 0) (([-1,-1,-1,1,-1,-1,2,2,2,3,1,-1]:List Int).getD k.1.toNat 0) m.1 0 false,r.2)
def capF (l:List Int) (tr:MS→Re×MS) (s:MS):Re×MS:=
 let p:Bool×MS:=if 4 < s.caps+1 then(true,s) else if 0 < s.caps then(decide ((nx l 9 s).1=0),(nx l 9 s).2) else(false,s)
 let q:Int×MS:=if p.1=true then(1+(nx l (max 1 p.2.caps) p.2).1,(nx l (max 1 p.2.caps) p.2).2) else(s.caps+1,p.2)
 let kid:=tr ⟨q.2.at_,q.2.left,max q.2.caps q.1⟩
 (.mk 5 [] [kid.1] 0 0 0 q.1 false,kid.2)
def leafF (l:List Int) (k:Int) (s:MS):Re×MS:=if k=0 then(.mk 0 [] [] 0 0 0 0 false,s) else setM l s
def treeStep (l:List Int) (uses:Int) (tr:MS→Re×MS) (k:Int) (s:MS):Re×MS:=
 if s.left < 3∨(l.length:Int) < s.at_ then leafF l k s
 else if k < 5 then(.mk 2 [] (kidsF l tr s).1 0 0 0 0 false,(kidsF l tr s).2)
 else if k < 8 then(.mk 3 [] (kidsF l tr s).1 0 0 0 0 false,(kidsF l tr s).2)
 else if k < 12 then repF l uses tr s
 else if(k=12∨k=13)∧0 < andI uses 64 then capF l tr s
 else if k=14∧0 < andI uses 16 then(.mk 11 [] [] 0 0 0 (nx l 6 s).1 false,(nx l 6 s).2)
 else if k=15∧0 < andI uses 4 then
  (.mk (7+(nx l 2 (nx l 3 s).2).1) [] [(tr (nx l 2 (nx l 3 s).2).2).1] 0 0 0 0 ((nx l 3 s).1 == 0),(tr (nx l 2 (nx l 3 s).2).2).2)
 else if k=16∧0 < andI uses 8 then(.mk 9 [] [(tr s).1] 0 0 0 0 false,(tr s).2)
 else if k=17∧0 < andI uses 1∧0 < s.caps then(.mk 6 [] [] 0 0 0 (1+(nx l s.caps s).1) false,(nx l s.caps s).2)
 else if k=18∧0 < andI uses 2∧0 < s.caps then
  (.mk 10 [] [(tr (nx l s.caps s).2).1,(tr (tr (nx l s.caps s).2).2).1] 0 0 0 (1+(nx l s.caps s).1) false,(tr (tr (nx l s.caps s).2).2).2)
 else setM l s
def treeF (l:List Int) (uses:Int):Nat→MS→Re×MS
 | 0,s=>leafF l (nx l 20 ⟨s.at_,s.left - 1,s.caps⟩).1 (nx l 20 ⟨s.at_,s.left - 1,s.caps⟩).2
 | d+1,s=>treeStep l uses (treeF l uses d) (nx l 20 ⟨s.at_,s.left - 1,s.caps⟩).1 (nx l 20 ⟨s.at_,s.left - 1,s.caps⟩).2
def mA1:Nat→Int
 | 0=>3
 | d+1=>9+3 * mA1 d
def mS1:Nat→Int
 | 0=>1
 | d+1=>1+3 * mS1 d
structure Pre (A S:Int) (s:MS):Prop where
 a:0≤s.at_∧s.at_+A≤1000000
 l:-1000000≤s.left - S∧s.left≤1000000
 c:0≤s.caps∧s.caps≤4
structure Post (A S:Int) (s s':MS):Prop where
 a:s.at_≤s'.at_∧s'.at_≤s.at_+A
 l:s.left - S≤s'.left∧s'.left≤s.left
 c:0≤s'.caps∧s'.caps≤4
theorem nx_val (l:List Int) {n:Int} (hn:0 < n) (s:MS):0≤(nx l n s).1∧(nx l n s).1 < n:=pick_lt hn
theorem app_re {H:List MB} {i n z:Nat} {els:List AV} {y:AV} {t:Bool} (hi:getRow H i=some (8,els,z)) (hn:els.length=n) (hy:(decide (y.cells.length=8) && y.cells.all AV.ok)=true) (hz:z≤n) (hr:n+1≤4000000000) :
  evAppend Try.prog H 24 24 (.ms i 8 n 0 n) (.sl t [y])=some (.ms i 8 (n+1) 0 (n+1),H.set i (.row 8 (els++[y]) z)):=by
 have hs:srcElems Try.prog H 26 (.sl t [y])=some [y]:=rfl
 rw[evAppend_end (e:=26) (by kernel_rfl) (by kernel_rfl) (k:=8) (by kernel_rfl) (by_:=96) (by kernel_rfl) (ze:=.agg [I 0,.sl true [],.sl true [],I 0,I 0,I 0,I 0,.bool false]) (by kernel_rfl) rfl (by omega) hs (by simp only[List.all_cons,List.all_nil,hy,Bool.and_true]) hi hn hz (room_ok hr (by omega))]
 rfl
theorem ret_kids {f:Nat} (hk:pol1.keep f=false) (ho:pol1.own f=false) {l:List Int} {uses:Int} {s s':MS} {b0:MB} {K:List MB} {ks:List Re} {n:Nat} (hn:ks.length=n) :
  retPol pol1 f (mH b0 l uses s K) (.ms (K.length+1+1) 8 n 0 n) (mH b0 l uses s' (K++[.row 8 (ks.map reAV) 0]))=some (.sl false (ks.map reAV),mH b0 l uses s' K):=by
 have hr:getRow (mH b0 l uses s' (K++[.row 8 (ks.map reAV) 0])) (K.length+1+1)=some (8,ks.map reAV,0):=by
  simp[getRow]
 have hz:fz (.ms (K.length+1+1) 8 n 0 n) (mH b0 l uses s' (K++[.row 8 (ks.map reAV) 0]))=some (.sl false (ks.map reAV),mH b0 l uses s' (K++[.row 8 (ks.map reAV) n])):=by
  rw[fz_row hr (by rw[List.length_map];exact hn) (plain_kids ks)]
  unfold mark
  rw[hr]
  simp[set_last]
 have h1:=kept_mk (mH b0 l uses s K).length b0 (.row 5 [mkAV l uses s] 0) (.row 5 [mkAV l uses s'] 0) K [.row 8 (ks.map reAV) n] (by simp[MB.under,AV.underL,AV.under,underL_plain,plain_ints])
 unfold retPol
 rw[if_neg (by rw[hk];exact Bool.false_ne_true),if_neg (by rw[ho];exact Bool.false_ne_true)]
 simp only[hz,AV.under,underL_plain _ _ (plain_kids ks),h1,and_self,if_true]
 simp
abbrev TreeLaw (l:List Int) (uses:Int) (d:Nat):Prop:=∀(s:MS) (b0:MB) (K:List MB),Pre (mA1 d) (mS1 d) s→call Try.prog pol1 57 [.rf 1 1 0 0,I d] (mH b0 l uses s K)=some (reAV (treeF l uses d s).1,mH b0 l uses (treeF l uses d s).2 K)
abbrev TreeB (l:List Int) (uses:Int) (d:Nat):Prop:=∀ s:MS,Pre (mA1 d) (mS1 d) s→Post (mA1 d) (mS1 d) s (treeF l uses d s).2
theorem mA1_pos:∀ d,3≤mA1 d
 | 0=>by simp[mA1]
 | d+1=>by have:=mA1_pos d;simp only[mA1];omega
theorem mS1_pos:∀ d,1≤mS1 d
 | 0=>by simp[mS1]
 | d+1=>by have:=mS1_pos d;simp only[mS1];omega
theorem Pre.step {A S:Int} {s s':MS} {A' S' x y:Int} (h:Pre A S s) (p:Post x y s s') (ha:A' + x≤A) (hs:S' + y≤S):Pre A' S' s':=by
 obtain⟨h1,h2,h3⟩:=h
 obtain⟨p1,p2,p3⟩:=p
 exact⟨by omega,by omega,p3⟩
theorem Post.trans {s s' s'':MS} {x y x' y':Int} (p:Post x y s s') (q:Post x' y' s' s''):Post (x+x') (y+y') s s'':=by
 obtain⟨p1,p2,p3⟩:=p
 obtain⟨q1,q2,q3⟩:=q
 exact⟨by omega,by omega,q3⟩
theorem Post.up {s s':MS} {x y x' y':Int} (p:Post x y s s') (hx:x≤x') (hy:y≤y'):Post x' y' s s':=by
 obtain⟨p1,p2,p3⟩:=p
 exact⟨by omega,by omega,p3⟩
theorem nx_post (l:List Int) (n:Int) (s:MS) (hc:0≤s.caps∧s.caps≤4):Post 1 0 s (nx l n s).2:=⟨by simp only[nx];omega,by simp only[nx];omega,hc⟩
theorem setM_post (l:List Int) (s:MS) (hc:0≤s.caps∧s.caps≤4):Post 1 0 s (setM l s).2:=⟨by simp only[setM];omega,by simp only[setM];omega,hc⟩
theorem stK_post {l:List Int} {uses:Int} {d:Nat} (hb:TreeB l uses d) {s:MS} (hp:Pre (5+3 * mA1 d) (3 * mS1 d) s):∀ i:Nat,i≤3→Post (i+i * mA1 d) (i * mS1 d) s (stK l (treeF l uses d) s i).2
 | 0,_=>⟨by simp[stK],by simp[stK],by simpa [stK] using hp.c⟩
 | i+1,hi=>by
   have p:=stK_post hb hp i (by omega)
   have:=mA1_pos d
   have:=mS1_pos d
   have e1:((i+1:Nat):Int) * mA1 d=i * mA1 d+mA1 d:=by rw[Int.natCast_add,Int.add_mul];simp
   have e2:((i+1:Nat):Int) * mS1 d=i * mS1 d+mS1 d:=by rw[Int.natCast_add,Int.add_mul];simp
   have e3:(i:Int) * mA1 d≤2 * mA1 d:=Int.mul_le_mul_of_nonneg_right (by omega) (by omega)
   have e4:(i:Int) * mS1 d≤2 * mS1 d:=Int.mul_le_mul_of_nonneg_right (by omega) (by omega)
   have q:=p.trans (nx_post l 2 _ p.c)
   have r:=hb _ (hp.step q (by omega) (by omega))
   refine(q.trans r).up (by omega) (by omega)
theorem kidsF_post {l:List Int} {uses:Int} {d:Nat} (hb:TreeB l uses d) {s:MS} (hp:Pre (5+3 * mA1 d) (3 * mS1 d) s):Post (5+3 * mA1 d) (3 * mS1 d) s (kidsF l (treeF l uses d) s).2:=by
 have p2:=stK_post hb hp 2 (by omega)
 have p3:=stK_post hb hp 3 (by omega)
 have:=mA1_pos d
 have:=mS1_pos d
 unfold kidsF
 split
 ·exact(p3.trans (nx_post l 2 _ p3.c)).up (by omega) (by omega)
 ·exact(p2.trans (nx_post l 2 _ p2.c)).up (by omega) (by omega)
theorem stK_len (l:List Int) (tr:MS→Re×MS) (s:MS):∀ i,(stK l tr s i).1.length=i
 | 0=>rfl
 | i+1=>by simp[stK,stK_len l tr s i]
def mW1:Nat→Nat
 | 0=>3
 | d+1=>1+3 * mW1 d
theorem mW1_pos:∀ d,3≤mW1 d
 | 0=>by simp[mW1]
 | d+1=>by have:=mW1_pos d;simp only[mW1];omega
theorem smallS_len (j:Nat):(smallS.getD j []).length≤2:=by
 rw[List.getD_eq_getElem?_getD]
 cases h:smallS[j]? with
 | none=>simp
 | some x=>
   have hm:=List.mem_of_getElem? h
   have:∀ x∈smallS,x.length≤2:=by decide
   exact this x hm
theorem setM_wt (l:List Int) (s:MS):(setM l s).1.wt≤3:=by
 have:=smallS_len ((pickI l s.at_ 15).tdiv 2).toNat
 simp only[setM,Re.wt,Re.wtL]
 omega
theorem leafF_wt (l:List Int) (k:Int) (s:MS):(leafF l k s).1.wt≤3:=by
 unfold leafF
 split
 ·simp[Re.wt,Re.wtL]
 ·exact setM_wt l s
theorem Re.wtL_append:∀(a b:List Re),Re.wtL (a++b)=Re.wtL a+Re.wtL b
 | [],b=>by simp[Re.wtL]
 | k::ks,b=>by simp[Re.wtL,Re.wtL_append ks b];omega
theorem stK_wt {l:List Int} {tr:MS→Re×MS} {W:Nat} (h:∀ s,(tr s).1.wt≤W) (s:MS):∀ i,Re.wtL (stK l tr s i).1≤i * W
 | 0=>by simp[stK,Re.wtL]
 | i+1=>by
   have h1:=stK_wt (l:=l) h s i
   have h2:=h (nx l 2 (stK l tr s i).2).2
   simp only[stK,Re.wtL_append,Re.wtL,Nat.add_mul]
   omega
theorem kidsF_wt {l:List Int} {tr:MS→Re×MS} {W:Nat} (h:∀ s,(tr s).1.wt≤W) (s:MS):Re.wtL (kidsF l tr s).1≤3 * W:=by
 have h2:=stK_wt (l:=l) h s 2
 have h3:=stK_wt (l:=l) h s 3
 unfold kidsF
 split
 ·exact h3
 ·simp only;omega
theorem treeF_wt (l:List Int) (uses:Int):∀(d:Nat) (s:MS),(treeF l uses d s).1.wt≤mW1 d
 | 0,s=>leafF_wt l _ _
 | d+1,s=>by
   have h:=treeF_wt l uses d
   have hp:=mW1_pos d
   simp only[treeF,mW1]
   generalize (nx l 20 ⟨s.at_,s.left - 1,s.caps⟩).1=k
   generalize (nx l 20 ⟨s.at_,s.left - 1,s.caps⟩).2=s1
   have hk:=kidsF_wt (l:=l) h s1
   have hl:=leafF_wt l k s1
   have hs:=setM_wt l s1
   generalize treeF l uses d=tr at *
   have key:∀(c:Prop) [Decidable c] (x:Re×MS),x.1.wt≤mW1 d→(if c then setM l x.2 else x).1.wt≤mW1 d:=by
    intro c _ x hx
    have:=setM_wt l x.2
    split
    ·omega
    ·exact hx
   have hr:(repF l uses tr s1).1.wt≤1+3 * mW1 d:=by
    unfold repF
    simp only[Re.wt,Re.wtL,List.length_nil]
    exact Nat.le_trans (Nat.add_le_add_left (Nat.add_le_add_right (key _ _ (h _)) 0) _) (by omega)
   have hc:(capF l tr s1).1.wt≤1+3 * mW1 d:=by
    unfold capF
    simp only[Re.wt,Re.wtL,List.length_nil]
    have:∀ s,(tr s).1.wt≤mW1 d:=h
    refine Nat.le_trans (Nat.add_le_add_left (Nat.add_le_add_right (this _) 0) _) (by omega)
   unfold treeStep
   repeat' split
   all_goals first|omega|(simp only[Re.wt,Re.wtL,List.length_nil];first|omega|(have:=h s1;omega)|(have:=h (nx l 2 (nx l 3 s1).2).2;omega)|(have:=h (nx l s1.caps s1).2;have:=h (tr (nx l s1.caps s1).2).2;omega))
end
mutual
def genG (cap:Bool):Re→Bool
 | .mk op set kids mn mx md n neg=>(decide (op=0∨op=1∨op=2∨op=3∨op=4∨op=11) || (cap && decide (op=5))) && decide (md=0∨md=1) && !(decide (op=4) && nullHd kids) && genL cap kids
def genL (cap:Bool):List Re→Bool
 | []=>true
 | k::ks=>genG cap k && genL cap ks
end
theorem genL_iff (cap:Bool):∀ l:List Re,genL cap l=true↔∀ k∈l,genG cap k=true
 | []=>by simp[genL]
 | k::ks=>by simp[genL,genL_iff cap ks]
mutual
theorem gen_facts (cap:Bool):∀ r:Re,genG cap r=true→codable r=true∧noPoss r=true∧lpG r=true
 | .mk op set kids mn mx md n neg,h=>by
   simp only[genG,Bool.and_eq_true,Bool.or_eq_true,decide_eq_true_eq]at h
   obtain⟨a,b,c⟩:=genL_facts cap kids h.2
   refine⟨?_,?_,?_⟩
   ·rw[codable,a,Bool.and_true,Bool.or_eq_true,decide_eq_true_eq,beq_iff_eq];omega
   ·rw[noPoss,b,Bool.and_true,decide_eq_true_eq];omega
   ·rw[lpG,c,Bool.and_true];exact h.1.2
theorem genL_facts (cap:Bool):∀ l:List Re,genL cap l=true→codableL l=true∧noPossL l=true∧lpL l=true
 | [],_=>⟨rfl,rfl,rfl⟩
 | k::ks,h=>by
   rw[genL,Bool.and_eq_true]at h
   obtain⟨a,b,c⟩:=gen_facts cap k h.1
   obtain⟨a',b',c'⟩:=genL_facts cap ks h.2
   exact⟨by rw[codableL,a,a'];rfl,by rw[noPossL,b,b'];rfl,by rw[lpL,c,c'];rfl⟩
end
mutual
theorem gen_comp:∀(r:Re) (ins:List Int),genG false r=true→compG ins r=true
 | .mk op set kids mn mx md n neg,ins,h=>by
   simp only[genG,Bool.and_eq_true,Bool.or_eq_true,decide_eq_true_eq,Bool.false_and,Bool.false_eq_true,or_false]at h
   have hk:=genL_comp kids ins h.2
   have h4:=h.1.2
   rw[compG,if_neg,if_neg (by omega),if_neg (by omega)]
   ·exact hk
   ·rintro⟨rfl,h5|h5⟩
    ·omega
    ·rw[h5]at h4;simp at h4
theorem genL_comp:∀(l:List Re) (ins:List Int),genL false l=true→compL ins l=true
 | [],_,_=>rfl
 | k::ks,ins,h=>by
   rw[genL,Bool.and_eq_true]at h
   rw[compL,gen_comp k ins h.1,genL_comp ks ins h.2];rfl
end
theorem stK_all {P:Re→Prop} (l:List Int) {tr:MS→Re×MS} (h:∀ s,P (tr s).1) (s:MS):∀ i,∀ k∈(stK l tr s i).1,P k
 | 0,k,hk=>by simp[stK]at hk
 | i+1,k,hk=>by
   rw[stK]at hk
   rcases List.mem_append.1 hk with hk|hk
   ·exact stK_all l h s i k hk
   ·rw[List.mem_singleton.1 hk];exact h _
theorem stK_ln (l:List Int) (tr:MS→Re×MS) (s:MS):∀ i,(stK l tr s i).1.length=i
 | 0=>rfl
 | i+1=>by rw[stK,List.length_append,stK_ln l tr s i];rfl
theorem kidsF_all {P:Re→Prop} (l:List Int) {tr:MS→Re×MS} (h:∀ s,P (tr s).1) (s:MS):(∀ k∈(kidsF l tr s).1,P k)∧(kidsF l tr s).1.length≤3∧2≤(kidsF l tr s).1.length:=by
 unfold kidsF
 split
 ·exact⟨stK_all l h s 3,by rw[stK_ln];omega,by rw[stK_ln];omega⟩
 ·exact⟨stK_all l h s 2,by rw[stK_ln];omega,by rw[stK_ln];omega⟩
theorem gen_set (cap:Bool) (l:List Int) (s:MS):genG cap (setM l s).1=true:=by
 simp[setM,genG,genL]
theorem null_set (l:List Int) (s:MS):nullG (setM l s).1=false:=by
 unfold setM;simp only;rw[nullG];simp
structure Uses (uses:Int):Prop where
 u1:¬ 0 < andI uses 1
 u2:¬ 0 < andI uses 2
 u4:¬ 0 < andI uses 4
 u8:¬ 0 < andI uses 8
 u32:andI uses 32=0
theorem uses80:Uses 80:=⟨by decide,by decide,by decide,by decide,by decide⟩
theorem uses16:Uses 16:=⟨by decide,by decide,by decide,by decide,by decide⟩
theorem tree_gen {uses:Int} (hu:Uses uses) (l:List Int):∀ d s,genG (decide (0 < andI uses 64)) (treeF l uses d s).1=true
 | 0,s=>by
   rw[treeF];unfold leafF
   split
   ·simp[genG,genL]
   ·exact gen_set _ l _
 | d+1,s=>by
   have ih:=tree_gen hu l d
   have hk:=fun s=>kidsF_all (P:=fun k=>genG (decide (0 < andI uses 64)) k=true) l ih s
   rw[treeF]
   generalize nx l 20 ⟨s.at_,s.left - 1,s.caps⟩=Y
   obtain⟨k,s1⟩:=Y
   unfold treeStep
   simp only
   split
   ·unfold leafF
    split
    ·simp[genG,genL]
    ·exact gen_set _ l _
   split
   ·have:=(genL_iff (decide (0 < andI uses 64)) _).2 (hk s1).1
    simp[genG,this]
   split
   ·have:=(genL_iff (decide (0 < andI uses 64)) _).2 (hk s1).1
    simp[genG,this]
   split
   ·unfold repF
    simp only[if_neg hu.u8,hu.u32,true_and]
    have hm:=nx_val l (n:=2) (by omega) (nx l 12 s1).2
    generalize nx l 2 (nx l 12 s1).2=m at *
    have hm2:m.1=0∨m.1=1:=by omega
    by_cases hn:nullG (treeF l uses d m.2).1=true
    ·rw[if_pos hn]
     simp only[genG,genL,gen_set,nullHd,null_set]
     simp[hm2]
    ·rw[if_neg hn]
     simp only[genG,genL,ih,nullHd,hn]
     simp[hm2]
   split
   ·rename_i hc
    have hcap:∀(q:Int) (s:MS),genG (decide (0 < andI uses 64)) (.mk 5 [] [(treeF l uses d s).1] 0 0 0 q false)=true:=fun q s=>by
     have:=ih s
     simp only[hc.2,decide_true]at this ⊢
     simp[genG,genL,this]
    exact hcap _ _
   split
   ·simp[genG,genL]
   split
   ·rename_i hc;exact absurd hc.2 hu.u4
   split
   ·rename_i hc;exact absurd hc.2 hu.u8
   split
   ·rename_i hc;exact absurd hc.2.1 hu.u1
   split
   ·rename_i hc;exact absurd hc.2.1 hu.u2
   ·exact gen_set _ l _
mutual
def noAs:Re→Bool
 | .mk op set kids mn mx md n neg=>!decide (op=11) && noAsL kids
def noAsL:List Re→Bool
 | []=>true
 | k::ks=>noAs k && noAsL ks
end
theorem noAsL_iff:∀ l:List Re,noAsL l=true↔∀ k∈l,noAs k=true
 | []=>by simp[noAsL]
 | k::ks=>by simp[noAsL,noAsL_iff ks]
theorem noas_set (l:List Int) (s:MS):noAs (setM l s).1=true:=by
 simp[setM,noAs,noAsL]
theorem tree_noas {uses:Int} (hu:Uses uses) (ha:¬ 0 < andI uses 16) (l:List Int):∀ d s,noAs (treeF l uses d s).1=true
 | 0,s=>by
   rw[treeF];unfold leafF
   split
   ·simp[noAs,noAsL]
   ·exact noas_set l _
 | d+1,s=>by
   have ih:=tree_noas hu ha l d
   have hk:=fun s=>kidsF_all (P:=fun k=>noAs k=true) l ih s
   rw[treeF]
   generalize nx l 20 ⟨s.at_,s.left - 1,s.caps⟩=Y
   obtain⟨k,s1⟩:=Y
   unfold treeStep
   simp only
   split
   ·unfold leafF
    split
    ·simp[noAs,noAsL]
    ·exact noas_set l _
   split
   ·have:=(noAsL_iff _).2 (hk s1).1
    simp[noAs,this]
   split
   ·have:=(noAsL_iff _).2 (hk s1).1
    simp[noAs,this]
   split
   ·unfold repF
    simp only[if_neg hu.u8,hu.u32,true_and]
    have hm:=nx_val l (n:=2) (by omega) (nx l 12 s1).2
    generalize nx l 2 (nx l 12 s1).2=m at *
    have hm2:m.1=0∨m.1=1:=by omega
    by_cases hn:nullG (treeF l uses d m.2).1=true
    ·rw[if_pos hn]
     simp only[noAs,noAsL,noas_set,nullHd,null_set]
     simp[hm2]
    ·rw[if_neg hn]
     simp only[noAs,noAsL,ih,nullHd,hn]
     simp[hm2]
   split
   ·rename_i hc
    have hcap:∀(q:Int) (s:MS),noAs (.mk 5 [] [(treeF l uses d s).1] 0 0 0 q false)=true:=fun q s=>by
     simp[noAs,noAsL,ih s]
    exact hcap _ _
   split
   ·rename_i hc;exact absurd hc.2 ha
   split
   ·rename_i hc;exact absurd hc.2 hu.u4
   split
   ·rename_i hc;exact absurd hc.2 hu.u8
   split
   ·rename_i hc;exact absurd hc.2.1 hu.u1
   split
   ·rename_i hc;exact absurd hc.2.1 hu.u2
   ·exact noas_set l _
def mL1:Nat→Nat
 | 0=>1
 | d+1=>3 * mL1 d+4
theorem mL1_pos:∀ d,1≤mL1 d
 | 0=>Nat.le_refl _
 | d+1=>by rw[mL1];omega
theorem len_set (l:List Int) (s:MS):lenG (setM l s).1=1:=by simp[setM,lenG]
theorem lenL_le {M:Nat}:∀ l:List Re,(∀ k∈l,lenG k≤M)→lenL l≤l.length * M
 | [],_=>by simp[lenL]
 | k::ks,h=>by
   have h1:=h k (by simp)
   have h2:=lenL_le ks (fun q hq=>h q (by simp[hq]))
   rw[lenL,List.length_cons,Nat.add_mul];omega
theorem tree_len {uses:Int} (hu:Uses uses) (l:List Int):∀ d s,lenG (treeF l uses d s).1≤mL1 d
 | 0,s=>by
   rw[treeF];unfold leafF
   split
   ·simp[lenG,lenL]
   ·rw[len_set];exact Nat.le_refl _
 | d+1,s=>by
   have ih:=tree_len hu l d
   have hk:=fun s=>kidsF_all (P:=fun k=>lenG k≤mL1 d) l ih s
   have hp:=mL1_pos d
   have kl:∀ s,lenL (kidsF l (treeF l uses d) s).1≤3 * mL1 d:=fun s=>Nat.le_trans (lenL_le _ (hk s).1) (Nat.mul_le_mul_right _ (hk s).2.1)
   rw[treeF]
   generalize nx l 20 ⟨s.at_,s.left - 1,s.caps⟩=Y
   obtain⟨k,s1⟩:=Y
   have kl1:=kl s1
   have hk1:=(hk s1).2
   unfold treeStep
   simp only
   rw[show mL1 (d+1)=3 * mL1 d+4 from rfl]
   split
   ·unfold leafF
    split
    ·simp[lenG,lenL]
    ·rw[len_set];omega
   split
   ·simp[lenG];omega
   split
   ·simp[lenG];omega
   split
   ·unfold repF
    simp only[if_neg hu.u8,hu.u32,true_and]
    have h12:=nx_val l (n:=12) (by omega) s1
    generalize (nx l 12 s1)=q at *
    have hkid:∀ s,lenG (if nullG (treeF l uses d s).1=true then setM l (treeF l uses d s).2 else treeF l uses d s).1≤mL1 d:=fun s=>by
     split
     ·rw[len_set];omega
     ·exact ih s
    have h1:=hkid (nx l 2 q.2).2
    generalize (if nullG (treeF l uses d (nx l 2 q.2).2).1=true then setM l (treeF l uses d (nx l 2 q.2).2).2 else treeF l uses d (nx l 2 q.2).2).1=kid at *
    obtain⟨q1,q2⟩:=q
    simp only at h12 ⊢
    have:q1=0∨q1=1∨q1=2∨q1=3∨q1=4∨q1=5∨q1=6∨q1=7∨q1=8∨q1=9∨q1=10∨q1=11:=by omega
    rcases this with rfl|rfl|rfl|rfl|rfl|rfl|rfl|rfl|rfl|rfl|rfl|rfl<;>simp[lenG,lenL]<;>omega
   split
   ·unfold capF
    have hcap:∀(q:Int) (s:MS),lenG (.mk 5 [] [(treeF l uses d s).1] 0 0 0 q false)≤3 * mL1 d+4:=fun q s=>by
     have:=ih s
     simp[lenG,lenL];omega
    exact hcap _ _
   split
   ·simp[lenG]
   split
   ·rename_i hc;exact absurd hc.2 hu.u4
   split
   ·rename_i hc;exact absurd hc.2 hu.u8
   split
   ·rename_i hc;exact absurd hc.2.1 hu.u1
   split
   ·rename_i hc;exact absurd hc.2.1 hu.u2
   ·rw[len_set];omega
end Go.Ev
namespace Go.Ev
attribute [local go_sem] evBin AV.cells frzB List.length_append tySzE List.head?_drop Nat.mul_one sameAt_zero sameAt_two sameAt_three sameAt_four sameAt_five room_ok
section
open Go.Proofs Go.RowKit Go.IntWalk
set_option maxRecDepth 100000
set_option maxHeartbeats 8000000
section
variable (k:IntKind) (a b:Int)
theorem evBin_add':evBin .add k a b=some (.int k (k.wrap (a+b))):=rfl
theorem evBin_sub':evBin .sub k a b=some (.int k (k.wrap (a - b))):=rfl
theorem evBin_eql':evBin .eql k a b=some (.bool (a == b)):=rfl
theorem evBin_neq':evBin .neq k a b=some (.bool (a != b)):=rfl
theorem evBin_lss':evBin .lss k a b=some (.bool (decide (a < b))):=rfl
theorem evBin_gtr':evBin .gtr k a b=some (.bool (decide (a > b))):=rfl
end
section
variable {α:Type} (K:List α) (a b c x:α)
theorem ex1:∃ L,K++[a]=K++L:=⟨_,rfl⟩
theorem ex2:∃ L,K++[a]++[b]=K++L:=⟨[a,b],by simp⟩
theorem ex3:∃ L,K++[a]++[b]++[c]=K++L:=⟨[a,b,c],by simp⟩
theorem get_l2a:(K++[a]++[b])[K.length]?=some a:=by simp
theorem get_l2b:(K++[a]++[b])[K.length+1]?=some b:=by simp
theorem set_l2a:(K++[a]++[b]).set K.length x=K++[x]++[b]:=by simp
theorem set_l2b:(K++[a]++[b]).set (K.length+1) x=K++[a]++[x]:=by simp[List.set_append]
theorem get_l3a:(K++[a]++[b]++[c])[K.length]?=some a:=by simp
theorem get_l3b:(K++[a]++[b]++[c])[K.length+1]?=some b:=by simp[List.getElem?_append]
theorem get_l3c:(K++[a]++[b]++[c])[K.length+1+1]?=some c:=by
 rw[List.getElem?_append_right (by simp)]
 simp
theorem set_l3a:(K++[a]++[b]++[c]).set K.length x=K++[x]++[b]++[c]:=by simp
theorem set_l3b:(K++[a]++[b]++[c]).set (K.length+1) x=K++[a]++[x]++[c]:=by simp[List.set_append]
theorem set_l3c:(K++[a]++[b]++[c]).set (K.length+1+1) x=K++[a]++[b]++[x]:=by
 rw[List.set_append_right _ _ (by simp)]
 simp
end
theorem ret_mkx {f:Nat} (hk:pol1.keep f=false) (ho:pol1.own f=false) {l:List Int} {uses:Int} (s s':MS) {b0:MB} {K M:List MB} (hM:∃ L,M=K++L) {r r':AV} (hz:∀ H,fz r H=some (r',H)) (hp:AV.plain r' = true) :
  retPol pol1 f (mH b0 l uses s K) r (mH b0 l uses s' M)=some (r',mH b0 l uses s' K):=by
 obtain⟨L,rfl⟩:=hM
 exact ret_mk hk ho hz hp
theorem ret_node {f:Nat} (hk:pol1.keep f=false) (ho:pol1.own f=false) {l:List Int} {uses:Int} (s s':MS) {b0:MB} {K M:List MB} (hM:∃ L,M=K++L) (a b:Bool) (op:Int) (set:List (Int×Int)) (kids:List Re) (mn mx md n:Int) (neg:Bool) :
  retPol pol1 f (mH b0 l uses s K) (.agg [I op,.sl a (set.map spanAV),.sl b (kids.map reAV),I mn,I mx,I md,I n,.bool neg]) (mH b0 l uses s' M)=some (reAV (.mk op set kids mn mx md n neg),mH b0 l uses s' K):=by
 rw[ret_mkx hk ho s s' hM (fz_node a b op set kids mn mx md n neg) (by simp[AV.plain,AV.plainL,plain_span,plain_kids])]
 rw[show reAV (.mk op set kids mn mx md n neg)=.agg (nodeL op set kids mn mx md n neg) from congrArg AV.agg reC_mk]
section
variable {l:List Int} (hl:∀ x∈l,In64 x) {uses:Int} {d:Nat} (hd:d≤5) (ht:TreeLaw l uses d) (hb:TreeB l uses d)
include hl hd ht hb
theorem f99 (s:MS) (hp:Pre (5+3 * mA1 d) (3 * mS1 d) s) (b0:MB) (K:List MB) :
  call Try.prog pol1 72 [.rf 1 1 0 0,I ((d+1:Nat):Int)] (mH b0 l uses s K)=some (.sl false ((kidsF l (treeF l uses d) s).1.map reAV),mH b0 l uses (kidsF l (treeF l uses d) s).2 K):=by
 have fr:frzArgs pol1 72 0 [.rf 1 1 0 0,I ((d+1:Nat):Int)] (mH b0 l uses s K)=some ([.rf 1 1 0 0,I ((d+1:Nat):Int)],mH b0 l uses s K):=frzArgs_mix _ _ _ rfl
 have hA:=mA1_pos d
 have hS:=mS1_pos d
 have hpost:=fun i hi=>stK_post hb hp i hi
 have hmul:∀ i n:Nat,i≤n→(i:Int) * mA1 d≤n * mA1 d∧(i:Int) * mS1 d≤n * mS1 d:=fun i n hi=>⟨Int.mul_le_mul_of_nonneg_right (by omega) (by omega),Int.mul_le_mul_of_nonneg_right (by omega) (by omega)⟩
 have hlen:=fun i=>stK_len l (treeF l uses d) s i
 refine call_run2 (pol:=pol1) Try.func72 rfl rfl rfl rfl fr ?_
 obtain⟨N,hN,hN2,hval⟩:∃ N:Nat,2≤N∧N≤3∧kidsF l (treeF l uses d) s=((stK l (treeF l uses d) s N).1,(nx l 2 (stK l (treeF l uses d) s N).2).2)∧(N=3→(nx l 2 (stK l (treeF l uses d) s 2).2).1=1)∧(N=2→(nx l 2 (stK l (treeF l uses d) s 2).2).1≠1):=by
  unfold kidsF
  by_cases h:(nx l 2 (stK l (treeF l uses d) s 2).2).1=1
  ·exact⟨3,by omega,by omega,if_pos h,fun _=>h,fun h=>by omega⟩
  ·exact⟨2,by omega,by omega,if_neg h,fun h=>by omega,fun _=>h⟩
 obtain⟨hval,h3,h2⟩:=hval
 rw[hval]
 simp +contextual (disch:=omega) only[Try.f72,dd72,go_sem,simprocAttr,evAppend,List.map_append,mu72,↓wrap_up,↓wrap_down,↓wrap_pred,↓wrap_sub_nat]
 refine W_count (M:=(mskOf (pol1.mask 72) (pol1.gc 72) (pol1.acts 72) 0 3)) rfl N (fun i=>(⟨22,[(6,I i),(5,.ms (K.length+1+1) 8 i 0 i),(1,I ((d+1:Nat):Int)),(0,.rf 1 1 0 0)],mH b0 l uses (stK l (treeF l uses d) s i).2 (K++[.row 8 ((stK l (treeF l uses d) s i).1.map reAV) 0])⟩:St)) (fun _=>True) ?_ ?_ trivial _ (by rfl)
 ·intro i hi _
  have pi:=hpost i (by omega)
  have hmi:=hmul i 2 (by omega)
  have hli:=hlen i
  have e:stK l (treeF l uses d) s (i+1)=((stK l (treeF l uses d) s i).1++[(treeF l uses d (nx l 2 (stK l (treeF l uses d) s i).2).2).1],(treeF l uses d (nx l 2 (stK l (treeF l uses d) s i).2).2).2):=rfl
  rw[e]
  have hv2:i=2→(nx l 2 (stK l (treeF l uses d) s i).2).1=1:=fun h=>by subst h;exact h3 (by omega)
  generalize stK l (treeF l uses d) s i=X at *
  obtain⟨ks,si⟩:=X
  simp only at pi hli hv2 ⊢
  obtain⟨pa,pl,pc⟩:=pi
  obtain⟨qa,ql,qc⟩:=hp
  have h97:=fun K=>f97 l hl uses 2 (by omega) si ⟨by omega,by omega⟩ b0 K
  have hv:=nx_val l (n:=2) (by omega) si
  have hq:=nx_post l 2 si pc
  generalize nx l 2 si=Y at *
  obtain⟨v,sj⟩:=Y
  simp only at h97 hv hq hv2 ⊢
  obtain⟨ra,rl,rc⟩:=hq
  have h44:=fun K=>ht sj b0 K ⟨by omega,by omega,rc⟩
  generalize treeF l uses d sj=Z at *
  obtain⟨r,sk⟩:=Z
  simp only at h44 ⊢
  have hap:=fun s=>app_re (H:=mH b0 l uses s (K++[.row 8 (ks.map reAV) 0])) (i:=K.length+1+1) (n:=i) (t:=true) (y:=reAV r) (z:=0) (els:=ks.map reAV) (by simp[getRow]) (by rw[List.length_map];exact hli) (by simp[AV.cells,reC_len,reC_ok]) (Nat.zero_le _) (by omega)
  simp +contextual (disch:=omega) only[Try.f72,dd72,go_sem,simprocAttr,mu72,↓wrap_up,↓wrap_down,↓wrap_pred,↓wrap_sub_nat,h97,h44,hap,get_last,set_last,reC_len,reC_ok,reC_take,reC_drop,List.append_nil]
  rw[List.map_append]
  rfl
 ·intro _
  have pi:=hpost N (by omega)
  have hmi:=hmul N 3 (by omega)
  have hli:=hlen N
  have hv2:N=2→(nx l 2 (stK l (treeF l uses d) s N).2).1≠1:=fun h=>by rw[h];exact h2 h
  generalize stK l (treeF l uses d) s N=X at *
  obtain⟨ks,si⟩:=X
  simp only at pi hli hv2 ⊢
  obtain⟨pa,pl,pc⟩:=pi
  obtain⟨qa,ql,qc⟩:=hp
  have h97:=fun K=>f97 l hl uses 2 (by omega) si ⟨by omega,by omega⟩ b0 K
  have hv:=nx_val l (n:=2) (by omega) si
  generalize nx l 2 si=Y at *
  obtain⟨v,sj⟩:=Y
  simp only at h97 hv hv2 ⊢
  have hvn:¬ (N:Int) < 2+v:=by omega
  simp +contextual (disch:=omega) only[Try.f72,dd72,go_sem,simprocAttr,mu72,↓wrap_up,↓wrap_down,↓wrap_pred,↓wrap_sub_nat,h97,get_last,set_last,reC_len,reC_ok,reC_take,reC_drop,List.append_nil]
  exact ret_kids rfl rfl hli
theorem f100 (s:MS) (hp:Pre (5+3 * mA1 d) (3 * mS1 d) s) (b0:MB) (K:List MB) :
  call Try.prog pol1 73 [.rf 1 1 0 0,I ((d+1:Nat):Int)] (mH b0 l uses s K)=some (reAV (repF l uses (treeF l uses d) s).1,mH b0 l uses (repF l uses (treeF l uses d) s).2 K):=by
 have fr:frzArgs pol1 73 0 [.rf 1 1 0 0,I ((d+1:Nat):Int)] (mH b0 l uses s K)=some ([.rf 1 1 0 0,I ((d+1:Nat):Int)],mH b0 l uses s K):=frzArgs_mix _ _ _ rfl
 have hA:=mA1_pos d
 have hS:=mS1_pos d
 unfold repF
 obtain⟨qa,ql,qc⟩:=hp
 have h97a:=fun K=>f97 l hl uses 12 (by omega) s ⟨by omega,by omega⟩ b0 K
 have hk:=nx_val l (n:=12) (by omega) s
 have p1:=nx_post l 12 s qc
 generalize nx l 12 s=Y at *
 obtain⟨k,s1⟩:=Y
 simp only at h97a hk p1 ⊢
 obtain⟨kn,rfl⟩:∃ kn:Nat,k=kn:=⟨k.toNat,by omega⟩
 obtain⟨hm1,hm2⟩:[I 0,I 0,I 0,I 0,I 1,I 1,I 1,I 0,I 2,I 0,I 1,I 2][kn]?=some (I (([0,0,0,0,1,1,1,0,2,0,1,2]:List Int).getD kn 0))∧[I (-1),I (-1),I (-1),I 1,I (-1),I (-1),I 2,I 2,I 2,I 3,I 1,I (-1)][kn]?=some (I (([-1,-1,-1,1,-1,-1,2,2,2,3,1,-1]:List Int).getD kn 0)):=by
  have:kn=0∨kn=1∨kn=2∨kn=3∨kn=4∨kn=5∨kn=6∨kn=7∨kn=8∨kn=9∨kn=10∨kn=11:=by omega
  rcases this with rfl|rfl|rfl|rfl|rfl|rfl|rfl|rfl|rfl|rfl|rfl|rfl<;>exact⟨rfl,rfl⟩
 simp only[Int.toNat_natCast]
 generalize ([0,0,0,0,1,1,1,0,2,0,1,2]:List Int).getD kn 0=mn at *
 generalize ([-1,-1,-1,1,-1,-1,2,2,2,3,1,-1]:List Int).getD kn 0=mx at *
 have h97b:=fun K=>f97 l hl uses 2 (by omega) s1 ⟨by have:=p1.a;omega,by have:=p1.a;omega⟩ b0 K
 have p2:=p1.trans (nx_post l 2 s1 p1.c)
 generalize nx l 2 s1=Y at *
 obtain⟨md,s2⟩:=Y
 simp only at h97b p2 ⊢
 have h97c:=fun K=>f97 l hl uses 4 (by omega) s2 ⟨by have:=p2.a;omega,by have:=p2.a;omega⟩ b0 K
 have p3':=p2.trans (nx_post l 4 s2 p2.c)
 obtain⟨m,s3,hm,p3,hms⟩:∃ m s3,(if 0 < andI uses 8 then(if(nx l 4 s2).1=0 then(2:Int) else md,(nx l 4 s2).2) else(md,s2))=(m,s3)∧Post (1+1+1) (0+0+0) s s3 ∧
   ((¬ 0 < andI uses 8∧m=md∧s3=s2)∨(0 < andI uses 8∧(nx l 4 s2).1=0∧m=2∧s3=(nx l 4 s2).2)∨(0 < andI uses 8∧(nx l 4 s2).1≠0∧m=md∧s3=(nx l 4 s2).2)):=by
  by_cases u:0 < andI uses 8
  ·rw[if_pos u]
   by_cases x0:(nx l 4 s2).1=0
   ·rw[if_pos x0];exact⟨_,_,rfl,p3',.inr (.inl ⟨u,x0,rfl,rfl⟩)⟩
   ·rw[if_neg x0];exact⟨_,_,rfl,p3',.inr (.inr ⟨u,x0,rfl,rfl⟩)⟩
  ·rw[if_neg u];exact⟨_,_,rfl,p2.up (by omega) (by omega),.inl ⟨u,rfl,rfl⟩⟩
 rw[hm]
 clear hm p3'
 simp only
 generalize nx l 4 s2=Y at *
 obtain⟨x,s2'⟩:=Y
 simp only at h97c hms ⊢
 have hpre:Pre (mA1 d) (mS1 d) s3:=⟨⟨by have:=p3.a;omega,by have:=p3.a;omega⟩,⟨by have:=p3.l;omega,by have:=p3.l;omega⟩,p3.c⟩
 have hw6:mW1 d≤1000000:=by
  have:d=0∨d=1∨d=2∨d=3∨d=4∨d=5:=by omega
  rcases this with rfl|rfl|rfl|rfl|rfl|rfl<;>decide
 have h44:=fun K=>ht s3 b0 K hpre
 have p4:=hb s3 hpre
 have h20:=f20 (treeF l uses d s3).1.wt (treeF l uses d s3).1 (Nat.le_refl _) (Nat.le_trans (treeF_wt l uses d s3) hw6)
 generalize treeF l uses d s3=Y at *
 obtain⟨r,s4⟩:=Y
 simp only at h44 p4 h20 ⊢
 have h98:=fun K=>f98 l hl uses s4 ⟨by have:=p3.a;have:=p4.a;omega,by have:=p3.a;have:=p4.a;omega⟩ b0 K
 obtain⟨X,hX,hXc⟩:∃ X,(if andI uses 32=0∧nullG r=true then setM l s4 else(r,s4))=X∧((andI uses 32≠0∧X=(r,s4))∨(andI uses 32=0∧nullG r=true∧X=setM l s4)∨(andI uses 32=0∧nullG r=false∧X=(r,s4))):=by
  by_cases u:andI uses 32=0
  ·cases hn:nullG r with
   | true=>exact⟨_,if_pos ⟨u,rfl⟩,.inr (.inl ⟨u,rfl,rfl⟩)⟩
   | false=>exact⟨_,if_neg (by simp),.inr (.inr ⟨u,rfl,rfl⟩)⟩
  ·exact⟨_,if_neg (fun h=>u h.1),.inl ⟨u,rfl⟩⟩
 rw[hX]
 clear hX
 generalize setM l s4=Y at *
 obtain⟨r5,s5⟩:=Y
 simp only at h98
 refine call_run2 (pol:=pol1) Try.func73 rfl rfl rfl rfl fr ?_
 rcases hms with ⟨u8,rfl,rfl⟩|⟨u8,rfl,rfl,rfl⟩|⟨u8,x0,rfl,rfl⟩<;>rcases hXc with ⟨u32,rfl⟩|⟨u32,hn,rfl⟩|⟨u32,hn,rfl⟩
 all_goals try rw[hn]at h20
 all_goals simp +contextual (disch:=omega) only[Try.f73,dd73,go_sem,simprocAttr,evAppend,List.map_append,mu73,↓wrap_up,↓wrap_down,↓wrap_pred,↓wrap_sub_nat,h97a,h97b,h97c,h44,h20,h98,hm1,hm2,↓evBin_and,get_last,set_last,get_l2a,get_l2b,set_l2a,set_l2b,get_l3a,get_l3b,get_l3c,set_l3a,set_l3b,set_l3c,reC_len,reC_ok,reC_take,reC_drop,List.append_nil]
 all_goals repeat' (first|intro _|apply And.intro|(unfold dOk;kernel_rfl)|exact St.beq_refl _|(show altO _ _ _ _=true;kernel_rfl)|(show (_ || _)=true;kernel_rfl)|(show (_ && _)=true;kernel_rfl))
 all_goals exact ret_node (by rfl) (by rfl) s _ (ex3 ..) true true 4 [] [_] _ _ _ 0 false
theorem f101 (s:MS) (hp:Pre (5+3 * mA1 d) (3 * mS1 d) s) (b0:MB) (K:List MB) :
  call Try.prog pol1 74 [.rf 1 1 0 0,I ((d+1:Nat):Int)] (mH b0 l uses s K)=some (reAV (capF l (treeF l uses d) s).1,mH b0 l uses (capF l (treeF l uses d) s).2 K):=by
 have _:=hb
 have fr:frzArgs pol1 74 0 [.rf 1 1 0 0,I ((d+1:Nat):Int)] (mH b0 l uses s K)=some ([.rf 1 1 0 0,I ((d+1:Nat):Int)],mH b0 l uses s K):=frzArgs_mix _ _ _ rfl
 have hA:=mA1_pos d
 have hS:=mS1_pos d
 unfold capF
 obtain⟨qa,ql,qc⟩:=hp
 have h97a:=fun K=>f97 l hl uses 9 (by omega) s ⟨by omega,by omega⟩ b0 K
 have p1:=nx_post l 9 s qc
 have hmx1:(if s.caps > 1 then s.caps else 1)=max 1 s.caps:=by split<;>omega
 have c1:(nx l 9 s).2.caps=s.caps:=rfl
 generalize nx l 9 s=Y at *
 obtain⟨x,s1⟩:=Y
 simp only at h97a p1 c1 ⊢
 obtain⟨b,s2,hps,p2,c2,hc⟩:∃(b:Bool) (s2:MS),(if 4 < s.caps+1 then(true,s) else if 0 < s.caps then(decide (x=0),s1) else(false,s))=(b,s2)∧Post 1 0 s s2∧s2.caps=s.caps ∧
   ((4 < s.caps+1∧b=true∧s2=s)∨(¬ 4 < s.caps+1∧0 < s.caps∧x=0∧b=true∧s2=s1)∨(¬ 4 < s.caps+1∧0 < s.caps∧x≠0∧b=false∧s2=s1)∨(¬ 4 < s.caps+1∧¬ 0 < s.caps∧b=false∧s2=s)):=by
  have p0:Post 1 0 s s:=⟨by omega,by omega,qc⟩
  by_cases h1:4 < s.caps+1
  ·rw[if_pos h1];exact⟨_,_,rfl,p0,rfl,.inl ⟨h1,rfl,rfl⟩⟩
  ·rw[if_neg h1]
   by_cases h2:0 < s.caps
   ·rw[if_pos h2]
    by_cases h3:x=0
    ·exact⟨true,s1,by rw[decide_eq_true h3],p1,c1,.inr (.inl ⟨h1,h2,h3,rfl,rfl⟩)⟩
    ·exact⟨false,s1,by rw[decide_eq_false h3],p1,c1,.inr (.inr (.inl ⟨h1,h2,h3,rfl,rfl⟩))⟩
   ·rw[if_neg h2];exact⟨_,_,rfl,p0,rfl,.inr (.inr (.inr ⟨h1,h2,rfl,rfl⟩))⟩
 rw[hps]
 clear hps
 simp only
 have hm1:0 < max 1 s2.caps:=by omega
 have h97b:=fun K=>f97 l hl uses (max 1 s2.caps) (by omega) s2 ⟨by have:=p2.a;omega,by have:=p2.a;omega⟩ b0 K
 have p3:=p2.trans (nx_post l (max 1 s2.caps) s2 p2.c)
 have hv:=nx_val l hm1 s2
 have c3:(nx l (max 1 s2.caps) s2).2.caps=s2.caps:=rfl
 generalize hY:nx l (max 1 s2.caps) s2=Y at *
 obtain⟨y,s3⟩:=Y
 clear hY
 simp only at h97b p3 hv c3 ⊢
 rw[c2]at h97b hv c3
 obtain⟨m,s4,hms,p4,c4,hmb,hc2⟩:∃(m:Int) (s4:MS),(if b=true then(1+y,s3) else(s.caps+1,s2))=(m,s4)∧Post 2 0 s s4∧s4.caps=s.caps∧(0≤m∧m≤4)∧((b=true∧m=1+y∧s4=s3)∨(b=false∧m=s.caps+1∧s4=s2)):=by
  cases b with
  | true=>exact⟨_,_,if_pos rfl,p3,c3,by omega,.inl ⟨rfl,rfl,rfl⟩⟩
  | false=>
    refine⟨_,_,if_neg Bool.false_ne_true,p2.up (by omega) (by omega),c2,?_,.inr ⟨rfl,rfl,rfl⟩⟩
    rcases hc with h|h|h|h<;>first|omega|(simp at h;done)|(simp at h;omega)
 rw[hms]
 clear hms
 simp only
 have hmx2:(if m > s.caps then m else s.caps)=max s.caps m:=by split<;>omega
 have hpre:Pre (mA1 d) (mS1 d) ⟨s4.at_,s4.left,max s.caps m⟩:=⟨⟨by have:=p4.a;simp only;omega,by have:=p4.a;simp only;omega⟩,⟨by have:=p4.l;simp only;omega,by have:=p4.l;simp only;omega⟩,by simp only;omega⟩
 have h44:=fun K=>ht _ b0 K hpre
 rw[c4]
 generalize treeF l uses d ⟨s4.at_,s4.left,max s.caps m⟩=Y at *
 obtain⟨r,s5⟩:=Y
 simp only at h44 ⊢
 have fin:∀(M:List MB),(∃ L,M=K++L)→retPol pol1 74 (mH b0 l uses s K) (.agg [I 5,.sl true [],.sl true [reAV r],I 0,I 0,I 0,I m,.bool false]) (mH b0 l uses s5 M)=some (reAV (.mk 5 [] [r] 0 0 0 m false),mH b0 l uses s5 K):=fun M hM=>
  ret_node (by rfl) (by rfl) s s5 hM true true 5 [] [r] 0 0 0 m false
 refine call_run2 (pol:=pol1) Try.func74 rfl rfl rfl rfl fr ?_
 rcases hc with ⟨g1,rfl,rfl⟩|⟨g1,g2,g3,rfl,rfl⟩|⟨g1,g2,g3,rfl,rfl⟩|⟨g1,g2,rfl,rfl⟩<;>rcases hc2 with ⟨g4,rfl,rfl⟩|⟨g4,rfl,rfl⟩<;>(try cases g4)
 ·rw[show max 1 s2.caps=s2.caps by omega]at h97b
  simp +contextual (disch:=omega) only[Try.f74,dd74,go_sem,simprocAttr,evAppend,List.map_append,mu74,↓wrap_up,↓wrap_down,↓wrap_pred,↓wrap_sub_nat,h97a,h97b,h44,hmx1,hmx2,c1,c2,c3,evMax,get_last,set_last,reC_len,reC_ok,reC_take,reC_drop,List.append_nil]
  repeat' (first|intro _|apply And.intro|(unfold dOk;kernel_rfl)|exact St.beq_refl _|(show altO _ _ _ _=true;kernel_rfl)|(show (_ || _)=true;kernel_rfl)|(show (_ && _)=true;kernel_rfl))
  exact fin _ (ex1 ..)
 ·simp +contextual (disch:=omega) only[Try.f74,dd74,go_sem,simprocAttr,evAppend,List.map_append,mu74,↓wrap_up,↓wrap_down,↓wrap_pred,↓wrap_sub_nat,h97a,h97b,h44,hmx1,hmx2,c1,c2,c3,evMax,get_last,set_last,reC_len,reC_ok,reC_take,reC_drop,List.append_nil]
  repeat' (first|intro _|apply And.intro|(unfold dOk;kernel_rfl)|exact St.beq_refl _|(show altO _ _ _ _=true;kernel_rfl)|(show (_ || _)=true;kernel_rfl)|(show (_ && _)=true;kernel_rfl))
  exact fin _ (ex1 ..)
 ·first|rw[show max s.caps (s.caps+1)=s.caps+1 by omega]at h44|rw[show max s2.caps (s2.caps+1)=s2.caps+1 by omega]at h44|rw[show max s4.caps (s4.caps+1)=s4.caps+1 by omega]at h44
  simp +contextual (disch:=omega) only[Try.f74,dd74,go_sem,simprocAttr,evAppend,List.map_append,mu74,↓wrap_up,↓wrap_down,↓wrap_pred,↓wrap_sub_nat,h97a,h97b,h44,hmx1,hmx2,c1,c2,c3,evMax,get_last,set_last,reC_len,reC_ok,reC_take,reC_drop,List.append_nil]
  repeat' (first|intro _|apply And.intro|(unfold dOk;kernel_rfl)|exact St.beq_refl _|(show altO _ _ _ _=true;kernel_rfl)|(show (_ || _)=true;kernel_rfl)|(show (_ && _)=true;kernel_rfl))
  exact fin _ (ex1 ..)
 ·first|rw[show max s.caps (s.caps+1)=s.caps+1 by omega]at h44|rw[show max s2.caps (s2.caps+1)=s2.caps+1 by omega]at h44|rw[show max s4.caps (s4.caps+1)=s4.caps+1 by omega]at h44
  simp +contextual (disch:=omega) only[Try.f74,dd74,go_sem,simprocAttr,evAppend,List.map_append,mu74,↓wrap_up,↓wrap_down,↓wrap_pred,↓wrap_sub_nat,h97a,h97b,h44,hmx1,hmx2,c1,c2,c3,evMax,get_last,set_last,reC_len,reC_ok,reC_take,reC_drop,List.append_nil]
  repeat' (first|intro _|apply And.intro|(unfold dOk;kernel_rfl)|exact St.beq_refl _|(show altO _ _ _ _=true;kernel_rfl)|(show (_ || _)=true;kernel_rfl)|(show (_ && _)=true;kernel_rfl))
  exact fin _ (ex1 ..)
end
end
end Go.Ev
