/- The patterns of the statement on forks: valid, without assertions. Plain. -/
import Derived.Test.YtmfpcondongbjaaGreatF21
import Derived.Test.YtmfpcondongbjaaGreatF14
import Derived.Test.YtmfpcondongbjaaGreatF18
import Derived.Test.YtmfpcondongbjaaGreatF07
set_option linter.unusedVariables false
set_option linter.unusedSimpArgs false
namespace Go.Ev
mutual
def noAs:Re→Bool
 | .mk op set kids mn mx md n neg=>!decide (op=11) && noAsL kids
def noAsL:List Re→Bool
 | []=>true
 | k::ks=>noAs k && noAsL ks
end
theorem noAsL_iff:∀ l:List Re,noAsL l=true↔∀ k∈l,noAs k=true
 | []=>by simp[noAsL]
 | k::ks=>by simp[noAsL,noAsL_iff ks]
def No5 (l:List Ins):Prop:=∀ i∈l,i.op≠5
theorem No5.nil:No5 []:=fun i h=>by cases h
theorem No5.cons {x:Ins} {l:List Ins} (h:x.op≠5) (h2:No5 l):No5 (x::l):=fun i hi=>by
 rcases List.mem_cons.1 hi with rfl|hi
 ·exact h
 ·exact h2 i hi
theorem No5.app {l m:List Ins} (h:No5 l) (h2:No5 m):No5 (l++m):=fun i hi=>by
 rcases List.mem_append.1 hi with hi|hi
 ·exact h i hi
 ·exact h2 i hi
theorem No5.flat {l:List Nat} {f:Nat→List Ins} (h:∀ n,No5 (f n)):No5 (l.flatMap f):=fun i hi=>by
 obtain⟨n,_,h2⟩:=List.mem_flatMap.1 hi
 exact h n i h2
theorem split5 (md a b:Int):(insSplit md a b).op≠5:=by
 unfold insSplit;split<;>simp
mutual
theorem code_no5:∀(r:Re) (f:Nat),noAs r=true→No5 (codeG r f)
 | .mk op set kids mn mx md n neg,f,h=>by
   rw[noAs,Bool.and_eq_true]at h
   have h11:op≠11:=by simpa using h.1
   have hC:=fun f=>codeCat_no5 kids f h.2
   have hA:=fun f=>codeAlt_no5 kids f h.2
   have hH:=fun f=>codeHd_no5 kids f h.2
   rw[codeG]
   by_cases o1:op=1
   ·rw[if_pos o1];exact .cons (by simp) .nil
   rw[if_neg o1,if_neg h11]
   by_cases o2:op=2
   ·rw[if_pos o2];exact hC f
   rw[if_neg o2]
   by_cases o3:op=3
   ·rw[if_pos o3];exact hA f
   rw[if_neg o3]
   by_cases o5:op=5
   ·rw[if_pos o5];exact .cons (by simp) (.app (hH _) (.cons (by simp) .nil))
   rw[if_neg o5]
   by_cases o4:op=4
   ·rw[if_pos o4]
    simp only
    split
    ·exact .app (.flat fun i=>hH _) (.cons (split5 _ _ _) (.app (hH _) (.cons (by simp) .nil)))
    ·exact .app (.flat fun i=>hH _) (.flat fun j=>.cons (split5 _ _ _) (hH _))
   ·rw[if_neg o4];exact .nil
theorem codeCat_no5:∀(l:List Re) (f:Nat),noAsL l=true→No5 (codeCat l f)
 | [],f,_=>by rw[codeCat];exact .nil
 | k::ks,f,h=>by
   rw[noAsL,Bool.and_eq_true]at h
   rw[codeCat]
   exact .app (code_no5 k f h.1) (codeCat_no5 ks _ h.2)
theorem codeAlt_no5:∀(l:List Re) (f:Nat),noAsL l=true→No5 (codeAlt l f)
 | [],f,_=>by rw[codeAlt];exact .nil
 | k::ks,f,h=>by
   rw[noAsL,Bool.and_eq_true]at h
   rw[codeAlt]
   split
   ·exact code_no5 k f h.1
   ·exact .cons (by simp) (.app (code_no5 k _ h.1) (.cons (by simp) (codeAlt_no5 ks _ h.2)))
theorem codeHd_no5:∀(l:List Re) (f:Nat),noAsL l=true→No5 (codeHd l f)
 | [],f,_=>by rw[codeHd];exact .nil
 | k::ks,f,h=>by
   rw[noAsL,Bool.and_eq_true]at h
   rw[codeHd]
   exact code_no5 k f h.1
end
theorem accept_prg {re:Re} {caps:Int} {runes:Bool} (hv:validP ⟨re,caps,runes⟩=0) (hc:codable re=true) (hl:lenG re+1≤8192) (hn:noAs re=true):acceptG (prgOf re caps runes)=0:=by
 unfold acceptG
 rw[if_neg (by rw[(prg_valid hv hc hl).1];simp),if_neg]
 rw[Bool.not_eq_true,List.any_eq_false]
 intro i hi
 have:=No5.app (code_no5 re 0 hn) (.cons (x:=⟨0,0,0,0,[]⟩) (by decide) .nil) i hi
 simpa using this
structure Tame (d:Nat) (r:Re):Prop where
 whole:wholeG 0 255 r=true
 noas:noAs r=true
 deep:r.depth≤d+1
theorem spans_small (j:Nat):spansG (smallS.getD j []) 255=true:=by
 by_cases h:j < 8
 ·rcases j with _|_|_|_|_|_|_|_|j
  all_goals first|decide|omega
 ·have:smallS.getD j []=[]:=by
   rw[List.getD_eq_getElem?_getD,List.getElem?_eq_none (by simp[smallS];omega)]
   rfl
  rw[this];decide
theorem tame_set (d:Nat) (l:List Int) (s:MS):Tame d (setM l s).1:=by
 refine⟨?_,?_,?_⟩
 ·have h1:=spans_small ((pickI l s.at_ 15).tdiv 2).toNat
  simp only[List.getD_eq_getElem?_getD]at h1
  simp[setM,wholeG,wholeL,formedG,kidsG,h1]
 ·simp[setM,noAs,noAsL]
 ·simp[setM,Re.depth,Re.depthL]
theorem tame_empty (d:Nat):Tame d (.mk 0 [] [] 0 0 0 0 false):=by
 refine⟨by simp[wholeG,wholeL,formedG,kidsG],by simp[noAs,noAsL],by simp[Re.depth,Re.depthL]⟩
theorem depthL_le {d:Nat}:∀ l:List Re,(∀ k∈l,k.depth≤d)→Re.depthL l≤d
 | [],_=>by simp[Re.depthL]
 | k::ks,h=>by
   have h1:=h k (by simp)
   have h2:=depthL_le ks (fun x hx=>h x (by simp[hx]))
   simp only[Re.depthL]
   omega
theorem Tame.kids {d:Nat} {op:Int} {ks:List Re} (hop:op=2∨op=3) (h:∀ k∈ks,Tame d k) (h2:2≤ks.length):Tame (d+1) (.mk op [] ks 0 0 0 0 false):=by
 refine⟨?_,?_,?_⟩
 ·have h1:=(wholeL_iff 0 255 ks).2 (fun k hk=>(h k hk).whole)
  rcases hop with rfl|rfl<;>simp[wholeG,formedG,kidsG,h1,h2]
 ·have h1:=(noAsL_iff ks).2 (fun k hk=>(h k hk).noas)
  rcases hop with rfl|rfl<;>simp[noAs,h1]
 ·have h1:=depthL_le ks (fun k hk=>(h k hk).deep)
  simp only[Re.depth];omega
theorem uses0:Uses 0:=⟨by decide,by decide,by decide,by decide,by decide⟩
theorem tree_tame (l:List Int):∀ d s,Tame d (treeF l 0 d s).1
 | 0,s=>by
   rw[treeF];unfold leafF
   split
   ·exact tame_empty _
   ·exact tame_set _ l _
 | d+1,s=>by
   have ih:=tree_tame l d
   have hk:=fun s=>kidsF_all (P:=fun k=>Tame d k) l ih s
   rw[treeF]
   generalize nx l 20 ⟨s.at_,s.left - 1,s.caps⟩=Y
   obtain⟨k,s1⟩:=Y
   unfold treeStep
   simp only
   split
   ·unfold leafF
    split
    ·exact tame_empty _
    ·exact tame_set _ l _
   split
   ·exact Tame.kids (.inl rfl) (hk s1).1 (hk s1).2.2
   split
   ·exact Tame.kids (.inr rfl) (hk s1).1 (hk s1).2.2
   split
   ·unfold repF
    simp only[if_neg uses0.u8,uses0.u32,true_and]
    have hkk:=nx_val l (n:=12) (by omega) s1
    have hm:=nx_val l (n:=2) (by omega) (nx l 12 s1).2
    generalize nx l 12 s1=kk at *
    generalize nx l 2 kk.2=m at *
    have hm2:m.1=0∨m.1=1:=by omega
    have hrep:repG (([0,0,0,0,1,1,1,0,2,0,1,2]:List Int).getD kk.1.toNat 0) (([-1,-1,-1,1,-1,-1,2,2,2,3,1,-1]:List Int).getD kk.1.toNat 0) m.1=true:=by
     obtain⟨q,hq⟩:∃ q:Nat,kk.1=q:=⟨kk.1.toNat,by omega⟩
     rw[hq,Int.toNat_natCast]
     have hq2:q < 12:=by omega
     rcases hm2 with e|e<;>rw[e]<;>(rcases q with _|_|_|_|_|_|_|_|_|_|_|_|q)<;>first|decide|omega
    have fin:∀(kid:Re),Tame d kid→Tame (d+1) (.mk 4 [] [kid] (([0,0,0,0,1,1,1,0,2,0,1,2]:List Int).getD kk.1.toNat 0) (([-1,-1,-1,1,-1,-1,2,2,2,3,1,-1]:List Int).getD kk.1.toNat 0) m.1 0 false):=fun kid hkid=>by
     refine⟨?_,?_,?_⟩
     ·have h1:=hrep
      simp only[List.getD_eq_getElem?_getD]at h1
      simp[wholeG,wholeL,formedG,kidsG,hkid.whole,h1]
     ·simp[noAs,noAsL,hkid.noas]
     ·have:=hkid.deep
      simp[Re.depth,Re.depthL];omega
    split
    ·exact fin _ (tame_set _ _ _)
    ·exact fin _ (ih _)
   split
   ·rename_i hc;exact absurd hc.2 (by decide)
   split
   ·rename_i hc;exact absurd hc.2 (by decide)
   split
   ·rename_i hc;exact absurd hc.2 uses0.u4
   split
   ·rename_i hc;exact absurd hc.2 uses0.u8
   split
   ·rename_i hc;exact absurd hc.2.1 uses0.u1
   split
   ·rename_i hc;exact absurd hc.2.1 uses0.u2
   ·exact tame_set _ l _
def roomM (s:MS):Nat:=(s.left - 3).toNat
structure Sized (s:MS) (r:Re×MS):Prop where
 left:r.2.left≤s.left
 size:r.1.size+3 * roomM r.2≤1+3 * roomM s
theorem sized_set (l:List Int) (s:MS):Sized s (setM l s):=by
 refine⟨Int.le_refl _,?_⟩
 simp[setM,Re.size,Re.sizeL,roomM]
theorem sized_leaf (l:List Int) (k:Int) (s:MS):Sized s (leafF l k s):=by
 unfold leafF
 split
 ·exact⟨Int.le_refl _,by simp[Re.size,Re.sizeL]⟩
 ·exact sized_set l s
theorem sizeL_append:∀ a b:List Re,Re.sizeL (a++b)=Re.sizeL a+Re.sizeL b
 | [],b=>by simp[Re.sizeL]
 | k::ks,b=>by simp[Re.sizeL,sizeL_append ks b];omega
theorem sized_stK (l:List Int) {tr:MS→Re×MS} (h:∀ s,Sized s (tr s)) (s:MS):∀ i,(stK l tr s i).2.left≤s.left∧Re.sizeL (stK l tr s i).1+3 * roomM (stK l tr s i).2≤i+3 * roomM s
 | 0=>by simp[stK,Re.sizeL]
 | i+1=>by
   obtain⟨h1,h2⟩:=sized_stK l h s i
   have h3:=h (nx l 2 (stK l tr s i).2).2
   have e:roomM (nx l 2 (stK l tr s i).2).2=roomM (stK l tr s i).2:=rfl
   have e2:(nx l 2 (stK l tr s i).2).2.left=(stK l tr s i).2.left:=rfl
   obtain⟨h4,h5⟩:=h3
   rw[e]at h5
   rw[e2]at h4
   simp only[stK]
   rw[sizeL_append]
   simp only[Re.sizeL]
   omega
theorem sized_kids (l:List Int) {tr:MS→Re×MS} (h:∀ s,Sized s (tr s)) (s:MS):(kidsF l tr s).2.left≤s.left∧Re.sizeL (kidsF l tr s).1+3 * roomM (kidsF l tr s).2≤3+3 * roomM s:=by
 unfold kidsF
 split
 ·exact sized_stK l h s 3
 ·obtain⟨h1,h2⟩:=sized_stK l h s 2
  exact⟨h1,by
   show Re.sizeL (stK l tr s 2).1+3 * roomM (stK l tr s 2).2≤_
   omega⟩
theorem tree_sized (l:List Int):∀ d s,Sized s (treeF l 0 d s)
 | 0,s=>by
   rw[treeF]
   have h:=sized_leaf l (nx l 20 ⟨s.at_,s.left - 1,s.caps⟩).1 (nx l 20 ⟨s.at_,s.left - 1,s.caps⟩).2
   obtain⟨h1,h2⟩:=h
   have e:roomM (nx l 20 ⟨s.at_,s.left - 1,s.caps⟩).2≤roomM s:=by simp only[roomM,nx];omega
   have e2:(nx l 20 ⟨s.at_,s.left - 1,s.caps⟩).2.left=s.left - 1:=rfl
   exact⟨by rw[e2]at h1;omega,by omega⟩
 | d+1,s=>by
   have ih:=tree_sized l d
   rw[treeF]
   have e2:(nx l 20 ⟨s.at_,s.left - 1,s.caps⟩).2.left=s.left - 1:=rfl
   generalize nx l 20 ⟨s.at_,s.left - 1,s.caps⟩=Y at *
   obtain⟨k,s1⟩:=Y
   simp only at e2 ⊢
   have hr1:roomM s1≤roomM s:=by simp only[roomM,e2];omega
   have up:∀ r:Re×MS,Sized s1 r→Sized s r:=fun r h=>⟨by have:=h.left;omega,by have:=h.size;omega⟩
   have hkids:=sized_kids l ih
   unfold treeStep
   split
   ·exact up _ (sized_leaf l k s1)
   rename_i hin
   have hr2:roomM s1+1=roomM s:=by simp only[roomM,e2];omega
   have kid:∀(op mn mx md n:Int) (ks:List Re) (neg:Bool) (s2:MS),s2.left≤s1.left→Re.sizeL ks+3 * roomM s2≤3+3 * roomM s1→Sized s (.mk op [] ks mn mx md n neg,s2):=fun op mn mx md n ks neg s2 h1 h2=>by
    refine⟨by simp only;omega,?_⟩
    simp only[Re.size]
    omega
   split
   ·exact kid _ _ _ _ _ _ _ _ (hkids s1).1 (hkids s1).2
   split
   ·exact kid _ _ _ _ _ _ _ _ (hkids s1).1 (hkids s1).2
   split
   ·unfold repF
    simp only[if_neg uses0.u8,uses0.u32,true_and]
    have e5:(nx l 2 (nx l 12 s1).2).2.left=s1.left:=rfl
    have e6:roomM (nx l 2 (nx l 12 s1).2).2=roomM s1:=rfl
    have hk:=ih (nx l 2 (nx l 12 s1).2).2
    generalize nx l 2 (nx l 12 s1).2=m at *
    obtain⟨k1,k2⟩:=hk
    split
    ·have h3:=sized_set l (treeF l 0 d m.2).2
     obtain⟨h4,h5⟩:=h3
     refine kid _ _ _ _ _ _ _ _ (by omega) ?_
     simp only[Re.sizeL]
     have:1≤(treeF l 0 d m.2).1.size:=by
      cases (treeF l 0 d m.2).1;simp[Re.size]
     omega
    ·refine kid _ _ _ _ _ _ _ _ (by omega) ?_
     simp only[Re.sizeL]
     omega
   split
   ·rename_i hc;exact absurd hc.2 (by decide)
   split
   ·rename_i hc;exact absurd hc.2 (by decide)
   split
   ·rename_i hc;exact absurd hc.2 uses0.u4
   split
   ·rename_i hc;exact absurd hc.2 uses0.u8
   split
   ·rename_i hc;exact absurd hc.2.1 uses0.u1
   split
   ·rename_i hc;exact absurd hc.2.1 uses0.u2
   ·exact up _ (sized_set l s1)
theorem caps_stK (l:List Int) {tr:MS→Re×MS} (h:∀ s,(tr s).2.caps=s.caps) (s:MS):∀ i,(stK l tr s i).2.caps=s.caps
 | 0=>rfl
 | i+1=>by
   simp only[stK]
   rw[h]
   exact caps_stK l h s i
theorem caps_kids (l:List Int) {tr:MS→Re×MS} (h:∀ s,(tr s).2.caps=s.caps) (s:MS):(kidsF l tr s).2.caps=s.caps:=by
 unfold kidsF
 split
 ·exact caps_stK l h s 3
 ·exact caps_stK l h s 2
theorem caps_leaf (l:List Int) (k:Int) (s:MS):(leafF l k s).2.caps=s.caps:=by
 unfold leafF
 split<;>rfl
theorem tree_caps (l:List Int):∀ d s,(treeF l 0 d s).2.caps=s.caps
 | 0,s=>by
   rw[treeF]
   exact caps_leaf l _ _
 | d+1,s=>by
   have ih:=tree_caps l d
   rw[treeF]
   have e2:(nx l 20 ⟨s.at_,s.left - 1,s.caps⟩).2.caps=s.caps:=rfl
   generalize nx l 20 ⟨s.at_,s.left - 1,s.caps⟩=Y at *
   obtain⟨k,s1⟩:=Y
   simp only at e2 ⊢
   rw[← e2]
   unfold treeStep
   split
   ·exact caps_leaf l k s1
   split
   ·exact caps_kids l ih s1
   split
   ·exact caps_kids l ih s1
   split
   ·unfold repF
    simp only[if_neg uses0.u8,uses0.u32,true_and]
    split
    ·show (treeF l 0 d _).2.caps=_
     rw[ih];rfl
    ·rw[ih];rfl
   split
   ·rename_i hc;exact absurd hc.2 (by decide)
   split
   ·rename_i hc;exact absurd hc.2 (by decide)
   split
   ·rename_i hc;exact absurd hc.2 uses0.u4
   split
   ·rename_i hc;exact absurd hc.2 uses0.u8
   split
   ·rename_i hc;exact absurd hc.2.1 uses0.u1
   split
   ·rename_i hc;exact absurd hc.2.1 uses0.u2
   ·rfl
theorem pat0 (l:List Int) (most:Int) (hm:most≤60):(treeF l 0 5 ⟨0,most,0⟩).2.caps=0∧(treeF l 0 5 ⟨0,most,0⟩).1.wt≤1000000 ∧
  compP ⟨(treeF l 0 5 ⟨0,most,0⟩).1,0,false⟩=(prgOf (treeF l 0 5 ⟨0,most,0⟩).1 0 false,0)∧acceptG (prgOf (treeF l 0 5 ⟨0,most,0⟩).1 0 false)=0∧PrgB (prgOf (treeF l 0 5 ⟨0,most,0⟩).1 0 false):=by
 have h1:=tree_tame l 5 ⟨0,most,0⟩
 have h2:=(tree_sized l 5 ⟨0,most,0⟩).size
 have h3:=tree_gen uses0 l 5 ⟨0,most,0⟩
 have h4:=tree_len uses0 l 5 ⟨0,most,0⟩
 have h5:=treeF_wt l 0 5 ⟨0,most,0⟩
 have h6:=tree_caps l 5 ⟨0,most,0⟩
 have e1:roomM ⟨0,most,0⟩≤57:=by simp only[roomM];omega
 have e2:mL1 5+1≤8192:=by decide
 have e3:mW1 5≤1000000:=by decide
 generalize treeF l 0 5 ⟨0,most,0⟩=Y at *
 obtain⟨re,s⟩:=Y
 simp only at h1 h2 h3 h4 h5 h6 ⊢
 rw[decide_eq_false (by decide)]at h3
 have hc:=gen_comp re [] h3
 have hdp:=h1.deep
 have hv:validP ⟨re,0,false⟩=0:=by
  unfold validP
  have:wholeG 0 (topI false) re=true:=h1.whole
  rw[if_neg (by simp only;omega),if_neg (by simp[this])]
 have hl:lenG re+1≤8192:=by omega
 have hcd:=codable_of re [] hc
 refine⟨h6,by omega,?_,accept_prg hv hcd hl h1.noas,(prg_valid hv hcd hl).2⟩
 unfold compP
 rw[if_pos hv,if_pos hc,if_pos (by simp only;omega)]
end Go.Ev
namespace Go.Ev
attribute [local go_sem] evBuild splice List.length_append tySzE List.head?_drop Nat.mul_one sameAt_zero sameAt_two sameAt_three sameAt_four sameAt_five room_ok
section
attribute [local go_sem] evBin
open Go.Proofs Go.RowKit Go.IntWalk
set_option maxRecDepth 100000
set_option maxHeartbeats 8000000
section
variable (k:IntKind) (a b:Int)
theorem evBin_add':evBin .add k a b=some (.int k (k.wrap (a+b))):=rfl
theorem evBin_sub':evBin .sub k a b=some (.int k (k.wrap (a - b))):=rfl
theorem evBin_eql':evBin .eql k a b=some (.bool (a == b)):=rfl
theorem evBin_neq':evBin .neq k a b=some (.bool (a != b)):=rfl
theorem evBin_lss':evBin .lss k a b=some (.bool (decide (a < b))):=rfl
theorem evBin_gtr':evBin .gtr k a b=some (.bool (decide (a > b))):=rfl
end
section
variable {α:Type} (K:List α) (a b c x:α)
theorem ex1:∃ L,K++[a]=K++L:=⟨_,rfl⟩
theorem ex2:∃ L,K++[a]++[b]=K++L:=⟨[a,b],by simp⟩
theorem ex3:∃ L,K++[a]++[b]++[c]=K++L:=⟨[a,b,c],by simp⟩
theorem get_l2a:(K++[a]++[b])[K.length]?=some a:=by simp
theorem get_l2b:(K++[a]++[b])[K.length+1]?=some b:=by simp
theorem set_l2a:(K++[a]++[b]).set K.length x=K++[x]++[b]:=by simp
theorem set_l2b:(K++[a]++[b]).set (K.length+1) x=K++[a]++[x]:=by simp[List.set_append]
theorem get_l3a:(K++[a]++[b]++[c])[K.length]?=some a:=by simp
theorem get_l3b:(K++[a]++[b]++[c])[K.length+1]?=some b:=by simp[List.getElem?_append]
theorem get_l3c:(K++[a]++[b]++[c])[K.length+1+1]?=some c:=by
 rw[List.getElem?_append_right (by simp)]
 simp
theorem set_l3a:(K++[a]++[b]++[c]).set K.length x=K++[x]++[b]++[c]:=by simp
theorem set_l3b:(K++[a]++[b]++[c]).set (K.length+1) x=K++[a]++[x]++[c]:=by simp[List.set_append]
theorem set_l3c:(K++[a]++[b]++[c]).set (K.length+1+1) x=K++[a]++[b]++[x]:=by
 rw[List.set_append_right _ _ (by simp)]
 simp
end
theorem ret_mkx {f:Nat} (hk:pol1.keep f=false) (ho:pol1.own f=false) {l:List Int} {uses:Int} (s s':MS) {b0:MB} {K M:List MB} (hM:∃ L,M=K++L) {r r':AV} (hz:∀ H,fz r H=some (r',H)) (hp:AV.plain r' = true) :
  retPol pol1 f (mH b0 l uses s K) r (mH b0 l uses s' M)=some (r',mH b0 l uses s' K):=by
 obtain⟨L,rfl⟩:=hM
 exact ret_mk hk ho hz hp
theorem ret_node {f:Nat} (hk:pol1.keep f=false) (ho:pol1.own f=false) {l:List Int} {uses:Int} (s s':MS) {b0:MB} {K M:List MB} (hM:∃ L,M=K++L) (a b:Bool) (op:Int) (set:List (Int×Int)) (kids:List Re) (mn mx md n:Int) (neg:Bool) :
  retPol pol1 f (mH b0 l uses s K) (.agg [I op,.sl a (set.map spanAV),.sl b (kids.map reAV),I mn,I mx,I md,I n,.bool neg]) (mH b0 l uses s' M)=some (reAV (.mk op set kids mn mx md n neg),mH b0 l uses s' K):=by
 rw[ret_mkx hk ho s s' hM (fz_node a b op set kids mn mx md n neg) (by simp[AV.plain,AV.plainL,plain_span,plain_kids])]
 rw[show reAV (.mk op set kids mn mx md n neg)=.agg (nodeL op set kids mn mx md n neg) from congrArg AV.agg reC_mk]
section
variable {l:List Int} (hl:∀ x∈l,In64 x) {uses:Int} {d:Nat} (hd:d≤5) (ht:TreeLaw l uses d) (hb:TreeB l uses d)
include hl hd ht hb
theorem f99 (s:MS) (hp:Pre (5+3 * mA1 d) (3 * mS1 d) s) (b0:MB) (K:List MB) :
  call Tryz.prog pol1 81 [.rf 1 1 0 0,I ((d+1:Nat):Int)] (mH b0 l uses s K)=some (.sl false ((kidsF l (treeF l uses d) s).1.map reAV),mH b0 l uses (kidsF l (treeF l uses d) s).2 K):=by
 have fr:frzArgs pol1 81 0 [.rf 1 1 0 0,I ((d+1:Nat):Int)] (mH b0 l uses s K)=some ([.rf 1 1 0 0,I ((d+1:Nat):Int)],mH b0 l uses s K):=frzArgs_mix _ _ _ rfl
 have hA:=mA1_pos d
 have hS:=mS1_pos d
 have hpost:=fun i hi=>stK_post hb hp i hi
 have hmul:∀ i n:Nat,i≤n→(i:Int) * mA1 d≤n * mA1 d∧(i:Int) * mS1 d≤n * mS1 d:=fun i n hi=>⟨Int.mul_le_mul_of_nonneg_right (by omega) (by omega),Int.mul_le_mul_of_nonneg_right (by omega) (by omega)⟩
 have hlen:=fun i=>stK_len l (treeF l uses d) s i
 refine call_run2 (pol:=pol1) Tryz.func81 rfl rfl rfl rfl fr ?_
 obtain⟨N,hN,hN2,hval⟩:∃ N:Nat,2≤N∧N≤3∧kidsF l (treeF l uses d) s=((stK l (treeF l uses d) s N).1,(nx l 2 (stK l (treeF l uses d) s N).2).2)∧(N=3→(nx l 2 (stK l (treeF l uses d) s 2).2).1=1)∧(N=2→(nx l 2 (stK l (treeF l uses d) s 2).2).1≠1):=by
  unfold kidsF
  by_cases h:(nx l 2 (stK l (treeF l uses d) s 2).2).1=1
  ·exact⟨3,by omega,by omega,if_pos h,fun _=>h,fun h=>by omega⟩
  ·exact⟨2,by omega,by omega,if_neg h,fun h=>by omega,fun _=>h⟩
 obtain⟨hval,h3,h2⟩:=hval
 rw[hval]
 simp +contextual (disch:=omega) only[Tryz.f81,dd81,go_sem,simprocAttr,evAppend,List.map_append,mu81,↓wrap_up,↓wrap_down,↓wrap_pred,↓wrap_sub_nat]
 refine W_count (M:=(mskOf (pol1.mask 81) (pol1.gc 81) (pol1.acts 81) 0 3)) rfl N (fun i=>(⟨22,[(6,I i),(5,.ms (K.length+1+1) 8 i 0 i),(1,I ((d+1:Nat):Int)),(0,.rf 1 1 0 0)],mH b0 l uses (stK l (treeF l uses d) s i).2 (K++[.row 8 ((stK l (treeF l uses d) s i).1.map reAV) 0])⟩:St)) (fun _=>True) ?_ ?_ trivial _ (by rfl)
 ·intro i hi _
  have pi:=hpost i (by omega)
  have hmi:=hmul i 2 (by omega)
  have hli:=hlen i
  have e:stK l (treeF l uses d) s (i+1)=((stK l (treeF l uses d) s i).1++[(treeF l uses d (nx l 2 (stK l (treeF l uses d) s i).2).2).1],(treeF l uses d (nx l 2 (stK l (treeF l uses d) s i).2).2).2):=rfl
  rw[e]
  have hv2:i=2→(nx l 2 (stK l (treeF l uses d) s i).2).1=1:=fun h=>by subst h;exact h3 (by omega)
  generalize stK l (treeF l uses d) s i=X at *
  obtain⟨ks,si⟩:=X
  simp only at pi hli hv2 ⊢
  obtain⟨pa,pl,pc⟩:=pi
  obtain⟨qa,ql,qc⟩:=hp
  have h97:=fun K=>f97 l hl uses 2 (by omega) si ⟨by omega,by omega⟩ b0 K
  have hv:=nx_val l (n:=2) (by omega) si
  have hq:=nx_post l 2 si pc
  generalize nx l 2 si=Y at *
  obtain⟨v,sj⟩:=Y
  simp only at h97 hv hq hv2 ⊢
  obtain⟨ra,rl,rc⟩:=hq
  have h44:=fun K=>ht sj b0 K ⟨by omega,by omega,rc⟩
  generalize treeF l uses d sj=Z at *
  obtain⟨r,sk⟩:=Z
  simp only at h44 ⊢
  have hap:=fun s=>app_re (H:=mH b0 l uses s (K++[.row 8 (ks.map reAV) 0])) (i:=K.length+1+1) (n:=i) (t:=true) (y:=reAV r) (z:=0) (els:=ks.map reAV) (by simp[getRow]) (by rw[List.length_map];exact hli) (by simp[AV.cells,reC_len,reC_ok]) (Nat.zero_le _) (by omega)
  simp +contextual (disch:=omega) only[Tryz.f81,dd81,go_sem,simprocAttr,mu81,↓wrap_up,↓wrap_down,↓wrap_pred,↓wrap_sub_nat,h97,h44,hap,get_last,set_last,reC_len,reC_ok,reC_take,reC_drop,List.append_nil]
  rw[List.map_append]
  rfl
 ·intro _
  have pi:=hpost N (by omega)
  have hmi:=hmul N 3 (by omega)
  have hli:=hlen N
  have hv2:N=2→(nx l 2 (stK l (treeF l uses d) s N).2).1≠1:=fun h=>by rw[h];exact h2 h
  generalize stK l (treeF l uses d) s N=X at *
  obtain⟨ks,si⟩:=X
  simp only at pi hli hv2 ⊢
  obtain⟨pa,pl,pc⟩:=pi
  obtain⟨qa,ql,qc⟩:=hp
  have h97:=fun K=>f97 l hl uses 2 (by omega) si ⟨by omega,by omega⟩ b0 K
  have hv:=nx_val l (n:=2) (by omega) si
  generalize nx l 2 si=Y at *
  obtain⟨v,sj⟩:=Y
  simp only at h97 hv hv2 ⊢
  have hvn:¬ (N:Int) < 2+v:=by omega
  simp +contextual (disch:=omega) only[Tryz.f81,dd81,go_sem,simprocAttr,mu81,↓wrap_up,↓wrap_down,↓wrap_pred,↓wrap_sub_nat,h97,get_last,set_last,reC_len,reC_ok,reC_take,reC_drop,List.append_nil]
  exact ret_kids rfl rfl hli
theorem f100 (s:MS) (hp:Pre (5+3 * mA1 d) (3 * mS1 d) s) (b0:MB) (K:List MB) :
  call Tryz.prog pol1 82 [.rf 1 1 0 0,I ((d+1:Nat):Int)] (mH b0 l uses s K)=some (reAV (repF l uses (treeF l uses d) s).1,mH b0 l uses (repF l uses (treeF l uses d) s).2 K):=by
 have fr:frzArgs pol1 82 0 [.rf 1 1 0 0,I ((d+1:Nat):Int)] (mH b0 l uses s K)=some ([.rf 1 1 0 0,I ((d+1:Nat):Int)],mH b0 l uses s K):=frzArgs_mix _ _ _ rfl
 have hA:=mA1_pos d
 have hS:=mS1_pos d
 unfold repF
 obtain⟨qa,ql,qc⟩:=hp
 have h97a:=fun K=>f97 l hl uses 12 (by omega) s ⟨by omega,by omega⟩ b0 K
 have hk:=nx_val l (n:=12) (by omega) s
 have p1:=nx_post l 12 s qc
 generalize nx l 12 s=Y at *
 obtain⟨k,s1⟩:=Y
 simp only at h97a hk p1 ⊢
 obtain⟨kn,rfl⟩:∃ kn:Nat,k=kn:=⟨k.toNat,by omega⟩
 obtain⟨hm1,hm2⟩:[I 0,I 0,I 0,I 0,I 1,I 1,I 1,I 0,I 2,I 0,I 1,I 2][kn]?=some (I (([0,0,0,0,1,1,1,0,2,0,1,2]:List Int).getD kn 0))∧[I (-1),I (-1),I (-1),I 1,I (-1),I (-1),I 2,I 2,I 2,I 3,I 1,I (-1)][kn]?=some (I (([-1,-1,-1,1,-1,-1,2,2,2,3,1,-1]:List Int).getD kn 0)):=by
  have:kn=0∨kn=1∨kn=2∨kn=3∨kn=4∨kn=5∨kn=6∨kn=7∨kn=8∨kn=9∨kn=10∨kn=11:=by omega
  rcases this with rfl|rfl|rfl|rfl|rfl|rfl|rfl|rfl|rfl|rfl|rfl|rfl<;>exact⟨rfl,rfl⟩
 simp only[Int.toNat_natCast]
 generalize ([0,0,0,0,1,1,1,0,2,0,1,2]:List Int).getD kn 0=mn at *
 generalize ([-1,-1,-1,1,-1,-1,2,2,2,3,1,-1]:List Int).getD kn 0=mx at *
 have h97b:=fun K=>f97 l hl uses 2 (by omega) s1 ⟨by have:=p1.a;omega,by have:=p1.a;omega⟩ b0 K
 have p2:=p1.trans (nx_post l 2 s1 p1.c)
 generalize nx l 2 s1=Y at *
 obtain⟨md,s2⟩:=Y
 simp only at h97b p2 ⊢
 have h97c:=fun K=>f97 l hl uses 4 (by omega) s2 ⟨by have:=p2.a;omega,by have:=p2.a;omega⟩ b0 K
 have p3':=p2.trans (nx_post l 4 s2 p2.c)
 obtain⟨m,s3,hm,p3,hms⟩:∃ m s3,(if 0 < andI uses 8 then(if(nx l 4 s2).1=0 then(2:Int) else md,(nx l 4 s2).2) else(md,s2))=(m,s3)∧Post (1+1+1) (0+0+0) s s3 ∧
   ((¬ 0 < andI uses 8∧m=md∧s3=s2)∨(0 < andI uses 8∧(nx l 4 s2).1=0∧m=2∧s3=(nx l 4 s2).2)∨(0 < andI uses 8∧(nx l 4 s2).1≠0∧m=md∧s3=(nx l 4 s2).2)):=by
  by_cases u:0 < andI uses 8
  ·rw[if_pos u]
   by_cases x0:(nx l 4 s2).1=0
   ·rw[if_pos x0];exact⟨_,_,rfl,p3',.inr (.inl ⟨u,x0,rfl,rfl⟩)⟩
   ·rw[if_neg x0];exact⟨_,_,rfl,p3',.inr (.inr ⟨u,x0,rfl,rfl⟩)⟩
  ·rw[if_neg u];exact⟨_,_,rfl,p2.up (by omega) (by omega),.inl ⟨u,rfl,rfl⟩⟩
 rw[hm]
 clear hm p3'
 simp only
 generalize nx l 4 s2=Y at *
 obtain⟨x,s2'⟩:=Y
 simp only at h97c hms ⊢
 have hpre:Pre (mA1 d) (mS1 d) s3:=⟨⟨by have:=p3.a;omega,by have:=p3.a;omega⟩,⟨by have:=p3.l;omega,by have:=p3.l;omega⟩,p3.c⟩
 have hw6:mW1 d≤1000000:=by
  have:d=0∨d=1∨d=2∨d=3∨d=4∨d=5:=by omega
  rcases this with rfl|rfl|rfl|rfl|rfl|rfl<;>decide
 have h44:=fun K=>ht s3 b0 K hpre
 have p4:=hb s3 hpre
 have h20:=f20 (treeF l uses d s3).1.wt (treeF l uses d s3).1 (Nat.le_refl _) (Nat.le_trans (treeF_wt l uses d s3) hw6)
 generalize treeF l uses d s3=Y at *
 obtain⟨r,s4⟩:=Y
 simp only at h44 p4 h20 ⊢
 have h98:=fun K=>f98 l hl uses s4 ⟨by have:=p3.a;have:=p4.a;omega,by have:=p3.a;have:=p4.a;omega⟩ b0 K
 obtain⟨X,hX,hXc⟩:∃ X,(if andI uses 32=0∧nullG r=true then setM l s4 else(r,s4))=X∧((andI uses 32≠0∧X=(r,s4))∨(andI uses 32=0∧nullG r=true∧X=setM l s4)∨(andI uses 32=0∧nullG r=false∧X=(r,s4))):=by
  by_cases u:andI uses 32=0
  ·cases hn:nullG r with
   | true=>exact⟨_,if_pos ⟨u,rfl⟩,.inr (.inl ⟨u,rfl,rfl⟩)⟩
   | false=>exact⟨_,if_neg (by simp),.inr (.inr ⟨u,rfl,rfl⟩)⟩
  ·exact⟨_,if_neg (fun h=>u h.1),.inl ⟨u,rfl⟩⟩
 rw[hX]
 clear hX
 generalize setM l s4=Y at *
 obtain⟨r5,s5⟩:=Y
 simp only at h98
 refine call_run2 (pol:=pol1) Tryz.func82 rfl rfl rfl rfl fr ?_
 rcases hms with ⟨u8,rfl,rfl⟩|⟨u8,rfl,rfl,rfl⟩|⟨u8,x0,rfl,rfl⟩<;>rcases hXc with ⟨u32,rfl⟩|⟨u32,hn,rfl⟩|⟨u32,hn,rfl⟩
 all_goals try rw[hn]at h20
 all_goals simp +contextual (disch:=omega) only[Tryz.f82,dd82,go_sem,simprocAttr,evAppend,List.map_append,mu82,↓wrap_up,↓wrap_down,↓wrap_pred,↓wrap_sub_nat,h97a,h97b,h97c,h44,h20,h98,hm1,hm2,↓evBin_and,get_last,set_last,get_l2a,get_l2b,set_l2a,set_l2b,get_l3a,get_l3b,get_l3c,set_l3a,set_l3b,set_l3c,reC_len,reC_ok,reC_take,reC_drop,List.append_nil]
 all_goals repeat' (first|intro _|apply And.intro|(unfold dOk;kernel_rfl)|exact St.beq_refl _|(show altO _ _ _ _=true;kernel_rfl)|(show (_ || _)=true;kernel_rfl)|(show (_ && _)=true;kernel_rfl))
 all_goals exact ret_node (by rfl) (by rfl) s _ (ex3 ..) true true 4 [] [_] _ _ _ 0 false
theorem f101 (s:MS) (hp:Pre (5+3 * mA1 d) (3 * mS1 d) s) (b0:MB) (K:List MB) :
  call Tryz.prog pol1 83 [.rf 1 1 0 0,I ((d+1:Nat):Int)] (mH b0 l uses s K)=some (reAV (capF l (treeF l uses d) s).1,mH b0 l uses (capF l (treeF l uses d) s).2 K):=by
 have _:=hb
 have fr:frzArgs pol1 83 0 [.rf 1 1 0 0,I ((d+1:Nat):Int)] (mH b0 l uses s K)=some ([.rf 1 1 0 0,I ((d+1:Nat):Int)],mH b0 l uses s K):=frzArgs_mix _ _ _ rfl
 have hA:=mA1_pos d
 have hS:=mS1_pos d
 unfold capF
 obtain⟨qa,ql,qc⟩:=hp
 have h97a:=fun K=>f97 l hl uses 9 (by omega) s ⟨by omega,by omega⟩ b0 K
 have p1:=nx_post l 9 s qc
 have hmx1:(if s.caps > 1 then s.caps else 1)=max 1 s.caps:=by split<;>omega
 have c1:(nx l 9 s).2.caps=s.caps:=rfl
 generalize nx l 9 s=Y at *
 obtain⟨x,s1⟩:=Y
 simp only at h97a p1 c1 ⊢
 obtain⟨b,s2,hps,p2,c2,hc⟩:∃(b:Bool) (s2:MS),(if 4 < s.caps+1 then(true,s) else if 0 < s.caps then(decide (x=0),s1) else(false,s))=(b,s2)∧Post 1 0 s s2∧s2.caps=s.caps ∧
   ((4 < s.caps+1∧b=true∧s2=s)∨(¬ 4 < s.caps+1∧0 < s.caps∧x=0∧b=true∧s2=s1)∨(¬ 4 < s.caps+1∧0 < s.caps∧x≠0∧b=false∧s2=s1)∨(¬ 4 < s.caps+1∧¬ 0 < s.caps∧b=false∧s2=s)):=by
  have p0:Post 1 0 s s:=⟨by omega,by omega,qc⟩
  by_cases h1:4 < s.caps+1
  ·rw[if_pos h1];exact⟨_,_,rfl,p0,rfl,.inl ⟨h1,rfl,rfl⟩⟩
  ·rw[if_neg h1]
   by_cases h2:0 < s.caps
   ·rw[if_pos h2]
    by_cases h3:x=0
    ·exact⟨true,s1,by rw[decide_eq_true h3],p1,c1,.inr (.inl ⟨h1,h2,h3,rfl,rfl⟩)⟩
    ·exact⟨false,s1,by rw[decide_eq_false h3],p1,c1,.inr (.inr (.inl ⟨h1,h2,h3,rfl,rfl⟩))⟩
   ·rw[if_neg h2];exact⟨_,_,rfl,p0,rfl,.inr (.inr (.inr ⟨h1,h2,rfl,rfl⟩))⟩
 rw[hps]
 clear hps
 simp only
 have hm1:0 < max 1 s2.caps:=by omega
 have h97b:=fun K=>f97 l hl uses (max 1 s2.caps) (by omega) s2 ⟨by have:=p2.a;omega,by have:=p2.a;omega⟩ b0 K
 have p3:=p2.trans (nx_post l (max 1 s2.caps) s2 p2.c)
 have hv:=nx_val l hm1 s2
 have c3:(nx l (max 1 s2.caps) s2).2.caps=s2.caps:=rfl
 generalize hY:nx l (max 1 s2.caps) s2=Y at *
 obtain⟨y,s3⟩:=Y
 clear hY
 simp only at h97b p3 hv c3 ⊢
 rw[c2]at h97b hv c3
 obtain⟨m,s4,hms,p4,c4,hmb,hc2⟩:∃(m:Int) (s4:MS),(if b=true then(1+y,s3) else(s.caps+1,s2))=(m,s4)∧Post 2 0 s s4∧s4.caps=s.caps∧(0≤m∧m≤4)∧((b=true∧m=1+y∧s4=s3)∨(b=false∧m=s.caps+1∧s4=s2)):=by
  cases b with
  | true=>exact⟨_,_,if_pos rfl,p3,c3,by omega,.inl ⟨rfl,rfl,rfl⟩⟩
  | false=>
    refine⟨_,_,if_neg Bool.false_ne_true,p2.up (by omega) (by omega),c2,?_,.inr ⟨rfl,rfl,rfl⟩⟩
    rcases hc with h|h|h|h<;>first|omega|(simp at h;done)|(simp at h;omega)
 rw[hms]
 clear hms
 simp only
 have hmx2:(if m > s.caps then m else s.caps)=max s.caps m:=by split<;>omega
 have hpre:Pre (mA1 d) (mS1 d) ⟨s4.at_,s4.left,max s.caps m⟩:=⟨⟨by have:=p4.a;simp only;omega,by have:=p4.a;simp only;omega⟩,⟨by have:=p4.l;simp only;omega,by have:=p4.l;simp only;omega⟩,by simp only;omega⟩
 have h44:=fun K=>ht _ b0 K hpre
 rw[c4]
 generalize treeF l uses d ⟨s4.at_,s4.left,max s.caps m⟩=Y at *
 obtain⟨r,s5⟩:=Y
 simp only at h44 ⊢
 have fin:∀(M:List MB),(∃ L,M=K++L)→retPol pol1 83 (mH b0 l uses s K) (.agg [I 5,.sl true [],.sl true [reAV r],I 0,I 0,I 0,I m,.bool false]) (mH b0 l uses s5 M)=some (reAV (.mk 5 [] [r] 0 0 0 m false),mH b0 l uses s5 K):=fun M hM=>
  ret_node (by rfl) (by rfl) s s5 hM true true 5 [] [r] 0 0 0 m false
 refine call_run2 (pol:=pol1) Tryz.func83 rfl rfl rfl rfl fr ?_
 rcases hc with ⟨g1,rfl,rfl⟩|⟨g1,g2,g3,rfl,rfl⟩|⟨g1,g2,g3,rfl,rfl⟩|⟨g1,g2,rfl,rfl⟩<;>rcases hc2 with ⟨g4,rfl,rfl⟩|⟨g4,rfl,rfl⟩<;>(try cases g4)
 ·rw[show max 1 s2.caps=s2.caps by omega]at h97b
  simp +contextual (disch:=omega) only[Tryz.f83,dd83,go_sem,simprocAttr,evAppend,List.map_append,mu83,↓wrap_up,↓wrap_down,↓wrap_pred,↓wrap_sub_nat,h97a,h97b,h44,hmx1,hmx2,c1,c2,c3,evMax,get_last,set_last,reC_len,reC_ok,reC_take,reC_drop,List.append_nil]
  repeat' (first|intro _|apply And.intro|(unfold dOk;kernel_rfl)|exact St.beq_refl _|(show altO _ _ _ _=true;kernel_rfl)|(show (_ || _)=true;kernel_rfl)|(show (_ && _)=true;kernel_rfl))
  exact fin _ (ex1 ..)
 ·simp +contextual (disch:=omega) only[Tryz.f83,dd83,go_sem,simprocAttr,evAppend,List.map_append,mu83,↓wrap_up,↓wrap_down,↓wrap_pred,↓wrap_sub_nat,h97a,h97b,h44,hmx1,hmx2,c1,c2,c3,evMax,get_last,set_last,reC_len,reC_ok,reC_take,reC_drop,List.append_nil]
  repeat' (first|intro _|apply And.intro|(unfold dOk;kernel_rfl)|exact St.beq_refl _|(show altO _ _ _ _=true;kernel_rfl)|(show (_ || _)=true;kernel_rfl)|(show (_ && _)=true;kernel_rfl))
  exact fin _ (ex1 ..)
 ·first|rw[show max s.caps (s.caps+1)=s.caps+1 by omega]at h44|rw[show max s2.caps (s2.caps+1)=s2.caps+1 by omega]at h44|rw[show max s4.caps (s4.caps+1)=s4.caps+1 by omega]at h44
  simp +contextual (disch:=omega) only[Tryz.f83,dd83,go_sem,simprocAttr,evAppend,List.map_append,mu83,↓wrap_up,↓wrap_down,↓wrap_pred,↓wrap_sub_nat,h97a,h97b,h44,hmx1,hmx2,c1,c2,c3,evMax,get_last,set_last,reC_len,reC_ok,reC_take,reC_drop,List.append_nil]
  repeat' (first|intro _|apply And.intro|(unfold dOk;kernel_rfl)|exact St.beq_refl _|(show altO _ _ _ _=true;kernel_rfl)|(show (_ || _)=true;kernel_rfl)|(show (_ && _)=true;kernel_rfl))
  exact fin _ (ex1 ..)
 ·first|rw[show max s.caps (s.caps+1)=s.caps+1 by omega]at h44|rw[show max s2.caps (s2.caps+1)=s2.caps+1 by omega]at h44|rw[show max s4.caps (s4.caps+1)=s4.caps+1 by omega]at h44
  simp +contextual (disch:=omega) only[Tryz.f83,dd83,go_sem,simprocAttr,evAppend,List.map_append,mu83,↓wrap_up,↓wrap_down,↓wrap_pred,↓wrap_sub_nat,h97a,h97b,h44,hmx1,hmx2,c1,c2,c3,evMax,get_last,set_last,reC_len,reC_ok,reC_take,reC_drop,List.append_nil]
  repeat' (first|intro _|apply And.intro|(unfold dOk;kernel_rfl)|exact St.beq_refl _|(show altO _ _ _ _=true;kernel_rfl)|(show (_ || _)=true;kernel_rfl)|(show (_ && _)=true;kernel_rfl))
  exact fin _ (ex1 ..)
end
end
section
attribute [local go_sem] evAppend List.map_append
open Go.Proofs Go.RowKit Go.IntWalk
set_option maxRecDepth 100000
set_option maxHeartbeats 8000000
theorem sameAt_l2 (b0 x x' a a' b:MB) (K:List MB):sameAt (K.length+1+1+1) (b0::x::(K++[a]++[b])) (b0::x'::(K++[a']++[b]))=true:=by
 have h:∀ x a,(b0::x::(K++[a]++[b]))[K.length+1+1+1]?=some b:=fun x a=>by
  rw[List.getElem?_cons_succ,List.getElem?_cons_succ]
  exact get_l2b K a b
 unfold sameAt
 rw[h,h]
 exact MB.beq_refl b
section
variable {l:List Int} (hl:∀ x∈l,In64 x) {uses:Int} {d:Nat} (hd:d≤5) (ht:TreeLaw l uses d) (hb:TreeB l uses d)
include hb
theorem repF_post {s:MS} (hp:Pre (5+3 * mA1 d) (3 * mS1 d) s):Post (5+3 * mA1 d) (3 * mS1 d) s (repF l uses (treeF l uses d) s).2:=by
 have hA:=mA1_pos d
 have hS:=mS1_pos d
 unfold repF
 simp only
 have p1:=nx_post l 12 s hp.c
 have p2:=p1.trans (nx_post l 2 _ p1.c)
 obtain⟨s3,e3,p3⟩:∃ s3,(if 0 < andI uses 8 then(if(nx l 4 (nx l 2 (nx l 12 s).2).2).1=0 then 2 else(nx l 2 (nx l 12 s).2).1,(nx l 4 (nx l 2 (nx l 12 s).2).2).2) else nx l 2 (nx l 12 s).2).2=s3∧Post (1+1+1) (0+0+0) s s3:=by
  split
  ·exact⟨_,rfl,p2.trans (nx_post l 4 _ p2.c)⟩
  ·exact⟨_,rfl,p2.up (by omega) (by omega)⟩
 rw[e3]
 have q:=hb s3 (hp.step p3 (by omega) (by omega))
 have r:=p3.trans q
 split
 ·exact(r.trans (setM_post l _ r.c)).up (by omega) (by omega)
 ·exact r.up (by omega) (by omega)
theorem capF_post {s:MS} (hp:Pre (5+3 * mA1 d) (3 * mS1 d) s):Post (5+3 * mA1 d) (3 * mS1 d) s (capF l (treeF l uses d) s).2:=by
 have hA:=mA1_pos d
 have hS:=mS1_pos d
 have hc:=hp.c
 unfold capF
 simp only
 obtain⟨b,s2,e2,p2,c2,hbb⟩:∃(b:Bool) (s2:MS),(if 4 < s.caps+1 then(true,s) else if 0 < s.caps then(decide ((nx l 9 s).1=0),(nx l 9 s).2) else(false,s))=(b,s2)∧Post 1 0 s s2∧s2.caps=s.caps∧(b=false→¬ 4 < s.caps+1):=by
  have p0:Post 1 0 s s:=⟨by omega,by omega,hc⟩
  split
  ·exact⟨_,_,rfl,p0,rfl,fun h=>by cases h⟩
  ·rename_i h4
   split
   ·exact⟨_,_,rfl,nx_post l 9 s hc,rfl,fun _=>h4⟩
   ·exact⟨_,_,rfl,p0,rfl,fun _=>h4⟩
 rw[e2]
 simp only
 have hm1:0 < max 1 s2.caps:=by omega
 have hv:=nx_val l hm1 s2
 have p3:=p2.trans (nx_post l (max 1 s2.caps) s2 p2.c)
 have c3:(nx l (max 1 s2.caps) s2).2.caps=s2.caps:=rfl
 obtain⟨m,s4,e4,p4,c4,hm⟩:∃(m:Int) (s4:MS),(if b=true then(1+(nx l (max 1 s2.caps) s2).1,(nx l (max 1 s2.caps) s2).2) else(s.caps+1,s2))=(m,s4)∧Post (1+1) (0+0) s s4∧s4.caps=s.caps∧(0≤m∧m≤4):=by
  cases b with
  | true=>exact⟨_,_,if_pos rfl,p3,by rw[c3,c2],by omega⟩
  | false=>
    have:=hbb rfl
    exact⟨_,_,if_neg Bool.false_ne_true,p2.up (by omega) (by omega),c2,by omega⟩
 rw[e4]
 simp only
 have p5:Post 2 0 s ⟨s4.at_,s4.left,max s4.caps m⟩:=⟨by have:=p4.a;simp only;omega,by have:=p4.l;simp only;omega,by simp only;omega⟩
 have q:=hb _ (hp.step p5 (by omega) (by omega))
 exact(p5.trans q).up (by omega) (by omega)
theorem step_post {s:MS} (k:Int) (hp:Pre (8+3 * mA1 d) (3 * mS1 d) s):Post (8+3 * mA1 d) (3 * mS1 d) s (treeStep l uses (treeF l uses d) k s).2:=by
 have hA:=mA1_pos d
 have hS:=mS1_pos d
 have hp5:Pre (5+3 * mA1 d) (3 * mS1 d) s:=⟨⟨hp.a.1,by have:=hp.a;omega⟩,hp.l,hp.c⟩
 have hlf:Post 1 0 s (leafF l k s).2:=by
  unfold leafF
  split
  ·exact⟨by simp only;omega,by simp only;omega,hp.c⟩
  ·exact setM_post l s hp.c
 have n6:=nx_post l 6 s hp.c
 have n3:=nx_post l 3 s hp.c
 have n32:=n3.trans (nx_post l 2 _ n3.c)
 have nc:=nx_post l s.caps s hp.c
 have hA2:Pre (mA1 d) (mS1 d) s:=hp.step (x:=0) (y:=0) ⟨by omega,by omega,hp.c⟩ (by omega) (by omega)
 unfold treeStep
 split
 ·exact hlf.up (by omega) (by omega)
 split
 ·exact(kidsF_post hb hp5).up (by omega) (by omega)
 split
 ·exact(kidsF_post hb hp5).up (by omega) (by omega)
 split
 ·exact(repF_post hb hp5).up (by omega) (by omega)
 split
 ·exact(capF_post hb hp5).up (by omega) (by omega)
 split
 ·exact n6.up (by omega) (by omega)
 split
 ·exact(n32.trans (hb _ (hp.step n32 (by omega) (by omega)))).up (by omega) (by omega)
 split
 ·exact(hb _ hA2).up (by omega) (by omega)
 split
 ·exact nc.up (by omega) (by omega)
 split
 ·have y:=nc.trans (hb _ (hp.step nc (by omega) (by omega)))
  exact(y.trans (hb _ (hp.step y (by omega) (by omega)))).up (by omega) (by omega)
 ·exact(setM_post l s hp.c).up (by omega) (by omega)
theorem treeB_succ:TreeB l uses (d+1):=by
 intro s hp
 have hA:=mA1_pos d
 have hS:=mS1_pos d
 simp only[mA1,mS1]at hp ⊢
 have hc:=hp.c
 have p0:Post 0 1 s ⟨s.at_,s.left - 1,s.caps⟩:=⟨by simp only;omega,by simp only;omega,hc⟩
 have p1:=p0.trans (nx_post l 20 _ p0.c)
 exact(p1.trans (step_post hb _ (hp.step p1 (by omega) (by omega)))).up (by omega) (by omega)
end
theorem treeB_zero {l:List Int} {uses:Int}:TreeB l uses 0:=by
 intro s hp
 have hc:=hp.c
 have p0:Post 0 1 s ⟨s.at_,s.left - 1,s.caps⟩:=⟨by simp only;omega,by simp only;omega,hc⟩
 have p1:=p0.trans (nx_post l 20 _ p0.c)
 simp only[treeF,mA1,mS1]
 unfold leafF
 split
 ·exact p1.up (by omega) (by omega)
 ·exact(p1.trans (setM_post l _ p1.c)).up (by omega) (by omega)
theorem leaf0 {l:List Int} (hl:∀ x∈l,In64 x) {uses:Int} (s:MS) (b0:MB) (K:List MB) (hp:Pre (mA1 0) (mS1 0) s) (k:Int) (s1:MS) (hk:nx l 20 ⟨s.at_,s.left - 1,s.caps⟩=(k,s1)) :
  call Tryz.prog pol1 52 [.rf 1 1 0 0,I ((0:Nat):Int)] (mH b0 l uses s K)=some (reAV (leafF l k s1).1,mH b0 l uses (leafF l k s1).2 K):=by
 simp only[mA1,mS1]at hp
 have hq:=nx_val l (n:=20) (by omega) ⟨s.at_,s.left - 1,s.caps⟩
 have p1:=nx_post l 20 ⟨s.at_,s.left - 1,s.caps⟩ hp.c
 obtain⟨pa,pl,pc⟩:=hp
 have h97:=fun K=>f97 l hl uses 20 (by omega) ⟨s.at_,s.left - 1,s.caps⟩ ⟨pa.1,by simp only;omega⟩ b0 K
 rw[hk]at hq p1 h97
 clear hk
 simp only at hq p1 h97
 obtain⟨qa,ql,qc⟩:=p1
 simp only at qa ql
 have hw:IntKind.i64.wrap (s.left - 1)=s.left - 1:=i64_in _ ⟨by omega,by omega⟩
 have h98:=fun K=>f98 l hl uses s1 ⟨by omega,by omega⟩ b0 K
 generalize hY:setM l s1=Y at *
 have fr:frzArgs pol1 52 0 [.rf 1 1 0 0,I ((0:Nat):Int)] (mH b0 l uses s K)=some ([.rf 1 1 0 0,I ((0:Nat):Int)],mH b0 l uses s K):=frzArgs_mix _ _ _ rfl
 by_cases hk0:k=0
 ·subst hk0
  rw[show leafF l 0 s1=(.mk 0 [] [] 0 0 0 0 false,s1) from if_pos rfl]
  refine call_run2 (pol:=pol1) Tryz.func52 rfl rfl rfl rfl fr ?_
  all_goals simp +contextual (disch:=omega) only[Tryz.f52,dd52,go_sem,simprocAttr,mu52,↓wrap_up,↓wrap_down,↓wrap_pred,↓wrap_sub_nat,h97,hw,get_last,set_last,get_l2a,get_l2b,set_l2a,set_l2b,sameAt_l2,evBin_and,evBin_add',evBin_sub',evBin_eql',evBin_neq',evBin_lss',evBin_gtr',reC_len,reC_ok,reC_take,reC_drop,List.append_nil]
  all_goals repeat' (first|intro _|apply And.intro|(unfold dOk;kernel_rfl)|exact St.beq_refl _|(show altO _ _ _ _=true;kernel_rfl)|(show (_ || _)=true;kernel_rfl)|(show (_ && _)=true;kernel_rfl))
  all_goals exact ret_node (by rfl) (by rfl) s s1 (ex1 ..) true true 0 [] [] 0 0 0 0 false
 ·rw[show leafF l k s1=Y from(if_neg hk0).trans hY]
  obtain⟨Y1,Y2⟩:=Y
  refine call_run2 (pol:=pol1) Tryz.func52 rfl rfl rfl rfl fr ?_
  all_goals simp +contextual (disch:=omega) only[Tryz.f52,dd52,go_sem,simprocAttr,mu52,↓wrap_up,↓wrap_down,↓wrap_pred,↓wrap_sub_nat,h97,hw,get_last,set_last,get_l2a,get_l2b,set_l2a,set_l2b,sameAt_l2,evBin_and,evBin_add',evBin_sub',evBin_eql',evBin_neq',evBin_lss',evBin_gtr',reC_len,reC_ok,reC_take,reC_drop,List.append_nil,h98]
  all_goals repeat' (first|intro _|apply And.intro|(unfold dOk;kernel_rfl)|exact St.beq_refl _|(show altO _ _ _ _=true;kernel_rfl)|(show (_ || _)=true;kernel_rfl)|(show (_ && _)=true;kernel_rfl))
  all_goals exact ret_mkx rfl rfl s _ (ex1 ..) (fun H=>fz_plain H (plain_re _)) (plain_re _)
theorem leafS {l:List Int} (hl:∀ x∈l,In64 x) {uses:Int} {d:Nat} (hd:d≤5) (s:MS) (b0:MB) (K:List MB) (hp:Pre (mA1 (d+1)) (mS1 (d+1)) s) (k:Int) (s1:MS) (hk:nx l 20 ⟨s.at_,s.left - 1,s.caps⟩=(k,s1)) (hc:s1.left < 3∨(l.length:Int) < s1.at_) :
  call Tryz.prog pol1 52 [.rf 1 1 0 0,I (((d+1):Nat):Int)] (mH b0 l uses s K)=some (reAV (leafF l k s1).1,mH b0 l uses (leafF l k s1).2 K):=by
 simp only[mA1,mS1]at hp
 have hA:=mA1_pos d
 have hS:=mS1_pos d
 have hq:=nx_val l (n:=20) (by omega) ⟨s.at_,s.left - 1,s.caps⟩
 have p1:=nx_post l 20 ⟨s.at_,s.left - 1,s.caps⟩ hp.c
 obtain⟨pa,pl,pc⟩:=hp
 have h97:=fun K=>f97 l hl uses 20 (by omega) ⟨s.at_,s.left - 1,s.caps⟩ ⟨pa.1,by simp only;omega⟩ b0 K
 rw[hk]at hq p1 h97
 clear hk
 simp only at hq p1 h97
 obtain⟨qa,ql,qc⟩:=p1
 simp only at qa ql
 have hw:IntKind.i64.wrap (s.left - 1)=s.left - 1:=i64_in _ ⟨by omega,by omega⟩
 have hc':s1.left < 3∨(¬ s1.left < 3∧(l.length:Int) < s1.at_):=by omega
 have h98:=fun K=>f98 l hl uses s1 ⟨by omega,by omega⟩ b0 K
 generalize hY:setM l s1=Y at *
 have fr:frzArgs pol1 52 0 [.rf 1 1 0 0,I (((d+1):Nat):Int)] (mH b0 l uses s K)=some ([.rf 1 1 0 0,I (((d+1):Nat):Int)],mH b0 l uses s K):=frzArgs_mix _ _ _ rfl
 by_cases hk0:k=0
 ·subst hk0
  rw[show leafF l 0 s1=(.mk 0 [] [] 0 0 0 0 false,s1) from if_pos rfl]
  refine call_run2 (pol:=pol1) Tryz.func52 rfl rfl rfl rfl fr ?_
  rcases hc' with hc1|⟨hc1,hc2⟩
  all_goals simp +contextual (disch:=omega) only[Tryz.f52,dd52,go_sem,simprocAttr,mu52,↓wrap_up,↓wrap_down,↓wrap_pred,↓wrap_sub_nat,h97,hw,get_last,set_last,get_l2a,get_l2b,set_l2a,set_l2b,sameAt_l2,evBin_and,evBin_add',evBin_sub',evBin_eql',evBin_neq',evBin_lss',evBin_gtr',reC_len,reC_ok,reC_take,reC_drop,List.append_nil]
  all_goals repeat' (first|intro _|apply And.intro|(unfold dOk;kernel_rfl)|exact St.beq_refl _|(show altO _ _ _ _=true;kernel_rfl)|(show (_ || _)=true;kernel_rfl)|(show (_ && _)=true;kernel_rfl))
  all_goals exact ret_node (by rfl) (by rfl) s s1 (ex1 ..) true true 0 [] [] 0 0 0 0 false
 ·rw[show leafF l k s1=Y from(if_neg hk0).trans hY]
  obtain⟨Y1,Y2⟩:=Y
  refine call_run2 (pol:=pol1) Tryz.func52 rfl rfl rfl rfl fr ?_
  rcases hc' with hc1|⟨hc1,hc2⟩
  all_goals simp +contextual (disch:=omega) only[Tryz.f52,dd52,go_sem,simprocAttr,mu52,↓wrap_up,↓wrap_down,↓wrap_pred,↓wrap_sub_nat,h97,hw,get_last,set_last,get_l2a,get_l2b,set_l2a,set_l2b,sameAt_l2,evBin_and,evBin_add',evBin_sub',evBin_eql',evBin_neq',evBin_lss',evBin_gtr',reC_len,reC_ok,reC_take,reC_drop,List.append_nil,h98]
  all_goals repeat' (first|intro _|apply And.intro|(unfold dOk;kernel_rfl)|exact St.beq_refl _|(show altO _ _ _ _=true;kernel_rfl)|(show (_ || _)=true;kernel_rfl)|(show (_ && _)=true;kernel_rfl))
  all_goals exact ret_mkx rfl rfl s _ (ex1 ..) (fun H=>fz_plain H (plain_re _)) (plain_re _)
theorem t44cat {l:List Int} (hl:∀ x∈l,In64 x) {uses:Int} {d:Nat} (hd:d≤5) (ht:TreeLaw l uses d) (hb:TreeB l uses d) (s:MS) (b0:MB) (K:List MB) (hp:Pre (mA1 (d+1)) (mS1 (d+1)) s) (k:Int) (s1:MS) (hk:nx l 20 ⟨s.at_,s.left - 1,s.caps⟩=(k,s1)) (hn1:¬ s1.left < 3) (hn2:¬ (l.length:Int) < s1.at_) (h:k < 5) :
  call Tryz.prog pol1 52 [.rf 1 1 0 0,I ((d+1:Nat):Int)] (mH b0 l uses s K)=some (reAV ((.mk 2 [] (kidsF l (treeF l uses d) s1).1 0 0 0 0 false,(kidsF l (treeF l uses d) s1).2):Re×MS).1,mH b0 l uses ((.mk 2 [] (kidsF l (treeF l uses d) s1).1 0 0 0 0 false,(kidsF l (treeF l uses d) s1).2):Re×MS).2 K):=by
 simp only[mA1,mS1]at hp
 have hA:=mA1_pos d
 have hS:=mS1_pos d
 have hq:=nx_val l (n:=20) (by omega) ⟨s.at_,s.left - 1,s.caps⟩
 have p1:=nx_post l 20 ⟨s.at_,s.left - 1,s.caps⟩ hp.c
 obtain⟨pa,pl,pc⟩:=hp
 have h97:=fun K=>f97 l hl uses 20 (by omega) ⟨s.at_,s.left - 1,s.caps⟩ ⟨pa.1,by simp only;omega⟩ b0 K
 rw[hk]at hq p1 h97
 clear hk
 simp only at hq p1 h97
 obtain⟨qa,ql,qc⟩:=p1
 simp only at qa ql
 have hw:IntKind.i64.wrap (s.left - 1)=s.left - 1:=i64_in _ ⟨by omega,by omega⟩
 have hp5:Pre (5+3 * mA1 d) (3 * mS1 d) s1:=⟨⟨by omega,by omega⟩,⟨by omega,by omega⟩,qc⟩
 have h99:=fun K=>f99 hl hd ht hb s1 hp5 b0 K
 generalize kidsF l (treeF l uses d) s1=Y at *
 obtain⟨Y1,Y2⟩:=Y
 simp only at h99 ⊢
 have fr:frzArgs pol1 52 0 [.rf 1 1 0 0,I ((d+1:Nat):Int)] (mH b0 l uses s K)=some ([.rf 1 1 0 0,I ((d+1:Nat):Int)],mH b0 l uses s K):=frzArgs_mix _ _ _ rfl
 refine call_run2 (pol:=pol1) Tryz.func52 rfl rfl rfl rfl fr ?_
 simp +contextual (disch:=omega) only[Tryz.f52,dd52,go_sem,simprocAttr,mu52,↓wrap_up,↓wrap_down,↓wrap_pred,↓wrap_sub_nat,h97,hw,get_last,set_last,get_l2a,get_l2b,set_l2a,set_l2b,sameAt_l2,evBin_and,evBin_add',evBin_sub',evBin_eql',evBin_neq',evBin_lss',evBin_gtr',reC_len,reC_ok,reC_take,reC_drop,List.append_nil,h99]
 repeat' (first|intro _|apply And.intro|(unfold dOk;kernel_rfl)|exact St.beq_refl _|(show altO _ _ _ _=true;kernel_rfl)|(show (_ || _)=true;kernel_rfl)|(show (_ && _)=true;kernel_rfl))
 exact ret_node (by rfl) (by rfl) s _ (ex1 ..) true false 2 [] Y1 0 0 0 0 false
theorem t44alt {l:List Int} (hl:∀ x∈l,In64 x) {uses:Int} {d:Nat} (hd:d≤5) (ht:TreeLaw l uses d) (hb:TreeB l uses d) (s:MS) (b0:MB) (K:List MB) (hp:Pre (mA1 (d+1)) (mS1 (d+1)) s) (k:Int) (s1:MS) (hk:nx l 20 ⟨s.at_,s.left - 1,s.caps⟩=(k,s1)) (hn1:¬ s1.left < 3) (hn2:¬ (l.length:Int) < s1.at_) (h:5≤k) (h2:k < 8) :
  call Tryz.prog pol1 52 [.rf 1 1 0 0,I ((d+1:Nat):Int)] (mH b0 l uses s K)=some (reAV ((.mk 3 [] (kidsF l (treeF l uses d) s1).1 0 0 0 0 false,(kidsF l (treeF l uses d) s1).2):Re×MS).1,mH b0 l uses ((.mk 3 [] (kidsF l (treeF l uses d) s1).1 0 0 0 0 false,(kidsF l (treeF l uses d) s1).2):Re×MS).2 K):=by
 simp only[mA1,mS1]at hp
 have hA:=mA1_pos d
 have hS:=mS1_pos d
 have hq:=nx_val l (n:=20) (by omega) ⟨s.at_,s.left - 1,s.caps⟩
 have p1:=nx_post l 20 ⟨s.at_,s.left - 1,s.caps⟩ hp.c
 obtain⟨pa,pl,pc⟩:=hp
 have h97:=fun K=>f97 l hl uses 20 (by omega) ⟨s.at_,s.left - 1,s.caps⟩ ⟨pa.1,by simp only;omega⟩ b0 K
 rw[hk]at hq p1 h97
 clear hk
 simp only at hq p1 h97
 obtain⟨qa,ql,qc⟩:=p1
 simp only at qa ql
 have hw:IntKind.i64.wrap (s.left - 1)=s.left - 1:=i64_in _ ⟨by omega,by omega⟩
 have hp5:Pre (5+3 * mA1 d) (3 * mS1 d) s1:=⟨⟨by omega,by omega⟩,⟨by omega,by omega⟩,qc⟩
 have h99:=fun K=>f99 hl hd ht hb s1 hp5 b0 K
 generalize kidsF l (treeF l uses d) s1=Y at *
 obtain⟨Y1,Y2⟩:=Y
 simp only at h99 ⊢
 have fr:frzArgs pol1 52 0 [.rf 1 1 0 0,I ((d+1:Nat):Int)] (mH b0 l uses s K)=some ([.rf 1 1 0 0,I ((d+1:Nat):Int)],mH b0 l uses s K):=frzArgs_mix _ _ _ rfl
 refine call_run2 (pol:=pol1) Tryz.func52 rfl rfl rfl rfl fr ?_
 simp +contextual (disch:=omega) only[Tryz.f52,dd52,go_sem,simprocAttr,mu52,↓wrap_up,↓wrap_down,↓wrap_pred,↓wrap_sub_nat,h97,hw,get_last,set_last,get_l2a,get_l2b,set_l2a,set_l2b,sameAt_l2,evBin_and,evBin_add',evBin_sub',evBin_eql',evBin_neq',evBin_lss',evBin_gtr',reC_len,reC_ok,reC_take,reC_drop,List.append_nil,h99]
 repeat' (first|intro _|apply And.intro|(unfold dOk;kernel_rfl)|exact St.beq_refl _|(show altO _ _ _ _=true;kernel_rfl)|(show (_ || _)=true;kernel_rfl)|(show (_ && _)=true;kernel_rfl))
 exact ret_node (by rfl) (by rfl) s _ (ex1 ..) true false 3 [] Y1 0 0 0 0 false
theorem t44rep {l:List Int} (hl:∀ x∈l,In64 x) {uses:Int} {d:Nat} (hd:d≤5) (ht:TreeLaw l uses d) (hb:TreeB l uses d) (s:MS) (b0:MB) (K:List MB) (hp:Pre (mA1 (d+1)) (mS1 (d+1)) s) (k:Int) (s1:MS) (hk:nx l 20 ⟨s.at_,s.left - 1,s.caps⟩=(k,s1)) (hn1:¬ s1.left < 3) (hn2:¬ (l.length:Int) < s1.at_) (h:8≤k) (h2:k < 12) :
  call Tryz.prog pol1 52 [.rf 1 1 0 0,I ((d+1:Nat):Int)] (mH b0 l uses s K)=some (reAV (repF l uses (treeF l uses d) s1).1,mH b0 l uses (repF l uses (treeF l uses d) s1).2 K):=by
 simp only[mA1,mS1]at hp
 have hA:=mA1_pos d
 have hS:=mS1_pos d
 have hq:=nx_val l (n:=20) (by omega) ⟨s.at_,s.left - 1,s.caps⟩
 have p1:=nx_post l 20 ⟨s.at_,s.left - 1,s.caps⟩ hp.c
 obtain⟨pa,pl,pc⟩:=hp
 have h97:=fun K=>f97 l hl uses 20 (by omega) ⟨s.at_,s.left - 1,s.caps⟩ ⟨pa.1,by simp only;omega⟩ b0 K
 rw[hk]at hq p1 h97
 clear hk
 simp only at hq p1 h97
 obtain⟨qa,ql,qc⟩:=p1
 simp only at qa ql
 have hw:IntKind.i64.wrap (s.left - 1)=s.left - 1:=i64_in _ ⟨by omega,by omega⟩
 have hp5:Pre (5+3 * mA1 d) (3 * mS1 d) s1:=⟨⟨by omega,by omega⟩,⟨by omega,by omega⟩,qc⟩
 have h100:=fun K=>f100 hl hd ht hb s1 hp5 b0 K
 generalize repF l uses (treeF l uses d) s1=Y at *
 obtain⟨Y1,Y2⟩:=Y
 simp only at h100 ⊢
 have fr:frzArgs pol1 52 0 [.rf 1 1 0 0,I ((d+1:Nat):Int)] (mH b0 l uses s K)=some ([.rf 1 1 0 0,I ((d+1:Nat):Int)],mH b0 l uses s K):=frzArgs_mix _ _ _ rfl
 refine call_run2 (pol:=pol1) Tryz.func52 rfl rfl rfl rfl fr ?_
 simp +contextual (disch:=omega) only[Tryz.f52,dd52,go_sem,simprocAttr,mu52,↓wrap_up,↓wrap_down,↓wrap_pred,↓wrap_sub_nat,h97,hw,get_last,set_last,get_l2a,get_l2b,set_l2a,set_l2b,sameAt_l2,evBin_and,evBin_add',evBin_sub',evBin_eql',evBin_neq',evBin_lss',evBin_gtr',reC_len,reC_ok,reC_take,reC_drop,List.append_nil,h100]
 repeat' (first|intro _|apply And.intro|(unfold dOk;kernel_rfl)|exact St.beq_refl _|(show altO _ _ _ _=true;kernel_rfl)|(show (_ || _)=true;kernel_rfl)|(show (_ && _)=true;kernel_rfl))
 exact ret_mkx rfl rfl s _ (ex1 ..) (fun H=>fz_plain H (plain_re _)) (plain_re _)
theorem t44cap12 {l:List Int} (hl:∀ x∈l,In64 x) {uses:Int} {d:Nat} (hd:d≤5) (ht:TreeLaw l uses d) (hb:TreeB l uses d) (s:MS) (b0:MB) (K:List MB) (hp:Pre (mA1 (d+1)) (mS1 (d+1)) s) (k:Int) (s1:MS) (hk:nx l 20 ⟨s.at_,s.left - 1,s.caps⟩=(k,s1)) (hn1:¬ s1.left < 3) (hn2:¬ (l.length:Int) < s1.at_) (h:k=12) (u:0 < andI uses 64) :
  call Tryz.prog pol1 52 [.rf 1 1 0 0,I ((d+1:Nat):Int)] (mH b0 l uses s K)=some (reAV (capF l (treeF l uses d) s1).1,mH b0 l uses (capF l (treeF l uses d) s1).2 K):=by
 simp only[mA1,mS1]at hp
 have hA:=mA1_pos d
 have hS:=mS1_pos d
 have hq:=nx_val l (n:=20) (by omega) ⟨s.at_,s.left - 1,s.caps⟩
 have p1:=nx_post l 20 ⟨s.at_,s.left - 1,s.caps⟩ hp.c
 obtain⟨pa,pl,pc⟩:=hp
 have h97:=fun K=>f97 l hl uses 20 (by omega) ⟨s.at_,s.left - 1,s.caps⟩ ⟨pa.1,by simp only;omega⟩ b0 K
 rw[hk]at hq p1 h97
 clear hk
 simp only at hq p1 h97
 obtain⟨qa,ql,qc⟩:=p1
 simp only at qa ql
 have hw:IntKind.i64.wrap (s.left - 1)=s.left - 1:=i64_in _ ⟨by omega,by omega⟩
 have hp5:Pre (5+3 * mA1 d) (3 * mS1 d) s1:=⟨⟨by omega,by omega⟩,⟨by omega,by omega⟩,qc⟩
 subst h
 have h101:=fun K=>f101 hl hd ht hb s1 hp5 b0 K
 generalize capF l (treeF l uses d) s1=Y at *
 obtain⟨Y1,Y2⟩:=Y
 simp only at h101 ⊢
 have fr:frzArgs pol1 52 0 [.rf 1 1 0 0,I ((d+1:Nat):Int)] (mH b0 l uses s K)=some ([.rf 1 1 0 0,I ((d+1:Nat):Int)],mH b0 l uses s K):=frzArgs_mix _ _ _ rfl
 refine call_run2 (pol:=pol1) Tryz.func52 rfl rfl rfl rfl fr ?_
 simp +contextual (disch:=omega) only[Tryz.f52,dd52,go_sem,simprocAttr,mu52,↓wrap_up,↓wrap_down,↓wrap_pred,↓wrap_sub_nat,h97,hw,get_last,set_last,get_l2a,get_l2b,set_l2a,set_l2b,sameAt_l2,evBin_and,evBin_add',evBin_sub',evBin_eql',evBin_neq',evBin_lss',evBin_gtr',reC_len,reC_ok,reC_take,reC_drop,List.append_nil,h101]
 repeat' (first|intro _|apply And.intro|(unfold dOk;kernel_rfl)|exact St.beq_refl _|(show altO _ _ _ _=true;kernel_rfl)|(show (_ || _)=true;kernel_rfl)|(show (_ && _)=true;kernel_rfl))
 exact ret_mkx rfl rfl s _ (ex1 ..) (fun H=>fz_plain H (plain_re _)) (plain_re _)
theorem t44cap13 {l:List Int} (hl:∀ x∈l,In64 x) {uses:Int} {d:Nat} (hd:d≤5) (ht:TreeLaw l uses d) (hb:TreeB l uses d) (s:MS) (b0:MB) (K:List MB) (hp:Pre (mA1 (d+1)) (mS1 (d+1)) s) (k:Int) (s1:MS) (hk:nx l 20 ⟨s.at_,s.left - 1,s.caps⟩=(k,s1)) (hn1:¬ s1.left < 3) (hn2:¬ (l.length:Int) < s1.at_) (h:k=13) (u:0 < andI uses 64) :
  call Tryz.prog pol1 52 [.rf 1 1 0 0,I ((d+1:Nat):Int)] (mH b0 l uses s K)=some (reAV (capF l (treeF l uses d) s1).1,mH b0 l uses (capF l (treeF l uses d) s1).2 K):=by
 simp only[mA1,mS1]at hp
 have hA:=mA1_pos d
 have hS:=mS1_pos d
 have hq:=nx_val l (n:=20) (by omega) ⟨s.at_,s.left - 1,s.caps⟩
 have p1:=nx_post l 20 ⟨s.at_,s.left - 1,s.caps⟩ hp.c
 obtain⟨pa,pl,pc⟩:=hp
 have h97:=fun K=>f97 l hl uses 20 (by omega) ⟨s.at_,s.left - 1,s.caps⟩ ⟨pa.1,by simp only;omega⟩ b0 K
 rw[hk]at hq p1 h97
 clear hk
 simp only at hq p1 h97
 obtain⟨qa,ql,qc⟩:=p1
 simp only at qa ql
 have hw:IntKind.i64.wrap (s.left - 1)=s.left - 1:=i64_in _ ⟨by omega,by omega⟩
 have hp5:Pre (5+3 * mA1 d) (3 * mS1 d) s1:=⟨⟨by omega,by omega⟩,⟨by omega,by omega⟩,qc⟩
 subst h
 have h101:=fun K=>f101 hl hd ht hb s1 hp5 b0 K
 generalize capF l (treeF l uses d) s1=Y at *
 obtain⟨Y1,Y2⟩:=Y
 simp only at h101 ⊢
 have fr:frzArgs pol1 52 0 [.rf 1 1 0 0,I ((d+1:Nat):Int)] (mH b0 l uses s K)=some ([.rf 1 1 0 0,I ((d+1:Nat):Int)],mH b0 l uses s K):=frzArgs_mix _ _ _ rfl
 refine call_run2 (pol:=pol1) Tryz.func52 rfl rfl rfl rfl fr ?_
 simp +contextual (disch:=omega) only[Tryz.f52,dd52,go_sem,simprocAttr,mu52,↓wrap_up,↓wrap_down,↓wrap_pred,↓wrap_sub_nat,h97,hw,get_last,set_last,get_l2a,get_l2b,set_l2a,set_l2b,sameAt_l2,evBin_and,evBin_add',evBin_sub',evBin_eql',evBin_neq',evBin_lss',evBin_gtr',reC_len,reC_ok,reC_take,reC_drop,List.append_nil,h101]
 repeat' (first|intro _|apply And.intro|(unfold dOk;kernel_rfl)|exact St.beq_refl _|(show altO _ _ _ _=true;kernel_rfl)|(show (_ || _)=true;kernel_rfl)|(show (_ && _)=true;kernel_rfl))
 exact ret_mkx rfl rfl s _ (ex1 ..) (fun H=>fz_plain H (plain_re _)) (plain_re _)
theorem t44as {l:List Int} (hl:∀ x∈l,In64 x) {uses:Int} {d:Nat} (hd:d≤5) (ht:TreeLaw l uses d) (hb:TreeB l uses d) (s:MS) (b0:MB) (K:List MB) (hp:Pre (mA1 (d+1)) (mS1 (d+1)) s) (k:Int) (s1:MS) (hk:nx l 20 ⟨s.at_,s.left - 1,s.caps⟩=(k,s1)) (hn1:¬ s1.left < 3) (hn2:¬ (l.length:Int) < s1.at_) (h:k=14) (u:0 < andI uses 16) :
  call Tryz.prog pol1 52 [.rf 1 1 0 0,I ((d+1:Nat):Int)] (mH b0 l uses s K)=some (reAV ((.mk 11 [] [] 0 0 0 (nx l 6 s1).1 false,(nx l 6 s1).2):Re×MS).1,mH b0 l uses ((.mk 11 [] [] 0 0 0 (nx l 6 s1).1 false,(nx l 6 s1).2):Re×MS).2 K):=by
 simp only[mA1,mS1]at hp
 have hA:=mA1_pos d
 have hS:=mS1_pos d
 have hq:=nx_val l (n:=20) (by omega) ⟨s.at_,s.left - 1,s.caps⟩
 have p1:=nx_post l 20 ⟨s.at_,s.left - 1,s.caps⟩ hp.c
 obtain⟨pa,pl,pc⟩:=hp
 have h97:=fun K=>f97 l hl uses 20 (by omega) ⟨s.at_,s.left - 1,s.caps⟩ ⟨pa.1,by simp only;omega⟩ b0 K
 rw[hk]at hq p1 h97
 clear hk
 simp only at hq p1 h97
 obtain⟨qa,ql,qc⟩:=p1
 simp only at qa ql
 have hw:IntKind.i64.wrap (s.left - 1)=s.left - 1:=i64_in _ ⟨by omega,by omega⟩
 have hp5:Pre (5+3 * mA1 d) (3 * mS1 d) s1:=⟨⟨by omega,by omega⟩,⟨by omega,by omega⟩,qc⟩
 subst h
 have h97b:=fun K=>f97 l hl uses 6 (by omega) s1 ⟨by omega,by omega⟩ b0 K
 generalize nx l 6 s1=Y at *
 obtain⟨Y1,Y2⟩:=Y
 simp only at h97b ⊢
 have fr:frzArgs pol1 52 0 [.rf 1 1 0 0,I ((d+1:Nat):Int)] (mH b0 l uses s K)=some ([.rf 1 1 0 0,I ((d+1:Nat):Int)],mH b0 l uses s K):=frzArgs_mix _ _ _ rfl
 refine call_run2 (pol:=pol1) Tryz.func52 rfl rfl rfl rfl fr ?_
 simp +contextual (disch:=omega) only[Tryz.f52,dd52,go_sem,simprocAttr,mu52,↓wrap_up,↓wrap_down,↓wrap_pred,↓wrap_sub_nat,h97,hw,get_last,set_last,get_l2a,get_l2b,set_l2a,set_l2b,sameAt_l2,evBin_and,evBin_add',evBin_sub',evBin_eql',evBin_neq',evBin_lss',evBin_gtr',reC_len,reC_ok,reC_take,reC_drop,List.append_nil,h97b]
 repeat' (first|intro _|apply And.intro|(unfold dOk;kernel_rfl)|exact St.beq_refl _|(show altO _ _ _ _=true;kernel_rfl)|(show (_ || _)=true;kernel_rfl)|(show (_ && _)=true;kernel_rfl))
 exact ret_node (by rfl) (by rfl) s _ (ex1 ..) true true 11 [] [] 0 0 0 Y1 false
theorem t44look {l:List Int} (hl:∀ x∈l,In64 x) {uses:Int} {d:Nat} (hd:d≤5) (ht:TreeLaw l uses d) (hb:TreeB l uses d) (s:MS) (b0:MB) (K:List MB) (hp:Pre (mA1 (d+1)) (mS1 (d+1)) s) (k:Int) (s1:MS) (hk:nx l 20 ⟨s.at_,s.left - 1,s.caps⟩=(k,s1)) (hn1:¬ s1.left < 3) (hn2:¬ (l.length:Int) < s1.at_) (h:k=15) (u:0 < andI uses 4) :
  call Tryz.prog pol1 52 [.rf 1 1 0 0,I ((d+1:Nat):Int)] (mH b0 l uses s K)=some (reAV ((.mk (7+(nx l 2 (nx l 3 s1).2).1) [] [(treeF l uses d (nx l 2 (nx l 3 s1).2).2).1] 0 0 0 0 ((nx l 3 s1).1 == 0),(treeF l uses d (nx l 2 (nx l 3 s1).2).2).2):Re×MS).1,mH b0 l uses ((.mk (7+(nx l 2 (nx l 3 s1).2).1) [] [(treeF l uses d (nx l 2 (nx l 3 s1).2).2).1] 0 0 0 0 ((nx l 3 s1).1 == 0),(treeF l uses d (nx l 2 (nx l 3 s1).2).2).2):Re×MS).2 K):=by
 simp only[mA1,mS1]at hp
 have hA:=mA1_pos d
 have hS:=mS1_pos d
 have hq:=nx_val l (n:=20) (by omega) ⟨s.at_,s.left - 1,s.caps⟩
 have p1:=nx_post l 20 ⟨s.at_,s.left - 1,s.caps⟩ hp.c
 obtain⟨pa,pl,pc⟩:=hp
 have h97:=fun K=>f97 l hl uses 20 (by omega) ⟨s.at_,s.left - 1,s.caps⟩ ⟨pa.1,by simp only;omega⟩ b0 K
 rw[hk]at hq p1 h97
 clear hk
 simp only at hq p1 h97
 obtain⟨qa,ql,qc⟩:=p1
 simp only at qa ql
 have hw:IntKind.i64.wrap (s.left - 1)=s.left - 1:=i64_in _ ⟨by omega,by omega⟩
 have hp5:Pre (5+3 * mA1 d) (3 * mS1 d) s1:=⟨⟨by omega,by omega⟩,⟨by omega,by omega⟩,qc⟩
 subst h
 have h97b:=fun K=>f97 l hl uses 3 (by omega) s1 ⟨by omega,by omega⟩ b0 K
 have r1:=nx_post l 3 s1 qc
 generalize nx l 3 s1=Y at *
 obtain⟨x,s2⟩:=Y
 simp only at h97b r1 ⊢
 have h97c:=fun K=>f97 l hl uses 2 (by omega) s2 ⟨by have:=r1.a;omega,by have:=r1.a;omega⟩ b0 K
 have hv:=nx_val l (n:=2) (by omega) s2
 have r2:=r1.trans (nx_post l 2 s2 r1.c)
 generalize nx l 2 s2=Y at *
 obtain⟨y,s3⟩:=Y
 simp only at h97c hv r2 ⊢
 have h44:=fun K=>ht s3 b0 K (hp5.step r2 (by omega) (by omega))
 generalize treeF l uses d s3=Y at *
 obtain⟨Y1,Y2⟩:=Y
 simp only at h44 ⊢
 have fr:frzArgs pol1 52 0 [.rf 1 1 0 0,I ((d+1:Nat):Int)] (mH b0 l uses s K)=some ([.rf 1 1 0 0,I ((d+1:Nat):Int)],mH b0 l uses s K):=frzArgs_mix _ _ _ rfl
 refine call_run2 (pol:=pol1) Tryz.func52 rfl rfl rfl rfl fr ?_
 simp +contextual (disch:=omega) only[Tryz.f52,dd52,go_sem,simprocAttr,mu52,↓wrap_up,↓wrap_down,↓wrap_pred,↓wrap_sub_nat,h97,hw,get_last,set_last,get_l2a,get_l2b,set_l2a,set_l2b,sameAt_l2,evBin_and,evBin_add',evBin_sub',evBin_eql',evBin_neq',evBin_lss',evBin_gtr',reC_len,reC_ok,reC_take,reC_drop,List.append_nil,h97b,h97c,h44]
 repeat' (first|intro _|apply And.intro|(unfold dOk;kernel_rfl)|exact St.beq_refl _|(show altO _ _ _ _=true;kernel_rfl)|(show (_ || _)=true;kernel_rfl)|(show (_ && _)=true;kernel_rfl))
 exact ret_node (by rfl) (by rfl) s _ (ex1 ..) true true (7+y) [] [Y1] 0 0 0 0 (x == 0)
theorem t44atom {l:List Int} (hl:∀ x∈l,In64 x) {uses:Int} {d:Nat} (hd:d≤5) (ht:TreeLaw l uses d) (hb:TreeB l uses d) (s:MS) (b0:MB) (K:List MB) (hp:Pre (mA1 (d+1)) (mS1 (d+1)) s) (k:Int) (s1:MS) (hk:nx l 20 ⟨s.at_,s.left - 1,s.caps⟩=(k,s1)) (hn1:¬ s1.left < 3) (hn2:¬ (l.length:Int) < s1.at_) (h:k=16) (u:0 < andI uses 8) :
  call Tryz.prog pol1 52 [.rf 1 1 0 0,I ((d+1:Nat):Int)] (mH b0 l uses s K)=some (reAV ((.mk 9 [] [(treeF l uses d s1).1] 0 0 0 0 false,(treeF l uses d s1).2):Re×MS).1,mH b0 l uses ((.mk 9 [] [(treeF l uses d s1).1] 0 0 0 0 false,(treeF l uses d s1).2):Re×MS).2 K):=by
 simp only[mA1,mS1]at hp
 have hA:=mA1_pos d
 have hS:=mS1_pos d
 have hq:=nx_val l (n:=20) (by omega) ⟨s.at_,s.left - 1,s.caps⟩
 have p1:=nx_post l 20 ⟨s.at_,s.left - 1,s.caps⟩ hp.c
 obtain⟨pa,pl,pc⟩:=hp
 have h97:=fun K=>f97 l hl uses 20 (by omega) ⟨s.at_,s.left - 1,s.caps⟩ ⟨pa.1,by simp only;omega⟩ b0 K
 rw[hk]at hq p1 h97
 clear hk
 simp only at hq p1 h97
 obtain⟨qa,ql,qc⟩:=p1
 simp only at qa ql
 have hw:IntKind.i64.wrap (s.left - 1)=s.left - 1:=i64_in _ ⟨by omega,by omega⟩
 have hp5:Pre (5+3 * mA1 d) (3 * mS1 d) s1:=⟨⟨by omega,by omega⟩,⟨by omega,by omega⟩,qc⟩
 subst h
 have h44:=fun K=>ht s1 b0 K ⟨⟨by omega,by omega⟩,⟨by omega,by omega⟩,qc⟩
 generalize treeF l uses d s1=Y at *
 obtain⟨Y1,Y2⟩:=Y
 simp only at h44 ⊢
 have fr:frzArgs pol1 52 0 [.rf 1 1 0 0,I ((d+1:Nat):Int)] (mH b0 l uses s K)=some ([.rf 1 1 0 0,I ((d+1:Nat):Int)],mH b0 l uses s K):=frzArgs_mix _ _ _ rfl
 refine call_run2 (pol:=pol1) Tryz.func52 rfl rfl rfl rfl fr ?_
 simp +contextual (disch:=omega) only[Tryz.f52,dd52,go_sem,simprocAttr,mu52,↓wrap_up,↓wrap_down,↓wrap_pred,↓wrap_sub_nat,h97,hw,get_last,set_last,get_l2a,get_l2b,set_l2a,set_l2b,sameAt_l2,evBin_and,evBin_add',evBin_sub',evBin_eql',evBin_neq',evBin_lss',evBin_gtr',reC_len,reC_ok,reC_take,reC_drop,List.append_nil,h44]
 repeat' (first|intro _|apply And.intro|(unfold dOk;kernel_rfl)|exact St.beq_refl _|(show altO _ _ _ _=true;kernel_rfl)|(show (_ || _)=true;kernel_rfl)|(show (_ && _)=true;kernel_rfl))
 exact ret_node (by rfl) (by rfl) s _ (ex1 ..) true true 9 [] [Y1] 0 0 0 0 false
theorem t44ref {l:List Int} (hl:∀ x∈l,In64 x) {uses:Int} {d:Nat} (hd:d≤5) (ht:TreeLaw l uses d) (hb:TreeB l uses d) (s:MS) (b0:MB) (K:List MB) (hp:Pre (mA1 (d+1)) (mS1 (d+1)) s) (k:Int) (s1:MS) (hk:nx l 20 ⟨s.at_,s.left - 1,s.caps⟩=(k,s1)) (hn1:¬ s1.left < 3) (hn2:¬ (l.length:Int) < s1.at_) (h:k=17) (u:0 < andI uses 1) (c:0 < s1.caps) :
  call Tryz.prog pol1 52 [.rf 1 1 0 0,I ((d+1:Nat):Int)] (mH b0 l uses s K)=some (reAV ((.mk 6 [] [] 0 0 0 (1+(nx l s1.caps s1).1) false,(nx l s1.caps s1).2):Re×MS).1,mH b0 l uses ((.mk 6 [] [] 0 0 0 (1+(nx l s1.caps s1).1) false,(nx l s1.caps s1).2):Re×MS).2 K):=by
 simp only[mA1,mS1]at hp
 have hA:=mA1_pos d
 have hS:=mS1_pos d
 have hq:=nx_val l (n:=20) (by omega) ⟨s.at_,s.left - 1,s.caps⟩
 have p1:=nx_post l 20 ⟨s.at_,s.left - 1,s.caps⟩ hp.c
 obtain⟨pa,pl,pc⟩:=hp
 have h97:=fun K=>f97 l hl uses 20 (by omega) ⟨s.at_,s.left - 1,s.caps⟩ ⟨pa.1,by simp only;omega⟩ b0 K
 rw[hk]at hq p1 h97
 clear hk
 simp only at hq p1 h97
 obtain⟨qa,ql,qc⟩:=p1
 simp only at qa ql
 have hw:IntKind.i64.wrap (s.left - 1)=s.left - 1:=i64_in _ ⟨by omega,by omega⟩
 have hp5:Pre (5+3 * mA1 d) (3 * mS1 d) s1:=⟨⟨by omega,by omega⟩,⟨by omega,by omega⟩,qc⟩
 subst h
 have h97b:=fun K=>f97 l hl uses s1.caps (by omega) s1 ⟨by omega,by omega⟩ b0 K
 have hv:=nx_val l c s1
 generalize nx l s1.caps s1=Y at *
 obtain⟨Y1,Y2⟩:=Y
 simp only at h97b hv ⊢
 have fr:frzArgs pol1 52 0 [.rf 1 1 0 0,I ((d+1:Nat):Int)] (mH b0 l uses s K)=some ([.rf 1 1 0 0,I ((d+1:Nat):Int)],mH b0 l uses s K):=frzArgs_mix _ _ _ rfl
 refine call_run2 (pol:=pol1) Tryz.func52 rfl rfl rfl rfl fr ?_
 simp +contextual (disch:=omega) only[Tryz.f52,dd52,go_sem,simprocAttr,mu52,↓wrap_up,↓wrap_down,↓wrap_pred,↓wrap_sub_nat,h97,hw,get_last,set_last,get_l2a,get_l2b,set_l2a,set_l2b,sameAt_l2,evBin_and,evBin_add',evBin_sub',evBin_eql',evBin_neq',evBin_lss',evBin_gtr',reC_len,reC_ok,reC_take,reC_drop,List.append_nil,h97b]
 repeat' (first|intro _|apply And.intro|(unfold dOk;kernel_rfl)|exact St.beq_refl _|(show altO _ _ _ _=true;kernel_rfl)|(show (_ || _)=true;kernel_rfl)|(show (_ && _)=true;kernel_rfl))
 exact ret_node (by rfl) (by rfl) s _ (ex1 ..) true true 6 [] [] 0 0 0 (1+Y1) false
theorem t44cond {l:List Int} (hl:∀ x∈l,In64 x) {uses:Int} {d:Nat} (hd:d≤5) (ht:TreeLaw l uses d) (hb:TreeB l uses d) (s:MS) (b0:MB) (K:List MB) (hp:Pre (mA1 (d+1)) (mS1 (d+1)) s) (k:Int) (s1:MS) (hk:nx l 20 ⟨s.at_,s.left - 1,s.caps⟩=(k,s1)) (hn1:¬ s1.left < 3) (hn2:¬ (l.length:Int) < s1.at_) (h:k=18) (u:0 < andI uses 2) (c:0 < s1.caps) :
  call Tryz.prog pol1 52 [.rf 1 1 0 0,I ((d+1:Nat):Int)] (mH b0 l uses s K)=some (reAV ((.mk 10 [] [(treeF l uses d (nx l s1.caps s1).2).1,(treeF l uses d (treeF l uses d (nx l s1.caps s1).2).2).1] 0 0 0 (1+(nx l s1.caps s1).1) false,(treeF l uses d (treeF l uses d (nx l s1.caps s1).2).2).2):Re×MS).1,mH b0 l uses ((.mk 10 [] [(treeF l uses d (nx l s1.caps s1).2).1,(treeF l uses d (treeF l uses d (nx l s1.caps s1).2).2).1] 0 0 0 (1+(nx l s1.caps s1).1) false,(treeF l uses d (treeF l uses d (nx l s1.caps s1).2).2).2):Re×MS).2 K):=by
 simp only[mA1,mS1]at hp
 have hA:=mA1_pos d
 have hS:=mS1_pos d
 have hq:=nx_val l (n:=20) (by omega) ⟨s.at_,s.left - 1,s.caps⟩
 have p1:=nx_post l 20 ⟨s.at_,s.left - 1,s.caps⟩ hp.c
 obtain⟨pa,pl,pc⟩:=hp
 have h97:=fun K=>f97 l hl uses 20 (by omega) ⟨s.at_,s.left - 1,s.caps⟩ ⟨pa.1,by simp only;omega⟩ b0 K
 rw[hk]at hq p1 h97
 clear hk
 simp only at hq p1 h97
 obtain⟨qa,ql,qc⟩:=p1
 simp only at qa ql
 have hw:IntKind.i64.wrap (s.left - 1)=s.left - 1:=i64_in _ ⟨by omega,by omega⟩
 have hp5:Pre (5+3 * mA1 d) (3 * mS1 d) s1:=⟨⟨by omega,by omega⟩,⟨by omega,by omega⟩,qc⟩
 subst h
 have h97b:=fun K=>f97 l hl uses s1.caps (by omega) s1 ⟨by omega,by omega⟩ b0 K
 have hv:=nx_val l c s1
 have r1:=nx_post l s1.caps s1 qc
 generalize nx l s1.caps s1=Y at *
 obtain⟨x,s2⟩:=Y
 simp only at h97b hv r1 ⊢
 have pr1:Pre (mA1 d) (mS1 d) s2:=hp5.step r1 (by omega) (by omega)
 have h44a:=fun K=>ht s2 b0 K pr1
 have r2:=r1.trans (hb s2 pr1)
 generalize treeF l uses d s2=Y at *
 obtain⟨y,s3⟩:=Y
 simp only at h44a r2 ⊢
 have h44b:=fun K=>ht s3 b0 K (hp5.step r2 (by omega) (by omega))
 generalize treeF l uses d s3=Y at *
 obtain⟨Y1,Y2⟩:=Y
 simp only at h44b ⊢
 have fr:frzArgs pol1 52 0 [.rf 1 1 0 0,I ((d+1:Nat):Int)] (mH b0 l uses s K)=some ([.rf 1 1 0 0,I ((d+1:Nat):Int)],mH b0 l uses s K):=frzArgs_mix _ _ _ rfl
 refine call_run2 (pol:=pol1) Tryz.func52 rfl rfl rfl rfl fr ?_
 simp +contextual (disch:=omega) only[Tryz.f52,dd52,go_sem,simprocAttr,mu52,↓wrap_up,↓wrap_down,↓wrap_pred,↓wrap_sub_nat,h97,hw,get_last,set_last,get_l2a,get_l2b,set_l2a,set_l2b,sameAt_l2,evBin_and,evBin_add',evBin_sub',evBin_eql',evBin_neq',evBin_lss',evBin_gtr',reC_len,reC_ok,reC_take,reC_drop,List.append_nil,h97b,h44a,h44b]
 repeat' (first|intro _|apply And.intro|(unfold dOk;kernel_rfl)|exact St.beq_refl _|(show altO _ _ _ _=true;kernel_rfl)|(show (_ || _)=true;kernel_rfl)|(show (_ && _)=true;kernel_rfl))
 exact ret_node (by rfl) (by rfl) s _ (ex2 ..) true true 10 [] [y,Y1] 0 0 0 (1+x) false
theorem t44else {l:List Int} (hl:∀ x∈l,In64 x) {uses:Int} {d:Nat} (hd:d≤5) (ht:TreeLaw l uses d) (hb:TreeB l uses d) (s:MS) (b0:MB) (K:List MB) (hp:Pre (mA1 (d+1)) (mS1 (d+1)) s) (k:Int) (s1:MS) (hk:nx l 20 ⟨s.at_,s.left - 1,s.caps⟩=(k,s1)) (hn1:¬ s1.left < 3) (hn2:¬ (l.length:Int) < s1.at_) (h:12≤k) (n12:¬ (k=12∧0 < andI uses 64)) (n13:¬ (k=13∧0 < andI uses 64)) (n14:¬ (k=14∧0 < andI uses 16)) (n15:¬ (k=15∧0 < andI uses 4)) (n16:¬ (k=16∧0 < andI uses 8)) (n17:¬ (k=17∧0 < andI uses 1∧0 < s1.caps)) (n18:¬ (k=18∧0 < andI uses 2∧0 < s1.caps)) :
  call Tryz.prog pol1 52 [.rf 1 1 0 0,I ((d+1:Nat):Int)] (mH b0 l uses s K)=some (reAV (setM l s1).1,mH b0 l uses (setM l s1).2 K):=by
 simp only[mA1,mS1]at hp
 have hA:=mA1_pos d
 have hS:=mS1_pos d
 have hq:=nx_val l (n:=20) (by omega) ⟨s.at_,s.left - 1,s.caps⟩
 have p1:=nx_post l 20 ⟨s.at_,s.left - 1,s.caps⟩ hp.c
 obtain⟨pa,pl,pc⟩:=hp
 have h97:=fun K=>f97 l hl uses 20 (by omega) ⟨s.at_,s.left - 1,s.caps⟩ ⟨pa.1,by simp only;omega⟩ b0 K
 rw[hk]at hq p1 h97
 clear hk
 simp only at hq p1 h97
 obtain⟨qa,ql,qc⟩:=p1
 simp only at qa ql
 have hw:IntKind.i64.wrap (s.left - 1)=s.left - 1:=i64_in _ ⟨by omega,by omega⟩
 have hp5:Pre (5+3 * mA1 d) (3 * mS1 d) s1:=⟨⟨by omega,by omega⟩,⟨by omega,by omega⟩,qc⟩
 have h98:=fun K=>f98 l hl uses s1 ⟨by omega,by omega⟩ b0 K
 generalize setM l s1=Y at *
 obtain⟨Y1,Y2⟩:=Y
 simp only at h98 ⊢
 have fr:frzArgs pol1 52 0 [.rf 1 1 0 0,I ((d+1:Nat):Int)] (mH b0 l uses s K)=some ([.rf 1 1 0 0,I ((d+1:Nat):Int)],mH b0 l uses s K):=frzArgs_mix _ _ _ rfl
 refine call_run2 (pol:=pol1) Tryz.func52 rfl rfl rfl rfl fr ?_
 simp +contextual (disch:=omega) only[Tryz.f52,dd52,go_sem,simprocAttr,mu52,↓wrap_up,↓wrap_down,↓wrap_pred,↓wrap_sub_nat,h97,hw,get_last,set_last,get_l2a,get_l2b,set_l2a,set_l2b,sameAt_l2,evBin_and,evBin_add',evBin_sub',evBin_eql',evBin_neq',evBin_lss',evBin_gtr',reC_len,reC_ok,reC_take,reC_drop,List.append_nil,h98]
 repeat' (first|intro _|apply And.intro|(unfold dOk;kernel_rfl)|exact St.beq_refl _|(show altO _ _ _ _=true;kernel_rfl)|(show (_ || _)=true;kernel_rfl)|(show (_ && _)=true;kernel_rfl))
 all_goals exact ret_mkx rfl rfl s _ (ex1 ..) (fun H=>fz_plain H (plain_re _)) (plain_re _)
theorem f44_succ {l:List Int} (hl:∀ x∈l,In64 x) {uses:Int} {d:Nat} (hd:d≤5) (ht:TreeLaw l uses d) (hb:TreeB l uses d):TreeLaw l uses (d+1):=by
 intro s b0 K hp
 simp only[treeF]
 generalize hk:nx l 20 ⟨s.at_,s.left - 1,s.caps⟩=Y
 obtain⟨k,s1⟩:=Y
 simp only
 have hq:=nx_val l (n:=20) (by omega) ⟨s.at_,s.left - 1,s.caps⟩
 rw[hk]at hq
 simp only at hq
 unfold treeStep
 by_cases hc:s1.left < 3∨(l.length:Int) < s1.at_
 ·rw[if_pos hc];exact leafS hl hd s b0 K hp k s1 hk hc
 rw[if_neg hc]
 have hn1:¬ s1.left < 3:=fun h=>hc (.inl h)
 have hn2:¬ (l.length:Int) < s1.at_:=fun h=>hc (.inr h)
 by_cases h5:k < 5
 ·rw[if_pos h5];exact t44cat hl hd ht hb s b0 K hp k s1 hk hn1 hn2 h5
 rw[if_neg h5]
 by_cases h8:k < 8
 ·rw[if_pos h8];exact t44alt hl hd ht hb s b0 K hp k s1 hk hn1 hn2 (by omega) h8
 rw[if_neg h8]
 by_cases h12:k < 12
 ·rw[if_pos h12];exact t44rep hl hd ht hb s b0 K hp k s1 hk hn1 hn2 (by omega) h12
 rw[if_neg h12]
 by_cases c1:(k=12∨k=13)∧0 < andI uses 64
 ·rw[if_pos c1]
  rcases c1.1 with e|e
  ·exact t44cap12 hl hd ht hb s b0 K hp k s1 hk hn1 hn2 e c1.2
  ·exact t44cap13 hl hd ht hb s b0 K hp k s1 hk hn1 hn2 e c1.2
 rw[if_neg c1]
 by_cases c2:k=14∧0 < andI uses 16
 ·rw[if_pos c2];exact t44as hl hd ht hb s b0 K hp k s1 hk hn1 hn2 c2.1 c2.2
 rw[if_neg c2]
 by_cases c3:k=15∧0 < andI uses 4
 ·rw[if_pos c3];exact t44look hl hd ht hb s b0 K hp k s1 hk hn1 hn2 c3.1 c3.2
 rw[if_neg c3]
 by_cases c4:k=16∧0 < andI uses 8
 ·rw[if_pos c4];exact t44atom hl hd ht hb s b0 K hp k s1 hk hn1 hn2 c4.1 c4.2
 rw[if_neg c4]
 by_cases c5:k=17∧0 < andI uses 1∧0 < s1.caps
 ·rw[if_pos c5];exact t44ref hl hd ht hb s b0 K hp k s1 hk hn1 hn2 c5.1 c5.2.1 c5.2.2
 rw[if_neg c5]
 by_cases c6:k=18∧0 < andI uses 2∧0 < s1.caps
 ·rw[if_pos c6];exact t44cond hl hd ht hb s b0 K hp k s1 hk hn1 hn2 c6.1 c6.2.1 c6.2.2
 rw[if_neg c6]
 exact t44else hl hd ht hb s b0 K hp k s1 hk hn1 hn2 (by omega) (fun h=>c1 ⟨.inl h.1,h.2⟩) (fun h=>c1 ⟨.inr h.1,h.2⟩) c2 c3 c4 c5 c6
theorem tree_all {l:List Int} (hl:∀ x∈l,In64 x) (uses:Int):∀ d,d≤6→TreeLaw l uses d∧TreeB l uses d
 | 0,_=>⟨fun s b0 K hp=>by
    simp only[treeF]
    generalize hk:nx l 20 ⟨s.at_,s.left - 1,s.caps⟩=Y
    obtain⟨k,s1⟩:=Y
    exact leaf0 hl s b0 K hp k s1 hk,treeB_zero⟩
 | d+1,h=>by
   obtain⟨h1,h2⟩:=tree_all hl uses d (by omega)
   exact⟨f44_succ hl (by omega) h1 h2,treeB_succ h2⟩
theorem f11m (l:List Int) (hl:∀ x∈l,In64 x) (uses most:Int) (hmo:0≤most∧most≤1000) (H:List MB) :
  call Tryz.prog pol1 24 [.sl false (l.map I),I uses,I most] H=some (patAV ⟨(treeF l uses 5 ⟨0,most,0⟩).1,(treeF l uses 5 ⟨0,most,0⟩).2.caps,false⟩,H):=by
 refine call_run Tryz.func24 rfl rfl rfl rfl rfl rfl (fun _=>rfl) (by simp[AV.plain,AV.plainL,plain_ints]) (show AV.plain (patAV _)=true from plain_patC _) ?_ H
 have hpre:Pre (mA1 5) (mS1 5) ⟨0,most,0⟩:=by
  have h1:mS1 5=364:=rfl
  have h2:mA1 5=1818:=rfl
  exact⟨by simp only[h2];omega,by simp only[h1];omega,by simp only[];omega⟩
 have h44:∀ b0,call Tryz.prog pol1 52 [.rf 1 1 0 0,I 5] [b0,.row 5 [.agg [.sl false (l.map I),I 0,I uses,I most,I 0]] 0]=some (reAV (treeF l uses 5 ⟨0,most,0⟩).1,mH b0 l uses (treeF l uses 5 ⟨0,most,0⟩).2 []):=fun b0=>(tree_all hl uses 5 (by omega)).1 ⟨0,most,0⟩ b0 [] hpre
 generalize treeF l uses 5 ⟨0,most,0⟩=Y at *
 obtain⟨r,s⟩:=Y
 simp only at h44 ⊢
 have htk8:∀ r l,List.take 8 (reC r++l)=reC r:=fun r l=>by
  have:=reC_len r
  rw[List.take_append_of_le_length (by omega)];exact List.take_of_length_le (by omega)
 have hdr9:∀ r (a b:AV),List.drop 9 (reC r++[a,b])=[b]:=fun r a b=>by
  have:=reC_len r
  rw[show (9:Nat)=8+1 from rfl,← List.drop_drop,List.drop_append_of_le_length (by omega),reC_drop];rfl
 have ht10:∀ a b:AV,List.take 10 (reC r++[a,b])=reC r++[a,b]:=fun a b=>List.take_of_length_le (by simp[reC_len])
 simp +contextual (disch:=omega) only[Tryz.f24,dd24,go_sem,simprocAttr,evBin,mu24,↓wrap_up,↓wrap_down,↓wrap_pred,↓wrap_sub_nat,h44,htk8,hdr9,ht10,reC_len,reC_ok,reC_take,reC_drop,List.all_append]
 repeat' (first|intro _|apply And.intro|(unfold dOk;kernel_rfl)|exact St.beq_refl _|(show altO _ _ _ _=true;kernel_rfl)|(show (_ || _)=true;kernel_rfl)|(show (_ && _)=true;kernel_rfl))
 exact⟨_,fz_plain _ (plain_patC ⟨r,s.caps,false⟩)⟩
end
end Go.Ev
