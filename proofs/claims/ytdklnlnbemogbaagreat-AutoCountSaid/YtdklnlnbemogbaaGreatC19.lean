/- What functions of the program compute; no further conditions. -/
import Derived.Test.YtdklnlnbemogbaaGreatC07
import Derived.Test.YtdklnlnbemogbaaGreatC18
import Derived.Test.YtdklnlnbemogbaaGreatC16
import Derived.Test.YtdklnlnbemogbaaGreatC17
set_option linter.unusedVariables false
set_option linter.unusedSimpArgs false
namespace Go.Ev
attribute [local go_sem] retE_norm retE_ret bndO bnd evEq eqCells not_false_eq_true not_true_eq_false toList_some Array.size_empty List.length_append tySzE List.head?_drop Nat.mul_one sameAt_zero sameAt_two sameAt_three sameAt_four sameAt_five room_ok
section
attribute [local go_sem] evAppend List.map_append
open Go.Proofs Go.RowKit Go.IntWalk
set_option maxRecDepth 100000
set_option maxHeartbeats 4000000
theorem f180 (x:Int) (H:List MB):call Tryz.prog pol1 180 [I x] H=some (.bool false,H):=by
 refine call_run Tryz.func180 rfl rfl rfl rfl rfl rfl (fun _=>rfl) (by simp[AV.plain,AV.plainL]) (by simp[AV.plain]) ?_ H
 simp +contextual (disch:=omega) only[Tryz.f180,dd180,go_sem,simprocAttr,mu180,↓wrap_up,↓wrap_down,↓wrap_pred,↓wrap_sub_nat]
 exact fzEq rfl rfl
theorem f133 (x y:Int) (H:List MB):call Tryz.prog pol1 133 [I x,I y] H=some (I (cmpZ x y),H):=by
 refine call_run Tryz.func133 rfl rfl rfl rfl rfl rfl (fun _=>rfl) (by simp[AV.plain,AV.plainL]) (by simp[AV.plain]) ?_ H
 have h1:=f180 x
 have h2:=f180 y
 by_cases c1:x<y
 ·have e:cmpZ x y = -1:=by simp[cmpZ,c1]
  rw[e]
  simp +contextual (disch:=omega) only[Tryz.f133,dd133,go_sem,simprocAttr,mu133,↓wrap_up,↓wrap_down,↓wrap_pred,↓wrap_sub_nat,h1,h2,c1]
  exact fzEq rfl rfl
 ·by_cases c2:x > y
  ·have e:cmpZ x y=1:=by unfold cmpZ;rw[if_neg c1,if_pos (by omega)]
   rw[e]
   simp +contextual (disch:=omega) only[Tryz.f133,dd133,go_sem,simprocAttr,mu133,↓wrap_up,↓wrap_down,↓wrap_pred,↓wrap_sub_nat,h1,h2,c1,c2]
   exact fzEq rfl rfl
  ·have e:cmpZ x y=0:=by unfold cmpZ;rw[if_neg c1,if_neg (by omega)]
   rw[e]
   simp +contextual (disch:=omega) only[Tryz.f133,dd133,go_sem,simprocAttr,mu133,↓wrap_up,↓wrap_down,↓wrap_pred,↓wrap_sub_nat,h1,h2,c1,c2]
   exact fzEq rfl rfl
theorem f132 (p:Pl) (x:Int) (H:List MB):call Tryz.prog pol1 132 [el3 p,I x] H=some (I (cmpZ p.2.1 x),H):=by
 refine call_run Tryz.func132 rfl rfl rfl rfl rfl rfl (fun _=>rfl) (by simp[AV.plain,AV.plainL,el3]) (by simp[AV.plain]) ?_ H
 have h1:=f133 p.2.1 x
 simp +contextual (disch:=omega) only[Tryz.f132,dd132,go_sem,simprocAttr,mu132,↓wrap_up,↓wrap_down,↓wrap_pred,↓wrap_sub_nat,h1,el3]
 exact fzEq rfl rfl
structure FindAt (S:List Pl) (x:Int) (k:Nat):Prop where
 le:k≤S.length
 lo:∀(j:Nat) (p:Pl),j<k→S[j]?=some p→p.2.1<x
 hi:∀(j:Nat) (p:Pl),k≤j→S[j]?=some p→x≤p.2.1
def foundB (S:List Pl) (x:Int) (k:Nat):Bool:=match S[k]? with
 | some p=>decide (p.2.1=x)
 | none=>false
structure BS where
 i:Nat
 j:Nat
theorem f131 (S:List Pl) (x:Int) (k:Nat) (hk:FindAt S x k) (hl:S.length≤1000000) (H:List MB) :
  call Tryz.prog pol1 131 [.sl false (S.map el3),I x,.clo 132 []] H=some (.tup [I k,.bool (foundB S x k)],H):=by
 have hpl:=plain_el3 S
 refine call_run Tryz.func131 rfl rfl rfl rfl rfl rfl (fun _=>rfl) (by simp[AV.plain,AV.plainL,hpl]) (by simp[AV.plain,AV.plainL]) ?_ H
 simp +contextual (disch:=omega) only[Tryz.f131,dd131,go_sem,simprocAttr,mu131,↓wrap_up,↓wrap_down,↓wrap_pred,↓wrap_sub_nat]
 refine W_for (σ:=BS) (M:=(mskOf (pol1.mask 131) (pol1.gc 131) (pol1.acts 131) 0 3)) rfl (fun s=>(⟨49,[(10,I s.j),(9,I s.i),(8,I S.length),(2,.clo 132 []),(1,I x),(0,.sl false (S.map el3))],[]⟩:St)) (fun s=>s.i≤k∧k≤s.j∧s.j≤S.length) (fun s=>s.j-s.i) ⟨0,S.length⟩ ?_ ⟨Nat.zero_le _,hk.le,Nat.le_refl _⟩ _ rfl
 rintro⟨i,j⟩ ⟨a1,a2,a3⟩
 simp only at a1 a2 a3
 by_cases c:i<j
 ·obtain⟨p,hp⟩:∃ p,S[(i+j) / 2]?=some p:=⟨_,List.getElem?_eq_getElem (by omega)⟩
  have hp':(S.map el3)[(i+j) / 2]?=some (.agg [I p.1,I p.2.1,I p.2.2]):=by simp[hp,el3]
  have h132:∀ H,call Tryz.prog pol1 132 [.agg [I p.1,I p.2.1,I p.2.2],I x] H=some (I (cmpZ p.2.1 x),H):=f132 p x
  have w1:IntKind.i64.wrap ((i:Int)+(j:Int))=((i+j:Nat):Int):=by rw[i64_in]<;>omega
  have w2:IntKind.u64.wrap ((i+j:Nat):Int)=((i+j:Nat):Int):=by simp[IntKind.wrap,IntKind.bits,IntKind.signed];omega
  have w3:evShift .shr .u64 ((i+j:Nat):Int) 1=some (.int .u64 (((i+j) / 2:Nat):Int)):=by
   have:(((i+j:Nat):Int)).fdiv 2=(((i+j) / 2:Nat):Int):=by rw[Int.fdiv_eq_ediv_of_nonneg _ (by omega)];omega
   unfold evShift
   rw[if_neg (by omega)]
   simp only[show min (Int.toNat 1) (IntKind.bits .u64)=1 from rfl,Int.pow_succ,Int.pow_zero,Int.one_mul,this]
  have w3':(((i+j:Nat):Int)).fdiv 2=(((i+j) / 2:Nat):Int):=by rw[Int.fdiv_eq_ediv_of_nonneg _ (by omega)];omega
  have w4:IntKind.i64.wrap ((((i+j) / 2:Nat):Int))=(((i+j) / 2:Nat):Int):=by rw[i64_in]<;>omega
  have hlt:(i+j) / 2<S.length:=by omega
  by_cases c2:p.2.1<x
  ·have e:cmpZ p.2.1 x = -1:=by simp[cmpZ,c2]
   rw[e]at h132
   generalize hm:(i+j) / 2=m at *
   simp +contextual (disch:=omega) only[Tryz.f131,dd131,go_sem,simprocAttr,mu131,↓wrap_up,↓wrap_down,↓wrap_pred,↓wrap_sub_nat,w1,w2,w3,w4,hp',h132]
   refine⟨⟨m+1,j⟩,⟨?_,a2,a3⟩,?_,rfl⟩
   ·show m+1≤k
    rcases Nat.lt_or_ge m k with g|g
    ·exact g
    ·have:=hk.hi m p g hp;omega
   ·show j-(m+1)<j-i
    omega
  ·have e:¬ cmpZ p.2.1 x<0:=by unfold cmpZ;split<;>(try split)<;>omega
   generalize cmpZ p.2.1 x=z at *
   generalize hm:(i+j) / 2=m at *
   simp +contextual (disch:=omega) only[Tryz.f131,dd131,go_sem,simprocAttr,mu131,↓wrap_up,↓wrap_down,↓wrap_pred,↓wrap_sub_nat,w1,w2,w3,w4,hp',h132,e]
   refine⟨⟨i,m⟩,⟨a1,?_,?_⟩,?_,rfl⟩
   ·show k≤m
    rcases Nat.lt_or_ge m k with g|g
    ·have:=hk.lo m p g hp;omega
    ·exact g
   ·show m≤S.length
    omega
   ·show m-i<j-i
    omega
 ·obtain rfl:i=k:=by omega
  by_cases c2:i<S.length
  ·obtain⟨p,hp⟩:∃ p,S[i]?=some p:=⟨_,List.getElem?_eq_getElem c2⟩
   have hp':(S.map el3)[i]?=some (.agg [I p.1,I p.2.1,I p.2.2]):=by simp[hp,el3]
   have h132:∀ H,call Tryz.prog pol1 132 [.agg [I p.1,I p.2.1,I p.2.2],I x] H=some (I (cmpZ p.2.1 x),H):=f132 p x
   have e:foundB S x i=(cmpZ p.2.1 x==0):=by
    simp only[foundB,hp,cmpZ]
    split
    ·simp;omega
    ·split
     ·simp;omega
     ·simp;omega
   rw[e]
   simp +contextual (disch:=omega) only[Tryz.f131,dd131,go_sem,simprocAttr,mu131,↓wrap_up,↓wrap_down,↓wrap_pred,↓wrap_sub_nat,hp',h132]
   exact fzEq rfl rfl
  ·have e:foundB S x i=false:=by simp[foundB,List.getElem?_eq_none (Nat.le_of_not_lt c2)]
   rw[e]
   simp +contextual (disch:=omega) only[Tryz.f131,dd131,go_sem,simprocAttr,mu131,↓wrap_up,↓wrap_down,↓wrap_pred,↓wrap_sub_nat]
   exact fzEq rfl rfl
def findK (S:List Pl) (x:Int):Nat:=S.findIdx fun p=>decide (x≤p.2.1)
theorem DivOk.findAt {cl:Cls}{top:Int} (h:DivOk cl top) (x:Int):FindAt (sortP (placesL 0 cl)) x (findK (sortP (placesL 0 cl)) x):=by
 have ho:=chain_order h.chain (fun p hp=>(h.val p hp).2)
 refine⟨List.findIdx_le_length,fun j p hj hp=>?_,fun j p hj hp=>?_⟩
 ·have hjl:=(List.getElem?_eq_some_iff.1 hp).1
  have:=List.not_of_lt_findIdx hj
  have e:=(List.getElem?_eq_some_iff.1 hp).2
  simp only[e]at this
  simpa using this
 ·have hjl:=(List.getElem?_eq_some_iff.1 hp).1
  have hkl:findK (sortP (placesL 0 cl)) x<(sortP (placesL 0 cl)).length:=by omega
  have h1:decide (x≤((sortP (placesL 0 cl))[findK (sortP (placesL 0 cl)) x]'hkl).2.1)=true:=List.findIdx_getElem (p:=fun p:Pl=>decide (x≤p.2.1)) (w:=hkl)
  simp only[decide_eq_true_eq]at h1
  rcases Nat.eq_or_lt_of_le hj with g|g
  ·obtain⟨_,e⟩:=List.getElem?_eq_some_iff.1 hp
   subst g;rw[← e];exact h1
  ·have:=(order_hi ho (fun p hp=>(h.val p hp).2) g (by simpa using hjl)).2
   simp only[List.getElem_map,spanOf]at this
   obtain⟨_,e⟩:=List.getElem?_eq_some_iff.1 hp
   rw[e]at this
   omega
abbrev findAV (cl:Cls):AV:=.clo 130 [.pt [.sl false ((sortP (placesL 0 cl)).map el3)]]
theorem f130 {cl:Cls}{top:Int} (h:DivOk cl top) (hs:(cl.map List.length).sum≤1000000) {x:Int} (h0:0≤x) (h1:x≤top) (H:List MB) :
  call Tryz.prog pol1 130 [I x,.pt [.sl false ((sortP (placesL 0 cl)).map el3)]] H=some (I (clIx cl x),H):=by
 have hlen:(sortP (placesL 0 cl)).length≤1000000:=by rw[sortP_length,placesL_len];exact hs
 have hf:=h.findAt x
 obtain⟨p,hp,hc⟩:=h.search h0 h1 hf.le hf.lo hf.hi
 have h131:=f131 _ x _ hf hlen
 generalize findK (sortP (placesL 0 cl)) x=k at *
 generalize sortP (placesL 0 cl)=S at *
 have hpl:=plain_el3 S
 have hp':(S.map el3)[k]?=some (.agg [I p.1,I p.2.1,I p.2.2]):=by simp[hp,el3]
 have hkl:=(List.getElem?_eq_some_iff.1 hp).1
 refine call_run2 Tryz.func130 rfl rfl rfl rfl (by rfl) ?_
 simp +contextual (disch:=omega) only[Tryz.f130,dd130,go_sem,simprocAttr,mu130,↓wrap_up,↓wrap_down,↓wrap_pred,↓wrap_sub_nat,h131,hp',hc]
 have hko:=keptOk_self H.length [] H
 rw[List.append_nil]at hko
 exact retPol_keep rfl rfl rfl hko (List.take_of_length_le (Nat.le_refl _))
theorem f73 (cl:Cls) (hl:cl.length≤1000000) (hs:(cl.map List.length).sum≤1000000) (H:List MB):call Tryz.prog pol1 73 [.sl false (cl.map setAV9)] H=some (findAV cl,H):=by
 have hpl:=plain_cls cl
 have h129:=f129 cl hl hs
 have hpe:=plain_el3 (sortP (placesL 0 cl))
 unfold findAV
 generalize sortP (placesL 0 cl)=S at *
 refine call_run Tryz.func73 rfl rfl rfl rfl rfl rfl (fun _=>rfl) (by simp[AV.plain,AV.plainL,hpl]) (by simp[AV.plain,AV.plainL,hpe]) ?_ H
 have hz:fzS (.rf 0 1 0 0) [.row 1 [.sl false (S.map el3)] 0]=some (.pt [.sl false (S.map el3)],[.row 1 [.sl false (S.map el3)] 1]):=rfl
 simp +contextual (disch:=omega) only[Tryz.f73,dd73,go_sem,simprocAttr,mu73,↓wrap_up,↓wrap_down,↓wrap_pred,↓wrap_sub_nat,h129,hz]
 exact fzEq (by simp[AV.plain,AV.plainL,hpe]) rfl
def lastHi (s:List (Int×Int)):Int:=((s[s.length-1]?).map (·.2)).getD 0
def topL (cl:Cls):Int:=cl.foldl (fun o s=>max o (lastHi s)) 0
theorem topL_take {cl:Cls}{i:Nat}{s:List (Int×Int)} (h:cl[i]?=some s):topL (cl.take (i+1))=max (topL (cl.take i)) (lastHi s):=by
 unfold topL
 rw[List.take_add_one,h,Option.toList_some,List.foldl_append];rfl
theorem f72 (a:AutoL) (hb:AutoB a) (hne:∀ s∈a.cl,s≠[]) (H:List MB):call Tryz.prog pol1 72 [autoAV a] H=some (I (topL a.cl),H):=by
 have hpl:=plain_auto a
 have b1:=hb.cl
 have hsl:∀ s∈a.cl,s.length≤1000000:=fun s hm=>by
  have:s.length≤(a.cl.map List.length).sum:=le_sum_mem (List.mem_map.2 ⟨s,hm,rfl⟩)
  have:=hb.sum
  omega
 obtain⟨cl,nx,ac⟩:=a
 simp only at b1 hsl hne ⊢
 refine call_run Tryz.func72 rfl rfl rfl rfl rfl rfl (fun _=>rfl) (by simp only[AV.plainL,hpl];rfl) (by simp[AV.plain]) ?_ H
 simp +contextual (disch:=omega) only[Tryz.f72,dd72,go_sem,simprocAttr,mu72,↓wrap_up,↓wrap_down,↓wrap_pred,↓wrap_sub_nat]
 refine W_count (M:=(mskOf (pol1.mask 72) (pol1.gc 72) (pol1.acts 72) 0 3)) rfl cl.length (fun i=>(⟨24,[(9,I i),(8,I cl.length),(7,.sl false (cl.map setAV9)),(3,I (topL (cl.take i)))],[.row 3 [autoAV ⟨cl,nx,ac⟩] 0]⟩:St)) (fun i=>True) ?_ ?_ trivial _ rfl
 ·intro i hi _
  obtain⟨s,hsi⟩:∃ s,cl[i]?=some s:=⟨_,List.getElem?_eq_getElem hi⟩
  have hsi':(cl.map setAV9)[i]?=some (setAV9 s):=by simp[hsi]
  have hs0:=hne s (List.mem_of_getElem? hsi)
  have hs1:=hsl s (List.mem_of_getElem? hsi)
  have hpos:=List.length_pos_iff.2 hs0
  obtain⟨p,hp⟩:∃ p,s[s.length-1]?=some p:=⟨_,List.getElem?_eq_getElem (by omega)⟩
  have hp':(s.map spanAV)[s.length-1]?=some (spanAV p):=by simp[hp]
  have e:lastHi s=p.2:=by simp[lastHi,hp]
  rw[topL_take hsi,e]
  simp +contextual (disch:=omega) only[Tryz.f72,dd72,go_sem,simprocAttr,mu72,↓wrap_up,↓wrap_down,↓wrap_pred,↓wrap_sub_nat,hsi',hp',evMax_int]
  rfl
 ·intro _
  rw[List.take_length]
  simp +contextual (disch:=omega) only[Tryz.f72,dd72,go_sem,simprocAttr,mu72,↓wrap_up,↓wrap_down,↓wrap_pred,↓wrap_sub_nat]
  exact fzEq rfl rfl
theorem topZ_app:∀(A B:List (Int×Int)),topZ (A++B)=max (topZ A) (topZ B)
 | [],B=>by have:=topZ_low B;simp only[List.nil_append,topZ];omega
 | p::A,B=>by rw[List.cons_append,topZ,topZ,topZ_app A B];omega
theorem lastHi_eq:∀(s:List (Int×Int)),s.Pairwise (fun p q=>p.2+1<q.1)→(∀ p∈s,0≤p.1∧p.1≤p.2)→s≠[]→lastHi s=topZ s
 | [],_,_,h=>absurd rfl h
 | [p],_,h,_=>by have:=h p (by simp);simp[lastHi,topZ];omega
 | p::q::s,h1,h2,_=>by
   have ih:=lastHi_eq (q::s) (List.pairwise_cons.1 h1).2 (fun r hr=>h2 r (by simp at hr ⊢;right;exact hr)) (by simp)
   have e:lastHi (p::q::s)=lastHi (q::s):=by simp[lastHi]
   have h3:=(List.pairwise_cons.1 h1).1 q (by simp)
   have h4:=h2 q (by simp)
   have h5:=topZ_ge (l:=q::s) (p:=q) (by simp)
   rw[e,ih]
   show topZ (q::s)=max p.2 (topZ (q::s))
   omega
theorem topL_go:∀(cl:Cls) (o:Int),-1≤o→(∀ s∈cl,lastHi s=topZ s)→cl.foldl (fun o s=>max o (lastHi s)) o=max o (topZ cl.flatten)
 | [],o,ho,_=>by simp only[List.foldl_nil,List.flatten_nil,topZ];omega
 | s::cl,o,ho,h=>by
   have:=topZ_low s
   rw[List.foldl_cons,h s (by simp),topL_go cl _ (by omega) (fun t ht=>h t (by simp[ht])),List.flatten_cons,topZ_app];omega
theorem DivOk.topL_eq {cl:Cls}{top:Int} (h:DivOk cl top):topL cl=topZ cl.flatten∧topZ cl.flatten=top:=by
 have h1:∀ s∈cl,lastHi s=topZ s:=fun s hs=>by
  have:=h.set s hs
  exact lastHi_eq s (refSpans_order this.1) (fun p hp=>by have:=refSpans_mem this.1 p hp;omega) this.2
 have hne:(sortP (placesL 0 cl)).map spanOf≠[]:=by
  intro e0
  have hc:=h.chain
  rw[e0]at hc
  simp only[chainA,Option.some.injEq]at hc
  have:=h.top_
  omega
 have ht:=chain_top h.chain (fun p hp=>(h.val p hp).2) hne
 rw[topZ_flat]at ht
 have:=h.top_
 have e:topZ cl.flatten=top:=by omega
 refine⟨?_,e⟩
 rw[topL,topL_go cl 0 (by omega) h1];omega
theorem run_take {A:DA}{t:List Int}{i:Nat}{x:Int} (h:t[i]?=some x) (s:Nat):A.run s (t.take (i+1))=A.nx (A.run s (t.take i)) (A.cl x):=by
 rw[List.take_add_one,h,Option.toList_some,DA.run_app];rfl
theorem f25 (a:AutoL) (hb:AutoB a) (t:List Int) (hl:t.length≤1000000) (H:List MB) :
  call Tryz.prog pol1 25 [autoAV a,.sl false (t.map I)] H=some (.tup [.bool (accW (dividesA a.cl) a t).1,I (accW (dividesA a.cl) a t).2],H):=by
 have hpl:=plain_auto a
 have hpt:=plain_ints t
 have h18:=f18 a hb
 have hdv:=@div_ok a.cl
 refine call_run Tryz.func25 rfl rfl rfl rfl rfl rfl (fun _=>rfl) (by simp[AV.plainL,AV.plain,hpt,plain_cls,plain_rows,plain_bools9]) (by simp[AV.plain,AV.plainL]) ?_ H
 unfold accW
 by_cases hv:validW (dividesA a.cl) a=0
 ·rw[if_neg (by simp[hv])]
  obtain⟨hg,hd⟩:=valid_good hv
  rw[hv]at h18
  have hdo:=hdv hd
  have htl:=hdo.topL_eq.1
  have h72:=f72 a hb (fun s hs=>(hdo.set s hs).2)
  rw[htl]at h72
  have h73:=f73 a.cl hb.cl hb.sum
  have h130:=fun x (h0:0≤x) h1=>f130 hdo hb.sum (x:=x) h0 h1
  have hok:=auto_ok hg hdo
  have hacl:=hg.ac
  have hrun:∀ i s,s=(autoDA a).run 0 (t.take i)→(∀ x∈t.take i,0≤x∧x≤topZ a.cl.flatten)→s<a.nx.length:=fun i s e h=>by
   subst e
   exact hok.run_lt _ 0 h hok.pos
  have hst:=fun i x (h:t[i]?=some x)=>run_take (A:=autoDA a) h 0
  have hcl:∀ x,0≤x→x≤topZ a.cl.flatten→clIx a.cl x<a.cl.length:=fun x h0 h1=>(hdo.clIx_lt h0 h1).1
  have hrows:=hg.rows
  have hnx:∀ s c,(autoDA a).nx s c=stepC a.nx s c:=fun _ _=>rfl
  have hclD:(autoDA a).cl=clIx a.cl:=rfl
  obtain⟨cl,nx,ac⟩:=a
  simp only at htl h73 h130 hrun hcl hacl hrows hnx hclD ⊢
  rw[hclD]at hst
  generalize topZ cl.flatten=T at *
  unfold findAV at h73
  generalize (AV.pt [.sl false ((sortP (placesL 0 cl)).map el3)])=F at *
  by_cases h6:65536<t.length
  ·rw[if_pos h6]
   simp +contextual (disch:=omega) only[Tryz.f25,dd25,go_sem,simprocAttr,mu25,↓wrap_up,↓wrap_down,↓wrap_pred,↓wrap_sub_nat,h18]
   exact fzEq rfl rfl
  ·rw[if_neg h6]
   simp +contextual (disch:=omega) only[Tryz.f25,dd25,go_sem,simprocAttr,mu25,↓wrap_up,↓wrap_down,↓wrap_pred,↓wrap_sub_nat,h18,h72]
   refine W_count (M:=(mskOf (pol1.mask 25) (pol1.gc 25) (pol1.acts 25) 0 8)) rfl t.length (fun i=>(⟨63,[(26,I i),(25,I t.length),(24,.sl false (t.map I)),(7,I T),(2,.rf 0 1 0 0),(1,.sl false (t.map I))],[.row 3 [autoAV ⟨cl,nx,ac⟩] 0]⟩:St)) (fun i=>∀ k x,k<i→t[k]?=some x→0≤x∧x≤T) ?_ ?_ (fun k x h=>by omega) _ rfl
   ·intro i hi hin
    obtain⟨x,hx⟩:∃ x,t[i]?=some x:=⟨_,List.getElem?_eq_getElem hi⟩
    have hx':(t.map I)[i]?=some (I x):=by simp[hx]
    by_cases c1:x<0
    ·have e:t.all (fun x=>decide (0≤x)&&decide (x≤T))=false:=all_bad hx (by simp;omega)
     rw[e]
     simp +contextual (disch:=omega) only[Tryz.f25,dd25,go_sem,simprocAttr,mu25,↓wrap_up,↓wrap_down,↓wrap_pred,↓wrap_sub_nat,hx',c1]
     exact fzEq rfl rfl
    ·by_cases c2:x > T
     ·have e:t.all (fun x=>decide (0≤x)&&decide (x≤T))=false:=all_bad hx (by simp;omega)
      rw[e]
      simp +contextual (disch:=omega) only[Tryz.f25,dd25,go_sem,simprocAttr,mu25,↓wrap_up,↓wrap_down,↓wrap_pred,↓wrap_sub_nat,hx',c1,c2]
      exact fzEq rfl rfl
     ·simp +contextual (disch:=omega) only[Tryz.f25,dd25,go_sem,simprocAttr,mu25,↓wrap_up,↓wrap_down,↓wrap_pred,↓wrap_sub_nat,hx',c1,c2]
      refine⟨fun k y hk hy=>?_,rfl⟩
      rcases Nat.lt_or_ge k i with h1|h1
      ·exact hin k y h1 hy
      ·obtain rfl:k=i:=by omega
       rw[hx]at hy;cases hy
       omega
   ·intro hin
    have e:t.all (fun x=>decide (0≤x)&&decide (x≤T))=true:=all_of fun k hk x hx=>by
     have:=hin k x hk hx
     simp[this]
    rw[if_pos e]
    have hT:∀ i,∀ x∈t.take i,0≤x∧x≤T:=fun i x hx=>by
     obtain⟨k,hk,e⟩:=List.getElem_of_mem (List.mem_of_mem_take hx)
     exact hin k x hk (by rw[List.getElem?_eq_getElem hk,e])
    simp +contextual (disch:=omega) only[Tryz.f25,dd25,go_sem,simprocAttr,mu25,↓wrap_up,↓wrap_down,↓wrap_pred,↓wrap_sub_nat,h73]
    refine W_count (M:=(mskOf (pol1.mask 25) (pol1.gc 25) (pol1.acts 25) 0 16)) rfl t.length (fun i=>(⟨63,[(43,I i),(42,I t.length),(41,.sl false (t.map I)),(11,I ((autoDA ⟨cl,nx,ac⟩).run 0 (t.take i))),(10,.clo 130 [F]),(2,.rf 0 1 0 0)],[.row 3 [autoAV ⟨cl,nx,ac⟩] 0]⟩:St)) (fun i=>True) ?_ ?_ trivial _ rfl
    ·intro i hi _
     obtain⟨x,hx⟩:∃ x,t[i]?=some x:=⟨_,List.getElem?_eq_getElem hi⟩
     have hx':(t.map I)[i]?=some (I x):=by simp[hx]
     have hxb:=hin i x hi hx
     have h130':=h130 x hxb.1 hxb.2
     have hc:=hcl x hxb.1 hxb.2
     rw[hst i x hx,hnx]
     have hs:=hrun i _ rfl (hT i)
     generalize (autoDA ⟨cl,nx,ac⟩).run 0 (t.take i)=s at *
     generalize clIx cl x=c at *
     obtain⟨r,hr⟩:∃ r,nx[s]?=some r:=⟨_,List.getElem?_eq_getElem hs⟩
     have hr':(nx.map rowAV)[s]?=some (rowAV r):=by simp[hr]
     have hro:=hrows r (List.mem_of_getElem? hr)
     obtain⟨v,hv2⟩:∃ v,r[c]?=some v:=⟨_,List.getElem?_eq_getElem (by omega)⟩
     have hv':(r.map I)[c]?=some (I v):=by simp[hv2]
     have hvb:=hro.2 v (List.mem_of_getElem? hv2)
     have e2:((stepC nx s c:Nat):Int)=v:=by simp only[stepC,hr,hv2,Option.getD_some];omega
     rw[e2]
     simp +contextual (disch:=omega) only[Tryz.f25,dd25,go_sem,simprocAttr,mu25,↓wrap_up,↓wrap_down,↓wrap_pred,↓wrap_sub_nat,hx',hr',hv',h130']
     exact⟨by unfold dOk;kernel_rfl,rfl⟩
    ·intro _
     rw[List.take_length]
     have hs:=hrun t.length _ rfl (hT t.length)
     rw[List.take_length]at hs
     generalize (autoDA ⟨cl,nx,ac⟩).run 0 t=s at *
     obtain⟨b,hb2⟩:∃ b,ac[s]?=some b:=⟨_,List.getElem?_eq_getElem (by omega)⟩
     have hb':(ac.map AV.bool)[s]?=some (.bool b):=by simp[hb2]
     rw[hb2]
     simp +contextual (disch:=omega) only[Tryz.f25,dd25,go_sem,simprocAttr,mu25,↓wrap_up,↓wrap_down,↓wrap_pred,↓wrap_sub_nat,hb']
     exact fzEq rfl rfl
 ·rw[if_pos hv]
  obtain⟨cl,nx,ac⟩:=a
  simp +contextual (disch:=omega) only[Tryz.f25,dd25,go_sem,simprocAttr,mu25,↓wrap_up,↓wrap_down,↓wrap_pred,↓wrap_sub_nat,h18,hv]
  exact fzEq rfl rfl
end
section
attribute [local go_sem] evAppend List.map_append
open Go.Proofs Go.RowKit Go.IntWalk
set_option maxRecDepth 100000
set_option maxHeartbeats 4000000
theorem addRowM_app (B x:Int):∀(A C a:List Int),addRowM B x a (A++C)=addRowM B x (addRowM B x a A) C
 | [],_,_=>rfl
 | t::A,C,a=>by rw[List.cons_append,addRowM,addRowM,addRowM_app B x A C]
theorem addRowM_take (B x:Int) {row:List Int}{j:Nat}{t:Int} (h:row[j]?=some t) (a:List Int):addRowM B x a (row.take (j+1))=(addRowM B x a (row.take j)).set t.toNat (min ((addRowM B x a (row.take j))[t.toNat]?.getD 0+x) B):=by
 rw[List.take_add_one,h,Option.toList_some,addRowM_app];rfl
theorem roundM_app (B:Int) (c:List Int):∀(A C:List (List Int)) (k:Nat) (a:List Int),roundM B c (A++C) k a=roundM B c C (k+A.length) (roundM B c A k a)
 | [],_,_,_=>rfl
 | r::A,C,k,a=>by rw[List.cons_append,roundM,roundM,roundM_app B c A C,List.length_cons,show k+1+A.length=k+(A.length+1) by omega]
theorem roundM_take (B:Int) (c:List Int) {nx:List (List Int)}{s:Nat}{row:List Int} (h:nx[s]?=some row) (a:List Int):roundM B c (nx.take (s+1)) 0 a=addRowM B (c[s]?.getD 0) (roundM B c (nx.take s) 0 a) row:=by
 have hs:=(List.getElem?_eq_some_iff.1 h).1
 rw[List.take_add_one,h,Option.toList_some,roundM_app,List.length_take,Nat.zero_add,Nat.min_eq_left (by omega)];rfl
theorem addRowM_length (B x:Int):∀(row a:List Int),(addRowM B x a row).length=a.length
 | [],_=>rfl
 | t::row,a=>by rw[addRowM,addRowM_length B x row,List.length_set]
theorem roundM_length (B:Int) (c:List Int):∀(rows:List (List Int)) (k:Nat) (a:List Int),(roundM B c rows k a).length=a.length
 | [],_,_=>rfl
 | row::rows,k,a=>by rw[roundM,roundM_length B c rows,addRowM_length]
theorem evMin_int (x y:Int):evMin (.int .i64 x) (.int .i64 y)=some (.int .i64 (min x y)):=by
 unfold evMin
 simp only[Option.some.injEq,AV.int.injEq,true_and]
 split<;>omega
theorem f24 (a:AutoL) (hb:AutoB a) (n:Int) (H:List MB) :
  call Tryz.prog pol1 24 [autoAV a,I n] H=some (.tup [I (countW (partedA a.cl) a n).1,I (countW (partedA a.cl) a n).2],H):=by
 have hpl:=plain_auto a
 have h32:=f32 a hb
 unfold countW
 generalize partedA a.cl=d at *
 refine call_run Tryz.func24 rfl rfl rfl rfl rfl rfl (fun _=>rfl) (by simp only[AV.plainL,hpl];rfl) (by simp[AV.plain,AV.plainL]) ?_ H
 by_cases hv:validW d a=0
 ·obtain⟨hg,_⟩:=valid_good hv
  obtain⟨g1,g2,g3,g4,g5⟩:=hg
  rw[hv]at h32
  rw[if_neg (by simp[hv])]
  obtain⟨cl,nx,ac⟩:=a
  simp only at g1 g2 g3 g4 g5 ⊢
  by_cases hn:n<0∨4096<n
  ·rw[if_pos hn]
   by_cases h0:n<0
   ·simp +contextual (disch:=omega) only[Tryz.f24,dd24,go_sem,simprocAttr,mu24,↓wrap_up,↓wrap_down,↓wrap_pred,↓wrap_sub_nat,h32,h0]
    exact fzEq rfl rfl
   ·have h1:n > 4096:=by omega
    simp +contextual (disch:=omega) only[Tryz.f24,dd24,go_sem,simprocAttr,mu24,↓wrap_up,↓wrap_down,↓wrap_pred,↓wrap_sub_nat,h32,h0,h1]
    exact fzEq rfl rfl
  ·rw[if_neg hn]
   obtain⟨N,rfl⟩:∃ N:Nat,n=N:=⟨n.toNat,by omega⟩
   have hN:N≤4096:=by omega
   have h0:¬ ((N:Int)<0):=by omega
   have h1:¬ ((N:Int) > 4096):=by omega
   rw[Int.toNat_natCast]
   obtain⟨Z,hZ⟩:∃ Z,List.replicate nx.length (AV.int .i64 0)=Z:=⟨_,rfl⟩
   have hZl:Z.length=nx.length:=by rw[← hZ];simp
   have hZ0:Z[0]?=some (AV.int .i64 0):=by rw[← hZ];simp[g2]
   have hZs:Z.set 0 (AV.int .i64 1)=(cntD nx 0).map I:=by rw[← hZ];simp[cntD,countsA,List.map_set]
   have hfz:=fun b=>fz_i1 b (cntD nx 0) nx.length (cntD_len0 nx)
   simp +contextual (disch:=omega) only[Tryz.f24,dd24,go_sem,simprocAttr,mu24,↓wrap_up,↓wrap_down,↓wrap_pred,↓wrap_sub_nat,h32,h0,h1,hZ,hZl,hZ0,hZs,hfz]
   refine W_count (M:=(mskOf (pol1.mask 24) (pol1.gc 24) (pol1.acts 24) 0 9)) rfl N (fun k=>(⟨114,[(8,I k),(7,.sl false ((cntD nx k).map I)),(2,.rf 0 1 0 0),(1,I N)],[.row 3 [autoAV ⟨cl,nx,ac⟩] 0]⟩:St)) (fun k=>countsA nx k=some (cntD nx k)) ?_ ?_ rfl _ ?_
   ·intro k hk hc
    have hM:=countsM_eq nx
    have hnext:countsA nx (k+1)=if(roundM bigN (cntD nx k) nx 0 (List.replicate nx.length 0)).all (fun x=>decide (x≤maxN)) then some (roundM bigN (cntD nx k) nx 0 (List.replicate nx.length 0)) else none:=by rw[← hM,countsM,hM,hc]
    have hcl:=countsA_length nx k _ hc
    have hcn:=countsA_nonneg nx k _ hc
    have hcm:=countsA_le nx k _ hc
    have hmN:maxN=1099511627776:=rfl
    rw[hmN]at hcm
    have hck:cntD nx (k+1)=(countsA nx (k+1)).getD []:=rfl
    generalize cntD nx k=c at *
    have hZr:Z=(List.replicate nx.length (0:Int)).map I:=by rw[← hZ];simp
    have hRl:∀ s,(roundM bigN c (nx.take s) 0 (List.replicate nx.length 0)).length=nx.length:=fun s=>by rw[roundM_length];simp
    simp +contextual (disch:=omega) only[Tryz.f24,dd24,go_sem,simprocAttr,mu24,↓wrap_up,↓wrap_down,↓wrap_pred,↓wrap_sub_nat,hZ,hZl]
    refine W_count (M:=(mskOf (pol1.mask 24) (pol1.gc 24) (pol1.acts 24) 0 13)) rfl nx.length (fun s=>(⟨114,[(10,I s),(9,.ms 1 1 nx.length 0 nx.length),(8,I k),(7,.sl false (c.map I)),(2,.rf 0 1 0 0),(1,I N)],[.row 3 [autoAV ⟨cl,nx,ac⟩] 0,.row 1 ((roundM bigN c (nx.take s) 0 (List.replicate nx.length 0)).map I) 0]⟩:St)) (fun s=>∀ y∈roundM bigN c (nx.take s) 0 (List.replicate nx.length 0),0≤y∧y≤4398046511104) ?_ ?_ ?_ _ ?_
    ·intro s hs hb
     obtain⟨x,hx⟩:∃ x,c[s]?=some x:=⟨_,List.getElem?_eq_getElem (by omega)⟩
     have hx':(c.map I)[s]?=some (I x):=by simp[hx]
     obtain⟨r,hr⟩:∃ r,nx[s]?=some r:=⟨_,List.getElem?_eq_getElem hs⟩
     have hr':(nx.map rowAV)[s]?=some (rowAV r):=by simp[hr]
     have hst:=roundM_take bigN c hr (List.replicate nx.length 0)
     rw[hx,Option.getD_some]at hst
     have b1:=hcn x (List.mem_of_getElem? hx)
     have b2:=hcm x (List.mem_of_getElem? hx)
     have hro:=g5 r (List.mem_of_getElem? hr)
     have hRs:=hRl s
     rw[hst]
     generalize roundM bigN c (nx.take s) 0 (List.replicate nx.length 0)=A at *
     simp +contextual (disch:=omega) only[Tryz.f24,dd24,go_sem,simprocAttr,mu24,↓wrap_up,↓wrap_down,↓wrap_pred,↓wrap_sub_nat]
     have hBl:∀ j,(addRowM bigN x A (r.take j)).length=nx.length:=fun j=>by rw[addRowM_length];exact hRs
     refine W_count (M:=(mskOf (pol1.mask 24) (pol1.gc 24) (pol1.acts 24) 0 16)) rfl r.length (fun j=>(⟨114,[(11,I j),(10,I s),(9,.ms 1 1 nx.length 0 nx.length),(8,I k),(7,.sl false (c.map I)),(2,.rf 0 1 0 0),(1,I N)],[.row 3 [autoAV ⟨cl,nx,ac⟩] 0,.row 1 ((addRowM bigN x A (r.take j)).map I) 0]⟩:St)) (fun j=>∀ y∈addRowM bigN x A (r.take j),0≤y∧y≤4398046511104) ?_ ?_ hb _ ?_
     ·intro j hj hbj
      obtain⟨t,ht⟩:∃ t,r[j]?=some t:=⟨_,List.getElem?_eq_getElem hj⟩
      have ht':(r.map I)[j]?=some (I t):=by simp[ht]
      have htr:=hro.2 t (List.mem_of_getElem? ht)
      have hjc:(j:Int)<(cl.length:Int):=by have:=hro.1;omega
      have hst2:=addRowM_take bigN x ht A
      have hB:=hBl j
      rw[hst2]
      generalize addRowM bigN x A (r.take j)=B at *
      obtain⟨v,hv2⟩:∃ v,B[t.toNat]?=some v:=⟨_,List.getElem?_eq_getElem (by omega)⟩
      have hv':(B.map I)[t.toNat]?=some (I v):=by simp[hv2]
      have hvb:=hbj v (List.mem_of_getElem? hv2)
      have hw:IntKind.i64.wrap (v+x)=v+x:=by rw[i64_in];omega
      have hset:(B.map I).set t.toNat (.int .i64 (min (v+x) 4398046511104))=(B.set t.toNat (min (v+x) bigN)).map I:=by rw[List.map_set];rfl
      rw[hv2,Option.getD_some]
      simp +contextual (disch:=omega) only[Tryz.f24,dd24,go_sem,simprocAttr,mu24,↓wrap_up,↓wrap_down,↓wrap_pred,↓wrap_sub_nat,hx',hr',ht',hv',hw,hset,hB,evMin_int,hjc]
      refine⟨by unfold dOk;kernel_rfl,by kernel_rfl,fun y hy=>?_,?_⟩
      rotate_left
      ·generalize B.set t.toNat (min (v+x) bigN)=B2
       exact(by first|rfl|(refine prep_cut rfl (by rfl) (by rfl) (by rfl) ?_ ?_<;>simp[AV.underL,AV.under,MB.under,underL_plain,under_plain,plain_ints,plain_span,plain_ins,plain_prg,-List.map_take,plain_ints,plain_cls,plain_rows,plain_bools9]))
      have hbN:bigN=4398046511104:=rfl
      rcases List.mem_or_eq_of_mem_set hy with h1|h1
      ·exact hbj y h1
      ·rw[hbN]at h1;omega
     ·intro hbj
      rw[List.take_length]at hbj ⊢
      have hjc:(r.length:Int)=(cl.length:Int):=by have:=hro.1;omega
      simp +contextual (disch:=omega) only[Tryz.f24,dd24,go_sem,simprocAttr,mu24,↓wrap_up,↓wrap_down,↓wrap_pred,↓wrap_sub_nat,hjc]
      exact⟨hbj,(by first|rfl|(refine prep_cut rfl (by rfl) (by rfl) (by rfl) ?_ ?_<;>simp[AV.underL,AV.under,MB.under,underL_plain,under_plain,plain_ints,plain_span,plain_ins,plain_prg,-List.map_take,plain_ints,plain_cls,plain_rows,plain_bools9]))⟩
     ·exact(by first|rfl|(refine prep_cut rfl (by rfl) (by rfl) (by rfl) ?_ ?_<;>simp[AV.underL,AV.under,MB.under,underL_plain,under_plain,plain_ints,plain_span,plain_ins,plain_prg,-List.map_take,plain_ints,plain_cls,plain_rows,plain_bools9]))
    ·intro hb
     have hRn:=hRl nx.length
     rw[List.take_length]at hb hRn ⊢
     generalize roundM bigN c nx 0 (List.replicate nx.length 0)=R at *
     have hz1:=fun b=>fz_i1 b R nx.length hRn
     simp +contextual (disch:=omega) only[Tryz.f24,dd24,go_sem,simprocAttr,mu24,↓wrap_up,↓wrap_down,↓wrap_pred,↓wrap_sub_nat,hz1]
     refine W_count (M:=(mskOf (pol1.mask 24) (pol1.gc 24) (pol1.acts 24) 0 21)) rfl R.length (fun u=>(⟨114,[(12,I u),(8,I k),(7,.sl false (R.map I)),(2,.rf 0 1 0 0),(1,I N)],[.row 3 [autoAV ⟨cl,nx,ac⟩] 0]⟩:St)) (fun u=>∀ u',u'<u→∀ y,R[u']?=some y→y≤1099511627776) ?_ ?_ (fun u h=>by omega) _ (by first|rfl|(refine prep_cut rfl (by rfl) (by rfl) (by rfl) ?_ ?_<;>simp[AV.underL,AV.under,MB.under,underL_plain,under_plain,plain_ints,plain_span,plain_ins,plain_prg,-List.map_take,plain_ints,plain_cls,plain_rows,plain_bools9]))
     ·intro u hu hum
      obtain⟨y,hy⟩:∃ y,R[u]?=some y:=⟨_,List.getElem?_eq_getElem hu⟩
      have hy':(R.map I)[u]?=some (I y):=by simp[hy]
      by_cases hm:y > 1099511627776
      ·have hall:¬ R.all (fun x=>decide (x≤maxN))=true:=by
        rw[hmN,List.all_eq_true]
        intro h
        have:=h y (List.mem_of_getElem? hy)
        rw[decide_eq_true_eq]at this
        omega
       rw[if_neg hall]at hnext
       have e4:countA nx ac N=(0,4):=by unfold countA;rw[countsA_none hnext (by omega)]
       rw[e4]
       simp +contextual (disch:=omega) only[Tryz.f24,dd24,go_sem,simprocAttr,mu24,↓wrap_up,↓wrap_down,↓wrap_pred,↓wrap_sub_nat,hy',hm]
       exact fzEq rfl rfl
      ·simp +contextual (disch:=omega) only[Tryz.f24,dd24,go_sem,simprocAttr,mu24,↓wrap_up,↓wrap_down,↓wrap_pred,↓wrap_sub_nat,hy',hm]
       refine⟨fun u' h1 z hz=>?_,(by first|rfl|(refine prep_cut rfl (by rfl) (by rfl) (by rfl) ?_ ?_<;>simp[AV.underL,AV.under,MB.under,underL_plain,under_plain,plain_ints,plain_span,plain_ins,plain_prg,-List.map_take,plain_ints,plain_cls,plain_rows,plain_bools9]))⟩
       rcases Nat.lt_or_ge u' u with h2|h2
       ·exact hum u' h2 z hz
       ·obtain rfl:u' = u:=by omega
        rw[hy]at hz;cases hz
        omega
     ·intro hum
      have hall:R.all (fun x=>decide (x≤maxN))=true:=by
       rw[hmN,List.all_eq_true]
       intro y hy
       obtain⟨u,hu,e⟩:=List.getElem_of_mem hy
       exact decide_eq_true (hum u hu y (by rw[List.getElem?_eq_getElem hu,e]))
      rw[if_pos hall]at hnext
      have hcd:cntD nx (k+1)=R:=by rw[hck,hnext];rfl
      rw[hcd,hnext]
      simp +contextual (disch:=omega) only[Tryz.f24,dd24,go_sem,simprocAttr,mu24,↓wrap_up,↓wrap_down,↓wrap_pred,↓wrap_sub_nat]
      exact(by first|rfl|(refine prep_cut rfl (by rfl) (by rfl) (by rfl) ?_ ?_<;>simp[AV.underL,AV.under,MB.under,underL_plain,under_plain,plain_ints,plain_span,plain_ins,plain_prg,-List.map_take,plain_ints,plain_cls,plain_rows,plain_bools9]))
    ·intro y hy
     rw[List.eq_of_mem_replicate (show y∈List.replicate nx.length (0:Int) from hy)]
     omega
    ·rw[show roundM bigN c (nx.take 0) 0 (List.replicate nx.length 0)=List.replicate nx.length 0 from rfl,hZr]
     generalize List.replicate nx.length (0:Int)=z0
     exact(by first|rfl|(refine prep_cut rfl (by rfl) (by rfl) (by rfl) ?_ ?_<;>simp[AV.underL,AV.under,MB.under,underL_plain,under_plain,plain_ints,plain_span,plain_ins,plain_prg,-List.map_take,plain_ints,plain_cls,plain_rows,plain_bools9]))
   ·intro hc
    have e:countA nx ac N=if maxN<accSum ac (cntD nx N) 0 then(0,4) else(accSum ac (cntD nx N) 0,0):=by unfold countA;rw[hc]
    rw[e]
    have hcl:=countsA_length nx N _ hc
    have hcn:=countsA_nonneg nx N _ hc
    have hcm:=countsA_le nx N _ hc
    generalize cntD nx N=c at *
    simp +contextual (disch:=omega) only[Tryz.f24,dd24,go_sem,simprocAttr,mu24,↓wrap_up,↓wrap_down,↓wrap_pred,↓wrap_sub_nat]
    refine W_count (M:=(mskOf (pol1.mask 24) (pol1.gc 24) (pol1.acts 24) 0 27)) rfl c.length (fun s=>(⟨114,[(14,I s),(13,I (accSum ac (c.take s) 0)),(7,.sl false (c.map I)),(2,.rf 0 1 0 0)],[.row 3 [autoAV ⟨cl,nx,ac⟩] 0]⟩:St)) (fun s=>0≤accSum ac (c.take s) 0∧accSum ac (c.take s) 0≤1099511627776*(s:Int)) ?_ ?_ ⟨by simp[accSum],by simp[accSum]⟩ _ ?_
    ·intro s hs hb
     obtain⟨x,hx⟩:∃ x,c[s]?=some x:=⟨_,List.getElem?_eq_getElem hs⟩
     have hx':(c.map I)[s]?=some (I x):=by simp[hx]
     obtain⟨y,hy⟩:∃ y,ac[s]?=some y:=⟨_,List.getElem?_eq_getElem (by omega)⟩
     have hy':(ac.map AV.bool)[s]?=some (.bool y):=by simp[hy]
     have hst:=accSum_take ac hx
     rw[hy]at hst
     have b1:=hcn x (List.mem_of_getElem? hx)
     have b2:=hcm x (List.mem_of_getElem? hx)
     have hmN:maxN=1099511627776:=rfl
     rw[hmN]at b2
     have hw:IntKind.i64.wrap (accSum ac (c.take s) 0+x)=accSum ac (c.take s) 0+x:=by rw[i64_in];omega
     cases y with
     | true=>
       simp only[Option.getD_some,if_true]at hst
       rw[hst]
       simp +contextual (disch:=omega) only[Tryz.f24,dd24,go_sem,simprocAttr,mu24,↓wrap_up,↓wrap_down,↓wrap_pred,↓wrap_sub_nat,hx',hy',hw]
       exact(by first|rfl|(refine prep_cut rfl (by rfl) (by rfl) (by rfl) ?_ ?_<;>simp[AV.underL,AV.under,MB.under,underL_plain,under_plain,plain_ints,plain_span,plain_ins,plain_prg,-List.map_take,plain_ints,plain_cls,plain_rows,plain_bools9]))
     | false=>
       simp only[Option.getD_some,Bool.false_eq_true,if_false]at hst
       rw[hst]
       rw[Int.add_zero]
       simp +contextual (disch:=omega) only[Tryz.f24,dd24,go_sem,simprocAttr,mu24,↓wrap_up,↓wrap_down,↓wrap_pred,↓wrap_sub_nat,hx',hy']
       exact(by first|rfl|(refine prep_cut rfl (by rfl) (by rfl) (by rfl) ?_ ?_<;>simp[AV.underL,AV.under,MB.under,underL_plain,under_plain,plain_ints,plain_span,plain_ins,plain_prg,-List.map_take,plain_ints,plain_cls,plain_rows,plain_bools9]))
    ·intro hb
     rw[List.take_length]at hb ⊢
     generalize accSum ac c 0=S at *
     by_cases hS:maxN<S
     ·have hS':S > 1099511627776:=hS
      rw[if_pos hS]
      simp +contextual (disch:=omega) only[Tryz.f24,dd24,go_sem,simprocAttr,mu24,↓wrap_up,↓wrap_down,↓wrap_pred,↓wrap_sub_nat,hS']
      exact fzEq rfl rfl
     ·have hS':¬ S > 1099511627776:=hS
      rw[if_neg hS]
      simp +contextual (disch:=omega) only[Tryz.f24,dd24,go_sem,simprocAttr,mu24,↓wrap_up,↓wrap_down,↓wrap_pred,↓wrap_sub_nat,hS']
      exact fzEq rfl rfl
    ·rw[show accSum ac (c.take 0) 0=0 from rfl]
     exact(by first|rfl|(refine prep_cut rfl (by rfl) (by rfl) (by rfl) ?_ ?_<;>simp[AV.underL,AV.under,MB.under,underL_plain,under_plain,plain_ints,plain_span,plain_ins,plain_prg,-List.map_take,plain_ints,plain_cls,plain_rows,plain_bools9]))
   ·exact(by first|rfl|(refine prep_cut rfl (by rfl) (by rfl) (by rfl) ?_ ?_<;>simp[AV.underL,AV.under,MB.under,underL_plain,under_plain,plain_ints,plain_span,plain_ins,plain_prg,-List.map_take,plain_ints,plain_cls,plain_rows,plain_bools9]))
 ·rw[if_pos hv]
  obtain⟨cl,nx,ac⟩:=a
  simp +contextual (disch:=omega) only[Tryz.f24,dd24,go_sem,simprocAttr,mu24,↓wrap_up,↓wrap_down,↓wrap_pred,↓wrap_sub_nat,h32,hv]
  exact fzEq rfl rfl
end
end Go.Ev
namespace Go.Ev
open Go.Proofs Go.RowKit
set_option maxRecDepth 100000
noncomputable def polU:Pol:={ pol1 with ext:=fun f=>if f=97 then none else pol1.ext f }
theorem extU:ExtOk Tryz.prog polU:=by
 intro f g hg args H r H' h
 have e:polU.ext f=if f=97 then none else pol1.ext f:=rfl
 rw[e]at hg
 by_cases h1:f=97
 ·rw[if_pos h1]at hg;cases hg
 ·rw[if_neg h1]at hg;exact ext1 f g hg args H r H' h
theorem okU:CfOk Tryz.prog (call Tryz.prog polU):=call_ok extU follows1
theorem u19 (H:List MB):call Tryz.prog polU 19 [] H=some (.bool true,H):=call_of_evF (n:=60) 24 19 _ _ _ (by kernel_rfl)
end Go.Ev
namespace Go.Ev
open Go.Proofs Go.RowKit Go.IntWalk
set_option maxRecDepth 100000
noncomputable def polL (l:List Nat):Pol:={ pol1 with pure:=fun f=>!(19::(l++notPure)).contains f,ext:=fun f=>if f=19 then some (call Tryz.prog polU 19) else if l.contains f=true then some (call Tryz.prog pol1 f) else pol1.ext f }
theorem polL_ext1 {l:List Nat}{f:Nat} (h:l.contains f=true) (h19:f≠19):(polL l).ext f=some (call Tryz.prog pol1 f):=by
 show (if f=19 then some (call Tryz.prog polU 19) else if l.contains f=true then some (call Tryz.prog pol1 f) else pol1.ext f)=_
 rw[if_neg h19,if_pos h]
theorem extL {l:List Nat} (hy:l.contains yldF=false):ExtOk Tryz.prog (polL l):=by
 intro f g hg args H r H' h
 by_cases e:f=19
 ·subst e
  have:(polL l).ext 19=some (call Tryz.prog polU 19):=rfl
  rw[this]at hg
  obtain rfl:=Option.some.inj hg
  exact okU.1 19 args H r H' (by decide) h
 by_cases e1:l.contains f=true
 ·rw[polL_ext1 e1 e]at hg
  obtain rfl:=Option.some.inj hg
  exact ok1.1 f args H r H' (fun e2=>by rw[e2,hy]at e1;cases e1) h
 have:(polL l).ext f=pol1.ext f:=by
  show (if f=19 then some (call Tryz.prog polU 19) else if l.contains f=true then some (call Tryz.prog pol1 f) else pol1.ext f)=_
  rw[if_neg e,if_neg e1]
 rw[this]at hg
 exact ext1 f g hg args H r H' h
theorem okL {l:List Nat} (hy:l.contains yldF=false):CfOk Tryz.prog (call Tryz.prog (polL l)):=call_ok (extL hy) follows1
theorem l19 (l:List Nat) (H:List MB):call Tryz.prog (polL l) 19 [] H=some (.bool true,H):=by
 have hp:(polL l).pure 19=false:=by
  show (!(19::(l++notPure)).contains 19)=false
  simp
 have he:(polL l).ext 19=some (call Tryz.prog polU 19):=rfl
 rw[call_eq]
 unfold evStep evBody
 rw[if_neg (by rw[hp];decide),if_neg (by decide)]
 simp only[he]
 exact u19 H
theorem liftL {l:List Nat} (hy:l.contains yldF=false) (f:Nat) (h19:f≠19) (hf:l.contains f=true) {args:List AV}{H H':List MB}{r:AV} (h:call Tryz.prog pol1 f args H=some (r,H')):call Tryz.prog (polL l) f args H=some (r,H'):=by
 have hp:(polL l).pure f=false:=by
  show (!(19::(l++notPure)).contains f)=false
  have:f∈l:=by simpa using hf
  simp[this]
 rw[call_eq]
 unfold evStep evBody
 rw[if_neg (by rw[hp];decide),if_neg (fun e2=>by rw[e2,hy]at hf;cases hf)]
 simp only[polL_ext1 hf h19]
 exact h
end Go.Ev
namespace Go.Ev
attribute [local go_sem] retE_norm retE_ret bndO bnd evEq eqCells not_false_eq_true not_true_eq_false toList_some Array.size_empty List.length_append tySzE List.head?_drop Nat.mul_one sameAt_zero sameAt_two sameAt_three sameAt_four sameAt_five room_ok
section
open Go.Proofs Go.RowKit Go.IntWalk
set_option maxRecDepth 100000
set_option maxHeartbeats 4000000
theorem someCls_len {k top:Int} (hk:k=0∨k=1∨k=2):3≤(someCls k top).length∧(someCls k top).length≤4:=by
 rcases hk with rfl|rfl|rfl<;>simp[someCls]
theorem some_div {k top:Int} (hk:k=0∨k=1∨k=2) (ht:top=255∨top=1114111):dividesA (someCls k top)=true∧topZ (someCls k top).flatten=top:=by
 rw[divides_eq]
 rcases hk with rfl|rfl|rfl<;>rcases ht with rfl|rfl<;>exact⟨by kernel_rfl,by kernel_rfl⟩
theorem pick3 (l:List Int):pickI l 0 3=0∨pickI l 0 3=1∨pickI l 0 3=2:=by
 have:=pick_lt (l:=l) (i:=0) (m:=3) (by omega)
 omega
structure SomeOk (a:AutoL) (top:Int):Prop where
 good:GoodA a
 div:dividesA a.cl=true
 top_:topZ a.cl.flatten=top
 small:SmallA a
 cl4:3≤a.cl.length∧a.cl.length≤4
 nx8:a.nx.length≤8
 set2:∀ s∈a.cl,s.length≤2
theorem some_ok (l:List Int) {top:Int} (ht:top=255∨top=1114111):SomeOk (someA l top) top:=by
 have b8:=pick_lt (l:=l) (i:=1) (m:=8) (by omega)
 have hN:((someN l:Nat):Int)=1+pickI l 1 8:=by unfold someN;omega
 have hk:=pick3 l
 have hc:=someCls_len (top:=top) hk
 have hd:=some_div hk ht
 have hs:∀ s∈someCls (pickI l 0 3) top,s.length≤2:=by
  rcases hk with e|e|e<;>rw[e]<;>simp[someCls]
 unfold someA
 have hrow:∀(i:Nat),(someRow l (someN l) (someCls (pickI l 0 3) top).length i).length=(someCls (pickI l 0 3) top).length:=fun i=>by simp[someRow]
 have hrx:∀(i:Nat),∀ t∈someRow l (someN l) (someCls (pickI l 0 3) top).length i,0≤t∧t<(someN l:Int):=fun i t h=>by
  obtain⟨c,_,rfl⟩:=List.mem_map.1 h
  exact pick_lt (by omega)
 refine⟨⟨by simp only;omega,by simp;omega,by simp;omega,by simp,fun row hr=>?_⟩,hd.1,hd.2,⟨by simp only;omega,fun s h=>by have:=hs s h;omega,by simp;omega,by simp;omega,fun r hr=>?_⟩,hc,by simp;omega,hs⟩
 ·obtain⟨i,_,rfl⟩:=List.mem_map.1 hr
  exact⟨hrow i,fun t ht=>by simpa using hrx i t ht⟩
 ·obtain⟨i,_,rfl⟩:=List.mem_map.1 hr
  rw[hrow i];omega
theorem SomeOk.valid {a:AutoL}{top:Int} (h:SomeOk a top):validW true a=0:=by
 have g:=h.good
 have h1:=g.cl
 have h2:=g.nx
 have h3:=g.ac
 have h4:=g.pos
 unfold validW
 rw[if_neg (by omega),if_neg (by rintro(h|h|h)<;>first|omega|cases h),if_pos]
 rw[List.all_eq_true]
 intro r hr
 have:=g.rows r hr
 simp only[okRow,Bool.and_eq_true,decide_eq_true_eq,List.all_eq_true,okSt]
 exact this
theorem SomeOk.dv {a:AutoL}{top:Int} (h:SomeOk a top):DivOk a.cl top:=by
 have:=div_ok h.div
 rwa [h.top_]at this
noncomputable def polQ:Pol:=polL [10,20,21,22,23,24,25]
theorem okQ:CfOk Tryz.prog (call Tryz.prog polQ):=okL (by decide)
theorem liftQ (f:Nat) (h19:f≠19) (hf:[10,20,21,22,23,24,25].contains f=true) {args:List AV}{H H':List MB}{r:AV} (h:call Tryz.prog pol1 f args H=some (r,H')):call Tryz.prog polQ f args H=some (r,H'):=liftL (by decide) f h19 hf h
theorem q19 (H:List MB):call Tryz.prog polQ 19 [] H=some (.bool true,H):=l19 _ H
theorem polQ_dead:polQ.dead=pol1.dead:=rfl
theorem polQ_bdead:polQ.bdead=pol1.bdead:=rfl
theorem polQ_racts:polQ.racts=pol1.racts:=rfl
theorem polQ_muts:polQ.muts=pol1.muts:=rfl
theorem polQ_alts:polQ.alts=pol1.alts:=rfl
theorem law4 (l:List Int) (how at_ by_ n:Int) (hl:∀ x∈l,In64 x) (h1:In64 how) (h2:In64 at_) (h3:In64 by_) (h4:In64 n) (H:List MB) :
  call Tryz.prog polQ 4 [.sl false (l.map I),I how,I at_,I by_,I n] H=some (.bool true,H):=by
 have hso:=some_ok l (top:=255) (.inl rfl)
 have q20:=fun H=>liftQ 20 (by decide) (by decide) (f20 l hl false H)
 simp only[Bool.false_eq_true,if_false]at q20
 generalize someA l 255=a at *
 obtain⟨_,⟨b,hb,rfl⟩,h21⟩:=g21 a hso.small hso.good.pos (by have:=hso.cl4;omega) (fun r hr e=>by have:=(hso.good.rows r hr).1;have:=hso.cl4;subst e;simp at *;omega) (fun s hs=>(hso.dv.set s hs).2) how at_ by_ h1 h2 h3
 have q21:=fun H=>liftQ 21 (by decide) (by decide) (h21 H)
 have q10a:=fun H=>liftQ 10 (by decide) (by decide) (f12 n 60 h4 (by omega) H)
 have q10b:=fun H=>liftQ 10 (by decide) (by decide) (f12 n 4097 h4 (by omega) H)
 have q23a:=fun H=>liftQ 23 (by decide) (by decide) (f23 a H)
 have q23b:=fun H=>liftQ 23 (by decide) (by decide) (f23 b H)
 have q22a:=fun H n=>liftQ 22 (by decide) (by decide) (f22 a hso.small.b n H)
 have q22b:=fun H n=>liftQ 22 (by decide) (by decide) (f22 b hb n H)
 have q24a:=fun H n=>liftQ 24 (by decide) (by decide) (f24 a hso.small.b n H)
 have q24b:=fun H n=>liftQ 24 (by decide) (by decide) (f24 b hb n H)
 rw[← divides_eq]at q24a q24b
 refine call_run Tryz.func4 rfl rfl rfl rfl rfl rfl (fun _=>rfl) (by simp[AV.plain,AV.plainL,plain_ints]) (by simp[AV.plain]) ?_ H
 simp +contextual (disch:=omega) only[Tryz.f4,dd4,go_sem,simprocAttr,evAppend,List.map_append,mu4,↓wrap_up,↓wrap_down,↓wrap_pred,↓wrap_sub_nat,polQ_dead,polQ_bdead,polQ_racts,polQ_muts,polQ_alts,q20,q21,q10a,q10b]
 generalize aroundI n 60=n1 at *
 generalize aroundI n 4097=n2 at *
 refine⟨by unfold dOk;kernel_rfl,?_⟩
 refine W_count (M:=(mskOf (polQ.mask 4) (polQ.gc 4) (polQ.acts 4) 0 5)) (by rfl) 2 (fun i=>(⟨155,[(14,I i),(13,.sl true [I n,I n1,I n2,I 0]),(12,.sl true [autoAV a,autoAV b]),(11,.rf 0 1 0 0)],[.row 3 [autoAV a] 0]⟩:St)) (fun i=>True) ?_ ?_ trivial _ (by rfl)
 ·intro i hi _
  obtain⟨c,hc,hcb⟩:∃ c,([autoAV a,autoAV b]:List AV)[i]?=some (autoAV c)∧AutoB c:=by
   rcases(by omega:i=0∨i=1) with rfl|rfl
   ·exact⟨a,rfl,hso.small.b⟩
   ·exact⟨b,rfl,hb⟩
  have q23c:=fun H=>liftQ 23 (by decide) (by decide) (f23 c H)
  have q22c:=fun H n=>liftQ 22 (by decide) (by decide) (f22 c hcb n H)
  have q24c:=fun H n=>liftQ 24 (by decide) (by decide) (f24 c hcb n H)
  rw[← divides_eq]at q24c
  generalize hAL:([autoAV a,autoAV b]:List AV)=AL at *
  have hALl:AL.length=2:=by rw[← hAL];rfl
  simp +contextual (disch:=omega) only[Tryz.f4,dd4,go_sem,simprocAttr,evAppend,List.map_append,mu4,↓wrap_up,↓wrap_down,↓wrap_pred,↓wrap_sub_nat,polQ_dead,polQ_bdead,polQ_racts,polQ_muts,polQ_alts]
  refine W_count (M:=(mskOf (polQ.mask 4) (polQ.gc 4) (polQ.acts 4) 0 8)) (by rfl) 4 (fun k=>(⟨155,[(15,I k),(14,I i),(13,.sl true [I n,I n1,I n2,I 0]),(12,.sl true AL),(11,.rf 0 1 0 0)],[.row 3 [autoAV a] 0]⟩:St)) (fun i=>True) ?_ ?_ trivial _ (by rfl)
  ·intro k hk _
   obtain⟨z,hz⟩:∃ z,([I n,I n1,I n2,I 0]:List AV)[k]?=some (I z):=by
    rcases(by omega:k=0∨k=1∨k=2∨k=3) with rfl|rfl|rfl|rfl<;>exact⟨_,rfl⟩
   generalize hNL:([I n,I n1,I n2,I 0]:List AV)=NL at *
   have hNLl:NL.length=4:=by rw[← hNL];rfl
   have q22z:=fun H=>q22c H z
   have q24z:=fun H=>q24c H z
   generalize countW (dividesA c.cl) c z=xy at *
   obtain⟨x,y⟩:=xy
   simp only at q22z q24z
   simp +contextual (disch:=omega) only[Tryz.f4,dd4,go_sem,simprocAttr,evAppend,List.map_append,mu4,↓wrap_up,↓wrap_down,↓wrap_pred,↓wrap_sub_nat,polQ_dead,polQ_bdead,polQ_racts,polQ_muts,polQ_alts,hc,hz,q23c,q22z,q24z,hALl,hNLl]
   exact⟨by unfold dOk;kernel_rfl,by unfold dOk;kernel_rfl,by rfl⟩
  ·intro _
   simp +contextual (disch:=omega) only[Tryz.f4,dd4,go_sem,simprocAttr,evAppend,List.map_append,mu4,↓wrap_up,↓wrap_down,↓wrap_pred,↓wrap_sub_nat,polQ_dead,polQ_bdead,polQ_racts,polQ_muts,polQ_alts]
   rfl
 ·intro _
  have hz0:fz (.sl true [.sl true []]) [.row 3 [autoAV a] 0]=some (.sl false [.sl false []],[.row 3 [autoAV a] 0]):=rfl
  simp +contextual (disch:=omega) only[Tryz.f4,dd4,go_sem,simprocAttr,evAppend,List.map_append,mu4,↓wrap_up,↓wrap_down,↓wrap_pred,↓wrap_sub_nat,polQ_dead,polQ_bdead,polQ_racts,polQ_muts,polQ_alts,hz0]
  have hv:=hso.valid
  have hdv:=hso.dv
  have htop:=hso.top_
  have hdiv:=hso.div
  have hcl4:=hso.cl4
  rw[hdiv]at q22a
  have hpa:=plain_auto a
  refine W_count (M:=(mskOf (polQ.mask 4) (polQ.gc 4) (polQ.acts 4) 0 16)) (by rfl) 5 (fun k=>(⟨155,[(21,I k),(20,.sl false ((TX a.cl k).map rowAV)),(11,.rf 0 1 0 0)],[.row 3 [autoAV a] 0]⟩:St)) (fun i=>True) ?_ ?_ trivial _ (by first|rfl|(refine prep_cut rfl (by rfl) (by rfl) (by rfl) ?_ ?_<;>simp[AV.underL,AV.under,MB.under,underL_plain,under_plain,plain_ints,plain_span,plain_ins,plain_prg,-List.map_take,plain_cls,plain_rows,plain_bools9]))
  ·intro k hk _
   have hTl:=TX_length (cl:=a.cl) hcl4.2 (k:=k) (by omega)
   have hTl2:=TX_length (cl:=a.cl) hcl4.2 (k:=k+1) (by omega)
   have hacc:∀(j:Nat) (t:List Int),(TX a.cl k)[j]?=some t→accW true a t=((autoDA a).ac ((autoDA a).run 0 t),0)∧t.length=k:=fun j t h=>by
    obtain⟨w,hw,rfl⟩:=List.mem_map.1 (List.mem_of_getElem? h)
    rw[accW_text hv hdv htop (k:=k) (by omega) hw,run_lo hdv w 0 (textsC_mem hw).2]
    exact⟨rfl,by simp[(textsC_mem hw).1]⟩
   have hcnt:countW true a k=((((TX a.cl k).countP fun t=>(autoDA a).ac ((autoDA a).run 0 t):Nat):Int),0):=by
    unfold countW
    rw[if_neg (by simp[hv]),if_neg (by omega),Int.toNat_natCast,count_texts hso.good hcl4.2 (by omega),TX,List.countP_map]
    have e:(textsC a.cl.length k).countP (fun w=>a.ac[runC a.nx 0 w]?.getD false)=(textsC a.cl.length k).countP ((fun t=>(autoDA a).ac ((autoDA a).run 0 t)) ∘ fun w=>w.map (loOf a.cl)):=by
     apply List.countP_congr
     intro w hw
     simp only[Function.comp]
     rw[run_lo hdv w 0 (textsC_mem hw).2]
     exact Iff.rfl
    rw[e]
   have hsucc:=TX_next a.cl k
   have q22k:=fun H=>q22a H (k:Int)
   rw[hcnt]at q22k
   simp only at q22k
   rw[hsucc]
   rw[hsucc]at hTl2
   generalize TX a.cl k=TXk at *
   have hpT:=plain_rows TXk
   have hcountle:∀ j,(TXk.take j).countP (fun t=>(autoDA a).ac ((autoDA a).run 0 t))≤1024:=fun j=>by
    have:=List.countP_le_length (p:=fun t=>(autoDA a).ac ((autoDA a).run 0 t)) (l:=TXk.take j)
    rw[List.length_take]at this;omega
   generalize hpp:(fun t=>(autoDA a).ac ((autoDA a).run 0 t))=pp at *
   have hcst:∀(j:Nat) (t:List Int),TXk[j]?=some t→(TXk.take (j+1)).countP pp=(TXk.take j).countP pp+if pp t then 1 else 0:=fun j t h=>count_take h
   have hacc2:∀(j:Nat) (t:List Int),TXk[j]?=some t→accW true a t=(pp t,0)∧t.length=k:=fun j t h=>by rw[← hpp];exact hacc j t h
   simp +contextual (disch:=omega) only[Tryz.f4,dd4,go_sem,simprocAttr,evAppend,List.map_append,mu4,↓wrap_up,↓wrap_down,↓wrap_pred,↓wrap_sub_nat,polQ_dead,polQ_bdead,polQ_racts,polQ_muts,polQ_alts]
   refine W_count (M:=(mskOf (polQ.mask 4) (polQ.gc 4) (polQ.acts 4) 0 21)) (by rfl) TXk.length (fun j=>(⟨155,[(24,I j),(23,.ms 1 1 (nxtT a.cl (TXk.take j)).length 0 (nxtT a.cl (TXk.take j)).length),(22,I ((TXk.take j).countP pp)),(21,I k),(20,.sl false (TXk.map rowAV)),(11,.rf 0 1 0 0)],[.row 3 [autoAV a] 0,.row 1 ((nxtT a.cl (TXk.take j)).map rowAV) 0]⟩:St)) (fun i=>True) ?_ ?_ trivial _ (by first|rfl|(refine prep_cut rfl (by rfl) (by rfl) (by rfl) ?_ ?_<;>simp[AV.underL,AV.under,MB.under,underL_plain,under_plain,plain_ints,plain_span,plain_ins,plain_prg,-List.map_take,plain_cls,plain_rows,plain_bools9]))
   ·intro j hj _
    obtain⟨t,ht⟩:∃ t,TXk[j]?=some t:=⟨_,List.getElem?_eq_getElem hj⟩
    have ht':(TXk.map rowAV)[j]?=some (rowAV t):=by simp[ht]
    obtain⟨ha1,ha2⟩:=hacc2 j t ht
    have q25:=fun H=>liftQ 25 (by decide) (by decide) (f25 a hso.small.b t (by omega) H)
    rw[hdiv,ha1]at q25
    simp only at q25
    have hst:=nxtT_take a.cl ht
    have hnl:=nxtT_le a.cl TXk (j+1)
    have hcl2:=hcountle j
    rw[hcst j t ht]
    rw[hst]at hnl ⊢
    have hnl2:(nxtT a.cl (TXk.take j)++rowT a.cl t a.cl.length).length=(nxtT a.cl (TXk.take j)).length+a.cl.length:=by rw[List.length_append,rowT_len]
    rw[hnl2]at hnl ⊢
    generalize nxtT a.cl (TXk.take j)=NX at *
    generalize (TXk.take j).countP pp=cn at *
    generalize pp t=bt at *
    cases bt with
    | false=>
      simp +contextual (disch:=omega) only[Tryz.f4,dd4,go_sem,simprocAttr,evAppend,List.map_append,mu4,↓wrap_up,↓wrap_down,↓wrap_pred,↓wrap_sub_nat,polQ_dead,polQ_bdead,polQ_racts,polQ_muts,polQ_alts,q23a,ht',q25]
      refine⟨by unfold dOk;kernel_rfl,?_⟩
      refine W_count (M:=(mskOf (polQ.mask 4) (polQ.gc 4) (polQ.acts 4) 0 29)) (by rfl) a.cl.length (fun c=>(⟨155,[(27,I c),(24,I j),(23,.ms 1 1 (NX.length+c) 0 (NX.length+c)),(22,I cn),(21,I k),(20,.sl false (TXk.map rowAV)),(11,.rf 0 1 0 0)],[.row 3 [autoAV a] 0,.row 1 ((NX++rowT a.cl t c).map rowAV) 0]⟩:St)) (fun i=>True) ?_ ?_ trivial _ ?_
      ·intro c hc _
       obtain⟨s,hs⟩:∃ s,a.cl[c]?=some s:=⟨_,List.getElem?_eq_getElem hc⟩
       have hs':(a.cl.map setAV9)[c]?=some (setAV9 s):=by simp[hs]
       have hlo:loOf a.cl c=headLo s:=by rw[loOf,hs];rfl
       have hsne:=(hdv.set s (List.mem_of_getElem? hs)).2
       have hMl:(NX++rowT a.cl t c).length=NX.length+c:=by rw[List.length_append,rowT_len]
       rw[rowT_succ,hlo,← List.append_assoc]
       generalize NX++rowT a.cl t c=M at *
       cases s with
       | nil=>exact absurd rfl hsne
       | cons p s=>
         have hp0:((p::s).map spanAV)[0]?=some (spanAV p):=rfl
         rw[show headLo (p::s)=p.1 from rfl]
         have hMm:(M.map rowAV).length=NX.length+c:=by rw[List.length_map];exact hMl
         have hMp:=plain_rows M
         have a1:=fun(b0 b1:MB)=>app_lastN (H:=[b0,b1]) (r:=t) (by omega) (n:=2) rfl
         have a2:=fun(b0 b1:MB) (u:Bool)=>app_i (H:=[b0,b1,.row 1 (t.map I) 0]) (i:=2) (n:=t.length) (x:=p.1) (t:=u) rfl (Nat.zero_le _) rfl (by omega)
         have a3:=fun(b0 b2:MB) (u:Bool)=>app_s (H:=[b0,.row 1 (M.map rowAV) 0,b2]) (i:=1) (n:=NX.length+c) (x:=.ms 2 1 (t.length+1) 0 (t.length+1)) (t:=u) rfl (Nat.zero_le _) hMm (by omega) rfl rfl
         simp only[List.cons_append,List.nil_append,set_2,set_1]at a1 a2 a3
         have hz:fzs (M.map rowAV++[.ms 2 1 (t.length+1) 0 (t.length+1)]) [.row 3 [autoAV a] 0,.row 1 (M.map rowAV++[.ms 2 1 (t.length+1) 0 (t.length+1)]) 0,.row 1 ((t++[p.1]).map I) 0]=some (M.map rowAV++[rowAV (t++[p.1])],[.row 3 [autoAV a] 0,.row 1 (M.map rowAV++[.ms 2 1 (t.length+1) 0 (t.length+1)]) 0,.row 1 ((t++[p.1]).map I) (t.length+1)]):=by
          refine fzL_snoc ?_ _ hMp
          have:=fz_row (id:=2) (k:=1) (z:=0) (tot:=t.length+1) (H:=[.row 3 [autoAV a] 0,.row 1 (M.map rowAV++[.ms 2 1 (t.length+1) 0 (t.length+1)]) 0,.row 1 ((t++[p.1]).map I) 0]) rfl (by simp) (plain_ints _)
          unfold fz at this
          rw[this]
          simp[mark,getRow]
         have hbq:=AV.beqL_refl (M.map rowAV++[.ms 2 1 (t.length+1) 0 (t.length+1)])
         simp +contextual (disch:=omega) only[Tryz.f4,dd4,go_sem,simprocAttr,mu4,↓wrap_up,↓wrap_down,↓wrap_pred,↓wrap_sub_nat,polQ_dead,polQ_bdead,polQ_racts,polQ_muts,polQ_alts,hs',hp0,ht',a1,a2,a3,hz,hbq,spanAV]
         repeat' (first|intro _|apply And.intro|(unfold dOk;kernel_rfl)|exact St.beq_refl _|(show altO _ _ _ _=true;kernel_rfl)|(show (_||_)=true;kernel_rfl)|(show (_&&_)=true;kernel_rfl))
         generalize t++[p.1]=t2
         have e9:M.map rowAV++[rowAV t2]=(M++[t2]).map rowAV:=by rw[List.map_append];rfl
         rw[e9]
         generalize M++[t2]=M2
         exact(by first|rfl|(refine prep_cut rfl (by rfl) (by rfl) (by rfl) ?_ ?_<;>simp[AV.underL,AV.under,MB.under,underL_plain,under_plain,plain_ints,plain_span,plain_ins,plain_prg,-List.map_take,plain_cls,plain_rows,plain_bools9]))
      ·intro _
       simp +contextual (disch:=omega) only[Tryz.f4,dd4,go_sem,simprocAttr,evAppend,List.map_append,mu4,↓wrap_up,↓wrap_down,↓wrap_pred,↓wrap_sub_nat,polQ_dead,polQ_bdead,polQ_racts,polQ_muts,polQ_alts,ht']
       have e9:NX.map rowAV++(rowT a.cl t a.cl.length).map rowAV=(NX++rowT a.cl t a.cl.length).map rowAV:=by rw[List.map_append]
       simp only[e9]
       generalize NX++rowT a.cl t a.cl.length=M2
       exact(by first|rfl|(refine prep_cut rfl (by rfl) (by rfl) (by rfl) ?_ ?_<;>simp[AV.underL,AV.under,MB.under,underL_plain,under_plain,plain_ints,plain_span,plain_ins,plain_prg,-List.map_take,plain_cls,plain_rows,plain_bools9]))
      ·rw[show rowT a.cl t 0=[] from rfl,List.append_nil]
       exact(by first|rfl|(refine prep_cut rfl (by rfl) (by rfl) (by rfl) ?_ ?_<;>simp[AV.underL,AV.under,MB.under,underL_plain,under_plain,plain_ints,plain_span,plain_ins,plain_prg,-List.map_take,plain_cls,plain_rows,plain_bools9]))
    | true=>
      simp +contextual (disch:=omega) only[Tryz.f4,dd4,go_sem,simprocAttr,evAppend,List.map_append,mu4,↓wrap_up,↓wrap_down,↓wrap_pred,↓wrap_sub_nat,polQ_dead,polQ_bdead,polQ_racts,polQ_muts,polQ_alts,q23a,ht',q25]
      refine⟨by unfold dOk;kernel_rfl,?_⟩
      refine W_count (M:=(mskOf (polQ.mask 4) (polQ.gc 4) (polQ.acts 4) 0 29)) (by rfl) a.cl.length (fun c=>(⟨155,[(27,I c),(24,I j),(23,.ms 1 1 (NX.length+c) 0 (NX.length+c)),(22,I (cn+1)),(21,I k),(20,.sl false (TXk.map rowAV)),(11,.rf 0 1 0 0)],[.row 3 [autoAV a] 0,.row 1 ((NX++rowT a.cl t c).map rowAV) 0]⟩:St)) (fun i=>True) ?_ ?_ trivial _ ?_
      ·intro c hc _
       obtain⟨s,hs⟩:∃ s,a.cl[c]?=some s:=⟨_,List.getElem?_eq_getElem hc⟩
       have hs':(a.cl.map setAV9)[c]?=some (setAV9 s):=by simp[hs]
       have hlo:loOf a.cl c=headLo s:=by rw[loOf,hs];rfl
       have hsne:=(hdv.set s (List.mem_of_getElem? hs)).2
       have hMl:(NX++rowT a.cl t c).length=NX.length+c:=by rw[List.length_append,rowT_len]
       rw[rowT_succ,hlo,← List.append_assoc]
       generalize NX++rowT a.cl t c=M at *
       cases s with
       | nil=>exact absurd rfl hsne
       | cons p s=>
         have hp0:((p::s).map spanAV)[0]?=some (spanAV p):=rfl
         rw[show headLo (p::s)=p.1 from rfl]
         have hMm:(M.map rowAV).length=NX.length+c:=by rw[List.length_map];exact hMl
         have hMp:=plain_rows M
         have a1:=fun(b0 b1:MB)=>app_lastN (H:=[b0,b1]) (r:=t) (by omega) (n:=2) rfl
         have a2:=fun(b0 b1:MB) (u:Bool)=>app_i (H:=[b0,b1,.row 1 (t.map I) 0]) (i:=2) (n:=t.length) (x:=p.1) (t:=u) rfl (Nat.zero_le _) rfl (by omega)
         have a3:=fun(b0 b2:MB) (u:Bool)=>app_s (H:=[b0,.row 1 (M.map rowAV) 0,b2]) (i:=1) (n:=NX.length+c) (x:=.ms 2 1 (t.length+1) 0 (t.length+1)) (t:=u) rfl (Nat.zero_le _) hMm (by omega) rfl rfl
         simp only[List.cons_append,List.nil_append,set_2,set_1]at a1 a2 a3
         have hz:fzs (M.map rowAV++[.ms 2 1 (t.length+1) 0 (t.length+1)]) [.row 3 [autoAV a] 0,.row 1 (M.map rowAV++[.ms 2 1 (t.length+1) 0 (t.length+1)]) 0,.row 1 ((t++[p.1]).map I) 0]=some (M.map rowAV++[rowAV (t++[p.1])],[.row 3 [autoAV a] 0,.row 1 (M.map rowAV++[.ms 2 1 (t.length+1) 0 (t.length+1)]) 0,.row 1 ((t++[p.1]).map I) (t.length+1)]):=by
          refine fzL_snoc ?_ _ hMp
          have:=fz_row (id:=2) (k:=1) (z:=0) (tot:=t.length+1) (H:=[.row 3 [autoAV a] 0,.row 1 (M.map rowAV++[.ms 2 1 (t.length+1) 0 (t.length+1)]) 0,.row 1 ((t++[p.1]).map I) 0]) rfl (by simp) (plain_ints _)
          unfold fz at this
          rw[this]
          simp[mark,getRow]
         have hbq:=AV.beqL_refl (M.map rowAV++[.ms 2 1 (t.length+1) 0 (t.length+1)])
         simp +contextual (disch:=omega) only[Tryz.f4,dd4,go_sem,simprocAttr,mu4,↓wrap_up,↓wrap_down,↓wrap_pred,↓wrap_sub_nat,polQ_dead,polQ_bdead,polQ_racts,polQ_muts,polQ_alts,hs',hp0,ht',a1,a2,a3,hz,hbq,spanAV]
         repeat' (first|intro _|apply And.intro|(unfold dOk;kernel_rfl)|exact St.beq_refl _|(show altO _ _ _ _=true;kernel_rfl)|(show (_||_)=true;kernel_rfl)|(show (_&&_)=true;kernel_rfl))
         generalize t++[p.1]=t2
         have e9:M.map rowAV++[rowAV t2]=(M++[t2]).map rowAV:=by rw[List.map_append];rfl
         rw[e9]
         generalize M++[t2]=M2
         exact(by first|rfl|(refine prep_cut rfl (by rfl) (by rfl) (by rfl) ?_ ?_<;>simp[AV.underL,AV.under,MB.under,underL_plain,under_plain,plain_ints,plain_span,plain_ins,plain_prg,-List.map_take,plain_cls,plain_rows,plain_bools9]))
      ·intro _
       simp +contextual (disch:=omega) only[Tryz.f4,dd4,go_sem,simprocAttr,evAppend,List.map_append,mu4,↓wrap_up,↓wrap_down,↓wrap_pred,↓wrap_sub_nat,polQ_dead,polQ_bdead,polQ_racts,polQ_muts,polQ_alts,ht']
       have e9:NX.map rowAV++(rowT a.cl t a.cl.length).map rowAV=(NX++rowT a.cl t a.cl.length).map rowAV:=by rw[List.map_append]
       simp only[e9]
       generalize NX++rowT a.cl t a.cl.length=M2
       exact(by first|rfl|(refine prep_cut rfl (by rfl) (by rfl) (by rfl) ?_ ?_<;>simp[AV.underL,AV.under,MB.under,underL_plain,under_plain,plain_ints,plain_span,plain_ins,plain_prg,-List.map_take,plain_cls,plain_rows,plain_bools9]))
      ·rw[show rowT a.cl t 0=[] from rfl,List.append_nil]
       exact(by first|rfl|(refine prep_cut rfl (by rfl) (by rfl) (by rfl) ?_ ?_<;>simp[AV.underL,AV.under,MB.under,underL_plain,under_plain,plain_ints,plain_span,plain_ins,plain_prg,-List.map_take,plain_cls,plain_rows,plain_bools9]))
   ·intro _
    rw[List.take_length]at *
    generalize nxtT a.cl TXk=NT at *
    have hfz:fz (.ms 1 1 NT.length 0 NT.length) [.row 3 [autoAV a] 0,.row 1 (NT.map rowAV) 0]=some (.sl false (NT.map rowAV),[.row 3 [autoAV a] 0,.row 1 (NT.map rowAV) NT.length]):=by
     rw[fz_row (id:=1) (k:=1) (z:=0) (tot:=NT.length) (H:=[.row 3 [autoAV a] 0,.row 1 (NT.map rowAV) 0]) rfl (by simp) (plain_rows _)]
     simp[mark,getRow]
    simp +contextual (disch:=omega) only[Tryz.f4,dd4,go_sem,simprocAttr,evAppend,List.map_append,mu4,↓wrap_up,↓wrap_down,↓wrap_pred,↓wrap_sub_nat,polQ_dead,polQ_bdead,polQ_racts,polQ_muts,polQ_alts,q23a,q22k,hfz]
    exact(by first|rfl|(refine prep_cut rfl (by rfl) (by rfl) (by rfl) ?_ ?_<;>simp[AV.underL,AV.under,MB.under,underL_plain,under_plain,plain_ints,plain_span,plain_ins,plain_prg,-List.map_take,plain_cls,plain_rows,plain_bools9]))
  ·intro _
   simp +contextual (disch:=omega) only[Tryz.f4,dd4,go_sem,simprocAttr,evAppend,List.map_append,mu4,↓wrap_up,↓wrap_down,↓wrap_pred,↓wrap_sub_nat,polQ_dead,polQ_bdead,polQ_racts,polQ_muts,polQ_alts,q19]
   exact fzEq rfl rfl
theorem lawCount (l:List Int) (hl:∀ x∈l,In64 x) (how:Int) (h1:In64 how) (at_:Int) (h2:In64 at_) (by_:Int) (h3:In64 by_) (n:Int) (h4:In64 n) (H:List MB) :
 call Tryz.prog polQ 4 [.sl false (l.map I),I how,I at_,I by_,I n] H=some (.bool true,H):=law4 l how at_ by_ n hl h1 h2 h3 h4 H
end
end Go.Ev
