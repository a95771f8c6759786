/- Functions of the program, each with what it computes; no further conditions. -/
import Derived.Test.YtjgmfjneajcbmaaGreatR06
import Derived.Test.YtjgmfjneajcbmaaGreatR12
set_option linter.unusedVariables false
set_option linter.unusedSimpArgs false
namespace Go.Ev
attribute [local go_sem] eq_self bindW_some bindW_map bindW_ite bindW_iteN W_seq W_region W_draw W_cond W_condK W_ret W_skip W_exit W_scope W_label W_block blockK_norm blockK_ret blockK_exit WO_nil WO_cons WO_guard WD_nil WD_cons WD_guard guardV guardW_boolT guardW_boolF guardW_tup fpL_some fpL_none footprint footprint0 fineF thenK_norm thenK_ret thenK_exit put_some put_none ev_tmp ev_con ev_func ofK_int ofK_bool ofK_str ofK_nil ofK_agg ofC_int ofC_bool ofC_str ofC_nil ofC_nilp one_int one_bool one_str one_nil one_nilp evOp evBuiltin evCall evLen evAppend getElem_16 getElem_4 List.length_cons List.length_nil List.cons_append List.nil_append List.append_nil if_false if_true Bool.false_eq_true Bool.true_eq_false Option.map_some Option.map_none List.map_cons List.map_nil evBinOp evBin evUn asB_bool splitB_decide splitB_true splitB_false splitB_beq splitB_bne splitB_not endK_ret endK_norm List.getElem?_cons_zero List.getElem?_cons_succ evResults evResult packRes retK_norm retK_ret cellsAt mkVal evFieldAddr evField evIndexAddr evPart evStore evBuild evBuildSlice fillC fillE evSlice evMakeSlice evConvert getRow AV.cells List.head?_cons List.drop_zero List.drop_succ_cons List.take_zero List.take_succ_cons List.drop_nil List.take_nil List.all_cons List.all_nil AV.ok Bool.and_self Bool.and_true Bool.true_and and_self and_true true_and Nat.zero_add Nat.add_zero setCells splice pairsOk pairsX altW_none altW_some cfg_al WI_nil WI_cons FP.apart heapEq_refl sameAt_refl Bool.or_true Bool.true_or Bool.or_false srcElems elemsOf mutDst indDst evLenH evMapUpd evLookup getMp keyOk resOk strOf roundK_norm roundK_exit roundK_ret List.length_map List.getElem?_map Int.toNat_natCast decide_true decide_false Bool.not_true Bool.not_false List.set set_0 set_1 set_2 set_3 set_4 look_hit look lookD_hit lookD_cons lookD_nil ins_hit ins upd_hit upd rem1_hit rem1 dropT dropSt_eq initT cfg_dd cfg_bd cfg_ra actL_nil actL_cons act1 updT_hit updT retE_norm retE_ret bndO bnd evEq eqCells not_false_eq_true not_true_eq_false toList_some Array.size_empty List.length_append List.map_append tySzE List.head?_drop Nat.mul_one sameAt_zero sameAt_two sameAt_three sameAt_four sameAt_five endE_norm endE_ret head_take1 List.contains_nil List.contains_cons Bool.or_self dlt_t dlt_f dle_t dle_f dgt_t dgt_f dge_t dge_f beq_t beq_f bne_t bne_f lt_T le_T nle_T nle_F Go.IntWalk.i64_in Go.IntWalk.i64_quo Go.IntWalk.rem_in room_ok
section
attribute [local go_sem] frzB
open Go.Proofs Go.RowKit Go.IntWalk
set_option maxRecDepth 100000
set_option maxHeartbeats 8000000
structure CS where
 L:List (List Nat)
 made:Nat
 emptied:Nat
def CS.need (c:CS) (size:Nat) (l:List Nat):CS:=
 if l=[] then c
 else if l∈c.L then c
 else if c.L.length=size then⟨[l],c.made+1,c.emptied+1⟩
 else⟨c.L++[l],c.made+1,c.emptied⟩
structure Lay2 where
 st:Nat→Option (List Nat×Nat)
 nx:Nat→Option (List Nat)
def Lay2.le (a b:Lay2):Prop:=(∀ i x,a.st i=some x→b.st i=some x)∧(∀ i x,a.nx i=some x→b.nx i=some x)
abbrev stAV (b:Bool) (l:List Nat) (m:AV) (f:Nat):AV:=.agg [.sl b (l.map NV),m,NV f]
abbrev dfaAV (ins:List Ins) (first:List Nat) (size:Nat) (C:Nat) (c:CS):AV:=.agg [.sl false (ins.map insAV),.sl false (first.map NV),NV size,.mpr C,NV c.made,NV c.emptied]
structure DI (ins:List Ins) (first:List Nat) (size:Nat) (P:Nat→Prop) (D C:Nat) (a:Lay2) (c:CS) (H:List MB):Prop where
 d:H[D]?=some (.row 6 [dfaAV ins first size C c] 0)
 lo:(∀ i,P i→i < H.length)∧(¬ P D∧¬ P C)∧(∀ i x,a.st i=some x→¬ P i)∧(∀ i x,a.nx i=some x→¬ P i)
 cache:∃ es:List (AV×AV),H[C]?=some (.mp .str es)∧es.length=c.L.length∧∀(i:Nat) (l:List Nat),c.L[i]?=some l→l≠[]∧(∀ n∈l,n < 65536)∧∃ t,es[i]?=some (AV.str (keyS l),AV.rf t 1 0 0)∧a.st t=some (l,c.emptied)
 st:∀ t l f,a.st t=some (l,f)→∃ b m,H[t]?=some (.row 3 [stAV b l m f] 0)∧(∀ n∈l,n < ins.length)∧l.length≤ins.length∧f≤c.emptied∧(l≠[]→f=c.emptied→l∈c.L)∧(l≠[]→b=false∧∃ q,m=.mpr q∧a.nx q=some l)
 nx:∀ q l,a.nx q=some l→∃ es,H[q]?=some (.mp (.int .i64) es)∧∀ k v,(k,v)∈es→∃ x t f,k=I x∧v=.rf t 1 0 0∧a.st t=some (stateL ins (afterL ins l x),f)
 small:c.made≤4000000000000∧c.emptied≤c.made∧c.L.length≤size∧1≤size∧size≤1024
theorem findMp_mem {x v:AV} {es:List (AV×AV)} (h:findMp x es=some v):∃ k,(k,v)∈es∧AV.beq k x=true:=by
 induction es with
 | nil=>cases h
 | cons p es ih=>
   obtain⟨k,u⟩:=p
   simp only[findMp]at h
   split at h
   ·rename_i hb
    cases h
    exact⟨k,.head _,hb⟩
   ·obtain⟨k',h1,h2⟩:=ih h
    exact⟨k',.tail _ h1,h2⟩
theorem updMp_mem {x v k u:AV} {es:List (AV×AV)} (h:(k,u)∈updMp x v es):(k,u)∈es∨(u=v∧(k=x∨AV.beq k x=true)):=by
 induction es with
 | nil=>
   simp only[updMp,List.mem_singleton,Prod.mk.injEq]at h
   exact .inr ⟨h.2,.inl h.1⟩
 | cons p es ih=>
   obtain⟨k',u'⟩:=p
   simp only[updMp]at h
   split at h
   ·rename_i hb
    rcases List.mem_cons.1 h with h|h
    ·cases h;exact .inr ⟨rfl,.inr hb⟩
    ·exact .inl (.tail _ h)
   ·rcases List.mem_cons.1 h with h|h
    ·cases h;exact .inl (.head _)
    ·rcases ih h with h|h
     ·exact .inl (.tail _ h)
     ·exact .inr h
theorem beq_str {k:AV} {b:ByteArray}:AV.beq k (.str b)=true↔k=.str b:=by
 cases k<;>simp[AV.beq]
theorem beq_I {k:AV} {b:Int}:AV.beq k (I b)=true↔k=I b:=by
 cases k<;>simp[AV.beq]
theorem map8_inj:∀ {a b:List Int},(∀ x∈a,0≤x∧x < 256)→(∀ x∈b,0≤x∧x < 256)→a.map (fun n=>UInt8.ofNat n.toNat)=b.map (fun n=>UInt8.ofNat n.toNat)→a=b
 | [],[],_,_,_=>rfl
 | [],_::_,_,_,h=>by simp at h
 | _::_,[],_,_,h=>by simp at h
 | x::a,y::b,ha,hb,h=>by
   simp only[List.map_cons,List.cons.injEq]at h
   have hx:=ha x (.head _)
   have hy:=hb y (.head _)
   have h1:x=y:=by
    have:=congrArg UInt8.toNat h.1
    simp at this
    omega
   rw[h1,map8_inj (fun z hz=>ha z (.tail _ hz)) (fun z hz=>hb z (.tail _ hz)) h.2]
theorem strB_inj {a b:List Int} (ha:∀ x∈a,0≤x∧x < 256) (hb:∀ x∈b,0≤x∧x < 256) (h:strB a=strB b):a=b:=by
 simp only[strB,ByteArray.mk.injEq,Array.mk.injEq]at h
 exact map8_inj ha hb (by simpa using h)
theorem keyI_range (l:List Nat):∀ x∈keyI l,0≤x∧x < 256:=by
 intro x hx
 simp only[keyI,List.mem_flatMap,List.mem_cons,List.not_mem_nil,or_false]at hx
 obtain⟨n,_,h|h⟩:=hx<;>omega
theorem keyI_inj:∀ {a b:List Nat},(∀ n∈a,n < 65536)→(∀ n∈b,n < 65536)→keyI a=keyI b→a=b
 | [],[],_,_,_=>rfl
 | [],_::_,_,_,h=>by simp[keyI]at h
 | _::_,[],_,_,h=>by simp[keyI]at h
 | x::a,y::b,ha,hb,h=>by
   simp only[keyI,List.flatMap_cons,List.cons_append,List.nil_append,List.cons.injEq]at h
   have hx:=ha x (.head _)
   have hy:=hb y (.head _)
   have h1:x=y:=by omega
   rw[h1,keyI_inj (fun z hz=>ha z (.tail _ hz)) (fun z hz=>hb z (.tail _ hz)) h.2.2]
theorem keyS_inj {a b:List Nat} (ha:∀ n∈a,n < 65536) (hb:∀ n∈b,n < 65536) (h:keyS a=keyS b):a=b:=
 keyI_inj ha hb (strB_inj (keyI_range a) (keyI_range b) h)
def own2 (H:List MB) (D C:Nat) (x y:MB) (K:List MB):List MB:=(H.set D x).set C y++K
theorem own2_D {H:List MB} {D C:Nat} (hD:D < H.length) (hC:C < H.length) (hn:D≠C) (x y:MB) (K:List MB):(own2 H D C x y K)[D]?=some x:=by
 unfold own2
 rw[List.getElem?_append_left (by simpa using hD),List.getElem?_set_ne (Ne.symm hn),List.getElem?_set_self hD]
theorem own2_C {H:List MB} {D C:Nat} (hD:D < H.length) (hC:C < H.length) (hn:D≠C) (x y:MB) (K:List MB):(own2 H D C x y K)[C]?=some y:=by
 unfold own2
 rw[List.getElem?_append_left (by simpa using hC),List.getElem?_set_self (by simpa using hC)]
theorem own2_setD {H:List MB} {D C:Nat} (hD:D < H.length) (hC:C < H.length) (hn:D≠C) (x y v:MB) (K:List MB):(own2 H D C x y K).set D v=own2 H D C v y K:=by
 unfold own2
 rw[List.set_append_left _ _ (by simpa using hD),List.set_comm _ _ (Ne.symm hn),List.set_set]
theorem own2_setC {H:List MB} {D C:Nat} (hD:D < H.length) (hC:C < H.length) (hn:D≠C) (x y v:MB) (K:List MB):(own2 H D C x y K).set C v=own2 H D C x v K:=by
 unfold own2
 rw[List.set_append_left _ _ (by simpa using hC),List.set_set]
section
variable {H:List MB} {D C:Nat} (x y v:MB) (K:List MB)
theorem own2_app:own2 H D C x y K++[v]=own2 H D C x y (K++[v]):=by simp[own2]
theorem own2_len:(own2 H D C x y K).length=H.length+K.length:=by simp[own2]
theorem own2_ne {i:Nat} (h1:i≠D) (h2:i≠C) (hi:i < H.length):(own2 H D C x y K)[i]?=H[i]?:=by
 unfold own2
 rw[List.getElem?_append_left (by simpa using hi),List.getElem?_set_ne (Ne.symm h2),List.getElem?_set_ne (Ne.symm h1)]
theorem own2_new {k:Nat}:(own2 H D C x y K)[H.length+k]?=K[k]?:=by
 unfold own2
 rw[List.getElem?_append_right (by simp)]
 congr 1
 simp
theorem own2_self (h1:H[D]?=some x) (h2:H[C]?=some y):own2 H D C x y []=H:=by
 unfold own2
 rw[List.append_nil]
 have e1:H.set D x=H:=by
  apply List.ext_getElem?
  intro q
  by_cases e:D=q
  ·subst e;rw[List.getElem?_set_self (List.getElem?_eq_some_iff.1 h1).1,h1]
  ·rw[List.getElem?_set_ne e]
 rw[e1]
 apply List.ext_getElem?
 intro q
 by_cases e:C=q
 ·subst e;rw[List.getElem?_set_self (List.getElem?_eq_some_iff.1 h2).1,h2]
 ·rw[List.getElem?_set_ne e]
end
section
variable {ins:List Ins} {first:List Nat} {size:Nat} {P:Nat→Prop} {D C:Nat} {a:Lay2} {c:CS} {H:List MB}
theorem DI.find (h:DI ins first size P D C a c H) {l:List Nat} (hl:∀ n∈l,n < 65536) {es:List (AV×AV)} (he:H[C]?=some (.mp .str es)) :
  (l∈c.L∧∃ t,findMp (.str (keyS l)) es=some (.rf t 1 0 0)∧a.st t=some (l,c.emptied))∨(l ∉ c.L∧findMp (.str (keyS l)) es=none):=by
 obtain⟨es',e1,e2,e3⟩:=h.cache
 rw[he]at e1
 cases e1
 cases hf:findMp (.str (keyS l)) es with
 | some v=>
   obtain⟨k,m1,m2⟩:=findMp_mem hf
   rw[beq_str]at m2
   subst m2
   obtain⟨i,hi,hg⟩:=List.getElem_of_mem m1
   obtain⟨l',hl'⟩:∃ l',c.L[i]?=some l':=⟨_,List.getElem?_eq_getElem (by omega)⟩
   obtain⟨b1,b2,t,b3,b4⟩:=e3 i l' hl'
   rw[List.getElem?_eq_getElem hi,hg]at b3
   simp only[Option.some.injEq,Prod.mk.injEq,AV.str.injEq]at b3
   obtain⟨b5,rfl⟩:=b3
   have:=keyS_inj hl b2 b5
   subst this
   exact .inl ⟨List.mem_of_getElem? hl',t,rfl,b4⟩
 | none=>
   refine .inr ⟨fun hm=>?_,rfl⟩
   obtain⟨i,hi,hg⟩:=List.getElem_of_mem hm
   obtain⟨_,_,t,b3,_⟩:=e3 i l (by rw[← hg];exact List.getElem?_eq_getElem hi)
   have hne:∀ {es:List (AV×AV)} {i:Nat} {k v:AV},es[i]?=some (k,v)→AV.beq k k=true→findMp k es≠none:=by
    intro es
    induction es with
    | nil=>intro i k v h;simp at h
    | cons p es ih=>
      intro i k v h hb
      obtain⟨k',u'⟩:=p
      simp only[findMp]
      split
      ·simp
      ·cases i with
       | zero=>simp at h;rename_i hx;rw[h.1]at hx;exact absurd hb hx
       | succ i=>exact ih (by simpa using h) hb
   exact hne b3 (beq_str.2 rfl) hf
end
end
section
attribute [local go_sem] frzB ty0 ty3 ty4 ty9 ty22 ty54 ty104 ty106 ty149 ty151 ty153 ty196
open Go.Proofs Go.RowKit Go.IntWalk
set_option maxRecDepth 100000
set_option maxHeartbeats 8000000
def KeepsLow (P:Nat→Prop) (H H':List MB):Prop:=H.length≤H'.length∧∀ i,P i→H'[i]?=H[i]?
theorem KeepsLow.refl (P:Nat→Prop) (H:List MB):KeepsLow P H H:=⟨Nat.le_refl _,fun _ _=>rfl⟩
theorem KeepsLow.trans {P:Nat→Prop} {H H' H'':List MB} (h:KeepsLow P H H') (h2:KeepsLow P H' H''):KeepsLow P H H'':=⟨Nat.le_trans h.1 h2.1,fun i hi=>(h2.2 i hi).trans (h.2 i hi)⟩
theorem Lay2.le_refl (a:Lay2):a.le a:=⟨fun _ _ h=>h,fun _ _ h=>h⟩
theorem Lay2.le_trans {a b c:Lay2} (h:a.le b) (h2:b.le c):a.le c:=⟨fun i x hx=>h2.1 i x (h.1 i x hx),fun i x hx=>h2.2 i x (h.2 i x hx)⟩
section
variable {ins:List Ins} {first:List Nat} {size:Nat} {P:Nat→Prop} {D C:Nat} {a:Lay2} {c:CS} {H:List MB}
theorem DI.st_at (h:DI ins first size P D C a c H) {t:Nat} {x:List Nat×Nat} (ht:a.st t=some x):t < H.length∧t≠D∧t≠C:=by
 obtain⟨l,f⟩:=x
 obtain⟨b,m,h1,_⟩:=h.st t l f ht
 refine⟨(List.getElem?_eq_some_iff.1 h1).1,fun e=>?_,fun e=>?_⟩
 ·rw[e,h.d]at h1;simp at h1
 ·obtain⟨es,h2,_⟩:=h.cache
  rw[e,h2]at h1;cases h1
theorem DI.nx_at (h:DI ins first size P D C a c H) {q:Nat} {x:List Nat} (hq:a.nx q=some x):q < H.length∧q≠D∧q≠C:=by
 obtain⟨es',h1,_⟩:=h.nx q x hq
 refine⟨(List.getElem?_eq_some_iff.1 h1).1,fun e=>?_,fun e=>?_⟩
 ·rw[e,h.d]at h1;cases h1
 ·obtain⟨es,h2,_⟩:=h.cache
  rw[e,h2]at h1;simp at h1
theorem DI.dead (h:DI ins first size P D C a c H) (x:MB) (hx:x=.row 3 [stAV true [] .nilm 0] 0) :
  DI ins first size P D C ⟨fun i=>if i=H.length then some ([],0) else a.st i,a.nx⟩ c (H++[x])∧a.le ⟨fun i=>if i=H.length then some ([],0) else a.st i,a.nx⟩:=by
 have old:∀ i,i < H.length→(H++[x])[i]?=H[i]?:=fun i hi=>List.getElem?_append_left hi
 have hD:=(List.getElem?_eq_some_iff.1 h.d).1
 obtain⟨es,hC,hes,hce⟩:=h.cache
 have hCl:=(List.getElem?_eq_some_iff.1 hC).1
 have hne:∀ t y,a.st t=some y→t≠H.length:=fun t y ht=>by have:=(h.st_at ht).1;omega
 have hle:a.le ⟨fun i=>if i=H.length then some ([],0) else a.st i,a.nx⟩:=⟨fun i y hy=>by simp[hne i y hy,hy],fun _ _ h=>h⟩
 refine⟨⟨by rw[old _ hD];exact h.d,⟨fun i hi=>by rw[List.length_append];have:=h.lo.1 i hi;omega,h.lo.2.1,fun i y hy=>?_,h.lo.2.2.2⟩,⟨es,by rw[old _ hCl];exact hC,hes,fun i l hi=>?_⟩,fun t l f ht=>?_,fun q l hq=>?_,h.small⟩,hle⟩
 ·simp only at hy
  split at hy
  ·rename_i e;exact fun hp=>by have:=h.lo.1 i hp;omega
  ·exact h.lo.2.2.1 i y hy
 ·obtain⟨b1,b2,t,b3,b4⟩:=hce i l hi
  exact⟨b1,b2,t,b3,hle.1 _ _ b4⟩
 ·simp only at ht
  split at ht
  ·rename_i e
   cases ht
   subst e
   exact⟨true,.nilm,by simp[hx],(fun n hn=>by cases hn),Nat.zero_le _,Nat.zero_le _,fun h=>absurd rfl h,fun h=>absurd rfl h⟩
  ·obtain⟨b,m,c1,c2,c3,c4,c5,c6⟩:=h.st t l f ht
   exact⟨b,m,by rw[old _ (h.st_at ht).1];exact c1,c2,c3,c4,c5,c6⟩
 ·obtain⟨es',d1,d2⟩:=h.nx q l hq
  refine⟨es',by rw[old _ (h.nx_at hq).1];exact d1,fun k v hm=>?_⟩
  obtain⟨y,t,f,e1,e2,e3⟩:=d2 k v hm
  exact⟨y,t,f,e1,e2,hle.1 _ _ e3⟩
abbrev layN (a:Lay2) (n:Nat) (l:List Nat) (f:Nat):Lay2:=⟨fun i=>if i=n+1 then some (l,f) else a.st i,fun i=>if i=n then some l else a.nx i⟩
theorem DI.made (h:DI ins first size P D C a c H) {l:List Nat} (hl:∀ n∈l,n < ins.length) (hll:l.length≤ins.length) (h0:l≠[]) (hN:ins.length≤8192) (c':CS) (es':List (AV×AV)) (hes:es'.length=c'.L.length)
  (hc:∀(i:Nat) (l':List Nat),c'.L[i]?=some l'→(l' = l∧es'[i]?=some (AV.str (keyS l),AV.rf (H.length+1) 1 0 0))∨(c'.emptied=c.emptied∧∃ es:List (AV×AV),H[C]?=some (.mp .str es)∧c.L[i]?=some l'∧es'[i]?=es[i]?))
  (he:c.emptied≤c'.emptied) (hin:l∈c'.L) (hold:c'.emptied=c.emptied→∀ x∈c.L,x∈c'.L) (hold2:c'.emptied=c.emptied∨c.emptied < c'.emptied)
  (hs:c'.made≤4000000000000∧c'.emptied≤c'.made∧c'.L.length≤size∧1≤size∧size≤1024) :
  DI ins first size P D C (layN a H.length l c'.emptied) c' (own2 H D C (.row 6 [dfaAV ins first size C c'] 0) (.mp .str es') [.mp (.int .i64) [],.row 3 [stAV false l (.mpr H.length) c'.emptied] 0])∧a.le (layN a H.length l c'.emptied):=by
 have hDl:=(List.getElem?_eq_some_iff.1 h.d).1
 obtain⟨es,hC,hes0,hce⟩:=h.cache
 have hCl:=(List.getElem?_eq_some_iff.1 hC).1
 have hDC:D≠C:=fun e=>by rw[← e,h.d]at hC;cases hC
 have hne:∀ t y,a.st t=some y→t≠H.length+1:=fun t y ht=>by have:=(h.st_at ht).1;omega
 have hne2:∀ t y,a.nx t=some y→t≠H.length:=fun t y ht=>by have:=(h.nx_at ht).1;omega
 have hle:a.le (layN a H.length l c'.emptied):=⟨fun i y hy=>by simp[layN,hne i y hy,hy],fun i y hy=>by simp[layN,hne2 i y hy,hy]⟩
 have hlo:=h.lo
 refine⟨⟨own2_D hDl hCl hDC _ _ _,⟨fun i hi=>by rw[own2_len];have:=hlo.1 i hi;omega,hlo.2.1,fun i y hy=>?_,fun i y hy=>?_⟩,⟨es',own2_C hDl hCl hDC _ _ _,hes,fun i l' hi=>?_⟩,fun t l' f ht=>?_,fun q l' hq=>?_,hs⟩,hle⟩
 ·simp only[layN]at hy
  split at hy
  ·exact fun hp=>by have:=hlo.1 i hp;omega
  ·exact hlo.2.2.1 i y hy
 ·simp only[layN]at hy
  split at hy
  ·exact fun hp=>by have:=hlo.1 i hp;omega
  ·exact hlo.2.2.2 i y hy
 ·rcases hc i l' hi with ⟨rfl,e2⟩|⟨e1,es0,e2,e3,e4⟩
  ·exact⟨h0,fun n hn=>by have:=hl n hn;omega,_,e2,by simp[layN]⟩
  ·rw[hC]at e2;cases e2
   obtain⟨b1,b2,t,b3,b4⟩:=hce i l' e3
   exact⟨b1,b2,t,by rw[e4];exact b3,(hle.1 _ _ b4).trans (by rw[e1])⟩
 ·simp only[layN]at ht
  split at ht
  ·rename_i e
   simp only[Option.some.injEq,Prod.mk.injEq]at ht
   obtain⟨rfl,rfl⟩:=ht
   subst e
   exact⟨false,.mpr H.length,by rw[own2_new];rfl,hl,hll,Nat.le_refl _,fun _ _=>hin,fun _=>⟨rfl,_,rfl,by simp[layN]⟩⟩
  ·obtain⟨b,m,c1,c2,c3,c4,c5,c6⟩:=h.st t l' f ht
   obtain⟨g1,g2,g3⟩:=h.st_at ht
   refine⟨b,m,by rw[own2_ne _ _ _ g2 g3 g1];exact c1,c2,c3,by omega,fun z1 z2=>?_,fun z1=>?_⟩
   ·rcases hold2 with e|e
    ·exact hold e l' (c5 z1 (by omega))
    ·omega
   ·obtain⟨z,q,k1,k2⟩:=c6 z1
    exact⟨z,q,k1,hle.2 _ _ k2⟩
 ·simp only[layN]at hq
  split at hq
  ·rename_i e
   subst e
   exact⟨[],by have:=own2_new (H:=H) (D:=D) (C:=C) (.row 6 [dfaAV ins first size C c'] 0) (.mp .str es') [.mp (.int .i64) [],.row 3 [stAV false l (.mpr H.length) c'.emptied] 0] (k:=0);simpa using this,fun k v hm=>by cases hm⟩
  ·obtain⟨es2,d1,d2⟩:=h.nx q l' hq
   obtain⟨g1,g2,g3⟩:=h.nx_at hq
   refine⟨es2,by rw[own2_ne _ _ _ g2 g3 g1];exact d1,fun k v hm=>?_⟩
   obtain⟨y,t,f,e1,e2,e3⟩:=d2 k v hm
   exact⟨y,t,f,e1,e2,hle.1 _ _ e3⟩
theorem own2_low (h:DI ins first size P D C a c H) (x y:MB) (K:List MB):KeepsLow P H (own2 H D C x y K):=by
 have hlo:=h.lo
 have hDl:=(List.getElem?_eq_some_iff.1 h.d).1
 refine⟨by rw[own2_len];omega,fun i hi=>own2_ne _ _ _ (fun e=>hlo.2.1.1 (e ▸ hi)) (fun e=>hlo.2.1.2 (e ▸ hi)) (hlo.1 i hi)⟩
end
theorem updMp_none {x v:AV}:∀ {es:List (AV×AV)},findMp x es=none→updMp x v es=es++[(x,v)]
 | [],_=>rfl
 | (k,u)::es,h=>by
   simp only[findMp]at h
   split at h
   ·cases h
   ·rename_i hb
    simp only[updMp]
    rw[if_neg hb,updMp_none h]
    rfl
theorem kf47 {ins:List Ins} {first:List Nat} {size:Nat} {P:Nat→Prop} {D C:Nat} {a:Lay2} {c:CS} {H:List MB} (hi:DI ins first size P D C a c H) (hN:ins.length≤8192) (hmd:c.made < 4000000000000) {l:List Nat} (hl:∀ n∈l,n < ins.length) (hll:l.length≤ins.length) :
  ∃ r,(∃ t H' a' f,r=(AV.rf t 1 0 0,H')∧DI ins first size P D C a' (c.need size l) H'∧a.le a'∧a'.st t=some (l,f)∧KeepsLow P H H')∧call Tryz.prog pol1 78 [.rf D 1 0 0,.sl false (l.map NV)] H=some r:=by
 have hD:=hi.d
 have hDl:=(List.getElem?_eq_some_iff.1 hD).1
 obtain⟨es,hC,hes,hce⟩:=hi.cache
 have hCl:=(List.getElem?_eq_some_iff.1 hC).1
 have hDC:D≠C:=fun e=>by rw[← e,hD]at hC;cases hC
 obtain⟨s1,s2,s3,s4,s5⟩:=hi.small
 have hk:=kf51 l (by omega)
 have oD:=fun x y K=>own2_D (D:=D) (C:=C) hDl hCl hDC x y K
 have oC:=fun x y K=>own2_C (D:=D) (C:=C) hDl hCl hDC x y K
 have oSD:=fun x y v K=>own2_setD (D:=D) (C:=C) hDl hCl hDC x y v K
 have oSC:=fun x y v K=>own2_setC (D:=D) (C:=C) hDl hCl hDC x y v K
 have hself:=own2_self _ _ hD hC
 refine call_run2E (pol:=pol1) Tryz.func78 rfl rfl rfl rfl (frzArgs_mix _ _ _ rfl) ?_
 rw[← hself]
 have rp:∀ H1 r H,retPol pol1 78 H1 r H=some (r,H):=fun H1 r H=>rfl
 by_cases h0:l=[]
 ·subst h0
  simp +contextual (disch:=omega) only[Tryz.f78,dd78,go_sem,↓reduceIte,List.reduceReplicate,Nat.reduceAdd,Nat.reduceSub,reduceCtorEq,Nat.reduceLeDiff,Nat.reduceMul,Nat.reduceLT,Nat.reduceEqDiff,Int.reduceBNe,Int.reduceBEq,Int.reduceEq,Int.reduceLT,Int.reduceLE,Int.reduceGT,Int.reduceGE,mu78,Nat.reduceBEq,↓wrap_up,↓wrap_down,↓wrap_pred,↓wrap_sub_nat,Int.reduceToNat,oD,oC,oSD,oSC,own2_app,own2_len]
  refine⟨_,⟨_,_,⟨fun i=>if i=H.length then some ([],0) else a.st i,a.nx⟩,0,rfl,?_⟩,rp _ _ _⟩
  rw[show own2 H D C (.row 6 [dfaAV ins first size C c] 0) (.mp .str es) [.row 3 [.agg [.sl true [],.nilm,.int .i64 0]] 0]=H++[.row 3 [stAV true [] .nilm 0] 0] from(own2_app _ _ _ []).symm.trans (by rw[hself];rfl),hself]
  obtain⟨g1,g2⟩:=hi.dead _ rfl
  exact⟨g1,g2,by simp,⟨by simp,fun i hi2=>List.getElem?_append_left (hi.lo.1 i hi2)⟩⟩
 have hl0:((l.length:Nat):Int)=0↔False:=by
  have:l.length≠0:=fun e=>h0 (List.length_eq_zero_iff.1 e)
  exact⟨fun h=>this (by omega),False.elim⟩
 rcases hi.find (l:=l) (fun n hn=>by have:=hl n hn;omega) hC with ⟨hm,t,ht,hst⟩|⟨hm,ht⟩
 ·simp +contextual (disch:=omega) only[Tryz.f78,dd78,go_sem,↓reduceIte,List.reduceReplicate,Nat.reduceAdd,Nat.reduceSub,reduceCtorEq,Nat.reduceLeDiff,Nat.reduceMul,Nat.reduceLT,Nat.reduceEqDiff,Int.reduceBNe,Int.reduceBEq,Int.reduceEq,Int.reduceLT,Int.reduceLE,Int.reduceGT,Int.reduceGE,mu78,Nat.reduceBEq,↓wrap_up,↓wrap_down,↓wrap_pred,↓wrap_sub_nat,Int.reduceToNat,oD,oC,oSD,oSC,own2_app,own2_len,hl0,hk,ht]
  refine⟨False.elim,fun _=>⟨_,⟨_,_,a,c.emptied,rfl,?_⟩,rp _ _ _⟩⟩
  rw[hself]
  refine⟨?_,a.le_refl,hst,.refl _ _⟩
  unfold CS.need
  rw[if_neg h0,if_pos hm]
  exact hi
 ·by_cases hfull:c.L.length=size
  ·simp +contextual (disch:=omega) only[Tryz.f78,dd78,go_sem,↓reduceIte,List.reduceReplicate,Nat.reduceAdd,Nat.reduceSub,reduceCtorEq,Nat.reduceLeDiff,Nat.reduceMul,Nat.reduceLT,Nat.reduceEqDiff,Int.reduceBNe,Int.reduceBEq,Int.reduceEq,Int.reduceLT,Int.reduceLE,Int.reduceGT,Int.reduceGE,mu78,Nat.reduceBEq,↓wrap_up,↓wrap_down,↓wrap_pred,↓wrap_sub_nat,Int.reduceToNat,oD,oC,oSD,oSC,own2_app,own2_len,hl0,hk,ht,lenMp,evClear,hes,hfull]
   refine⟨False.elim,fun _=>⟨by unfold dOk;kernel_rfl,_,⟨_,_,layN a H.length l (c.emptied+1),c.emptied+1,rfl,?_⟩,rp _ _ _⟩⟩
   rw[hself]
   have hn:c.need size l=⟨[l],c.made+1,c.emptied+1⟩:=by unfold CS.need;rw[if_neg h0,if_neg hm,if_pos hfull]
   rw[hn]
   obtain⟨g1,g2⟩:=hi.made hl hll h0 hN ⟨[l],c.made+1,c.emptied+1⟩ [(.str (keyS l),.rf (H.length+1) 1 0 0)] rfl (fun i l' h=>by
    cases i with
    | zero=>simp at h;exact .inl ⟨h.symm,rfl⟩
    | succ i=>simp at h) (Nat.le_succ _) (by simp) (fun h=>by simp at h) (.inr (Nat.lt_succ_self _)) ⟨by simp only;omega,by simp only;omega,by simp only[List.length_singleton];omega,s4,s5⟩
   exact⟨g1,g2,by simp[layN],own2_low hi _ _ _⟩
  ·simp +contextual (disch:=omega) only[Tryz.f78,dd78,go_sem,↓reduceIte,List.reduceReplicate,Nat.reduceAdd,Nat.reduceSub,reduceCtorEq,Nat.reduceLeDiff,Nat.reduceMul,Nat.reduceLT,Nat.reduceEqDiff,Int.reduceBNe,Int.reduceBEq,Int.reduceEq,Int.reduceLT,Int.reduceLE,Int.reduceGT,Int.reduceGE,mu78,Nat.reduceBEq,↓wrap_up,↓wrap_down,↓wrap_pred,↓wrap_sub_nat,Int.reduceToNat,oD,oC,oSD,oSC,own2_app,own2_len,hl0,hk,ht,lenMp,evClear,hes,hfull]
   refine⟨False.elim,fun _=>⟨by unfold dOk;kernel_rfl,_,⟨_,_,layN a H.length l c.emptied,c.emptied,rfl,?_⟩,rp _ _ _⟩⟩
   rw[hself,updMp_none ht]
   have hn:c.need size l=⟨c.L++[l],c.made+1,c.emptied⟩:=by unfold CS.need;rw[if_neg h0,if_neg hm,if_neg hfull]
   rw[hn]
   obtain⟨g1,g2⟩:=hi.made hl hll h0 hN ⟨c.L++[l],c.made+1,c.emptied⟩ (es++[(.str (keyS l),.rf (H.length+1) 1 0 0)]) (by simp[hes]) (fun i l' h=>by
    by_cases hlt:i < c.L.length
    ·rw[List.getElem?_append_left hlt]at h
     exact .inr ⟨rfl,es,hC,h,List.getElem?_append_left (by omega)⟩
    ·have hi3:i=c.L.length:=by
      have:=(List.getElem?_eq_some_iff.1 h).1
      simp at this;omega
     subst hi3
     simp at h
     exact .inl ⟨h.symm,by rw[← hes];simp⟩) (Nat.le_refl _) (by simp) (fun _ x hx=>List.mem_append_left _ hx) (.inl rfl) ⟨by simp only;omega,by simp only;omega,by simp only[List.length_append,List.length_singleton];omega,s4,s5⟩
   exact⟨g1,g2,by simp[layN],own2_low hi _ _ _⟩
end
section
attribute [local go_sem] frzB ty0 ty3 ty4 ty22 ty46 ty54 ty106 ty149 ty151 ty153 ty196
open Go.Proofs Go.RowKit Go.IntWalk
set_option maxRecDepth 100000
set_option maxHeartbeats 8000000
section
variable {ins:List Ins} {first:List Nat} {size:Nat} {P:Nat→Prop} {D C:Nat} {a:Lay2} {c:CS} {H:List MB}
theorem DI.setNx (h:DI ins first size P D C a c H) {q:Nat} {l:List Nat} (hq:a.nx q=some l) (es:List (AV×AV)) (hes:∀ k v,(k,v)∈es→∃ x t f,k=I x∧v=.rf t 1 0 0∧a.st t=some (stateL ins (afterL ins l x),f)) :
  DI ins first size P D C a c (H.set q (.mp (.int .i64) es))∧KeepsLow P H (H.set q (.mp (.int .i64) es)):=by
 obtain⟨g1,g2,g3⟩:=h.nx_at hq
 have hlo:=h.lo.2.2.2 q l hq
 have old:∀ i,i≠q→(H.set q (.mp (.int .i64) es))[i]?=H[i]?:=fun i hi=>List.getElem?_set_ne (Ne.symm hi)
 obtain⟨es0,hC,hes0,hce⟩:=h.cache
 obtain⟨es1,hq1,hq2⟩:=h.nx q l hq
 refine⟨⟨by rw[old _ (Ne.symm g2)];exact h.d,⟨fun i hi=>by rw[List.length_set];exact h.lo.1 i hi,h.lo.2⟩,⟨es0,by rw[old _ (Ne.symm g3)];exact hC,hes0,hce⟩,fun t l' f ht=>?_,fun q' l' hq'=>?_,h.small⟩,⟨by simp,fun i hi=>old i (fun e=>hlo (e ▸ hi))⟩⟩
 ·obtain⟨b,m,c1,c2⟩:=h.st t l' f ht
  have:t≠q:=fun e=>by rw[e,hq1]at c1;cases c1
  exact⟨b,m,by rw[old _ this];exact c1,c2⟩
 ·by_cases e:q' = q
  ·subst e
   rw[hq]at hq';cases hq'
   exact⟨es,List.getElem?_set_self g1,hes⟩
  ·obtain⟨es2,d1,d2⟩:=h.nx q' l' hq'
   exact⟨es2,by rw[old _ e];exact d1,d2⟩
theorem CS.need_made (c:CS) (size:Nat) (l:List Nat):(c.need size l).made≤c.made+1:=by
 unfold CS.need
 split
 ·omega
 ·split
  ·omega
  ·split<;>simp
end
structure InsOk (ins:List Ins):Prop where
 len:ins.length≤8192
 leads:Leads ins
 sets:∀ i∈ins,i.set.length≤1000000
theorem afterL_lt {ins:List Ins} (h:Leads ins) (l:List Nat) (x:Int):∀ n∈afterL ins l x,n < ins.length:=by
 intro n hn
 simp only[afterL,List.mem_flatMap]at hn
 obtain⟨m,_,hm⟩:=hn
 split at hm
 ·rename_i i hi
  split at hm
  ·rename_i h1
   simp at hm;subst hm
   exact(h m i hi).2.2.2 (.inl h1.1)
  ·simp at hm
 ·simp at hm
abbrev nextL (ins:List Ins) (l:List Nat) (x:Int):List Nat:=stateL ins (afterL ins l x)
theorem kf48 {ins:List Ins} {first:List Nat} {size:Nat} {P:Nat→Prop} {D C:Nat} {a:Lay2} {c:CS} {H:List MB} (hi:DI ins first size P D C a c H) (ho:InsOk ins) (hmd:c.made < 4000000000000) {s:Nat} {l:List Nat} {f:Nat} (hs:a.st s=some (l,f)) (hl0:l≠[]) (x:Int) :
  ∃ r,(∃ t H' a' f,r=(AV.rf t 1 0 0,H')∧DI ins first size P D C a' (c.need size (nextL ins l x)) H'∧a.le a'∧a'.st t=some (nextL ins l x,f)∧KeepsLow P H H')∧call Tryz.prog pol1 79 [.rf D 1 0 0,.rf s 1 0 0,I x] H=some r:=by
 have hN:=ho.len
 have hD:=hi.d
 obtain⟨b,m,s1,s2,s3,s4,s5,s6⟩:=hi.st s l f hs
 obtain⟨rfl,q,rfl,hq⟩:=s6 hl0
 obtain⟨es,q1,q2⟩:=hi.nx q l hq
 obtain⟨t1,⟨t,H1,a1,f1,rfl,d1,le1,st1,low1⟩,hc47⟩:=kf47 hi hN hmd (l:=nextL ins l x) (stateL_ok ins _).1 (stateL_ok ins _).2
 obtain⟨b',m',u1,u2,u3,u4,u5,u6⟩:=d1.st s l f (le1.1 _ _ hs)
 obtain⟨rfl,q',rfl,hq'⟩:=u6 hl0
 obtain⟨es',v1,v2⟩:=d1.nx q' l hq'
 have hal:=afterL_len ins l x
 have hc52:=kf52 ins (by omega) ho.sets l (by omega) s2 x
 have hc30:=kf30l ins (by omega) ho.leads (afterL ins l x) (by omega) (afterL_lt ho.leads l x)
 have rp:∀ H1 r H,retPol pol1 79 H1 r H=some (r,H):=fun H1 r H=>rfl
 have hsq:s≠q':=fun e=>by rw[e,v1]at u1;cases u1
 have hq'l:=(d1.nx_at hq').1
 have g1:∀ z,(H1.set q' z)[s]?=some (.row 3 [stAV false l (.mpr q') f] 0):=fun z=>by rw[List.getElem?_set_ne (Ne.symm hsq)];exact u1
 have g2:∀ z,(H1.set q' z)[q']?=some z:=fun z=>List.getElem?_set_self hq'l
 have hgood:∀(es2:List (AV×AV)),(∀ k v,(k,v)∈es2→(k,v)∈es')→∀ k v,(k,v)∈updMp (I x) (.rf t 1 0 0) es2→∃ x t f,k=I x∧v=.rf t 1 0 0∧a1.st t=some (stateL ins (afterL ins l x),f):=by
  intro es2 he k v hm
  rcases updMp_mem hm with h|⟨h1,h2⟩
  ·exact v2 k v (he k v h)
  ·refine⟨x,t,f1,?_,h1,st1⟩
   rcases h2 with h2|h2
   ·exact h2
   ·exact beq_I.1 h2
 refine call_run2E (pol:=pol1) Tryz.func79 rfl rfl rfl rfl (frzArgs_mix _ _ _ rfl) ?_
 have fin:∀(es2:List (AV×AV)),(∀ k v,(k,v)∈es2→(k,v)∈es')→∃ r,(∃ t H' a' f,r=(AV.rf t 1 0 0,H')∧DI ins first size P D C a' (c.need size (nextL ins l x)) H'∧a.le a'∧a'.st t=some (nextL ins l x,f)∧KeepsLow P H H') ∧
   retPol pol1 79 H (.rf t 1 0 0) (H1.set q' (.mp (.int .i64) (updMp (I x) (.rf t 1 0 0) es2)))=some r:=by
  intro es2 he
  obtain⟨w1,w2⟩:=d1.setNx hq' _ (hgood es2 he)
  exact⟨_,⟨t,_,a1,f1,rfl,w1,le1,st1,low1.trans w2⟩,rp _ _ _⟩
 cases hf:findMp (I x) es with
 | some v=>
   obtain⟨k,hm,hb⟩:=findMp_mem hf
   rw[beq_I]at hb
   subst hb
   obtain⟨x',t2,f2,e1,rfl,e3⟩:=q2 _ _ hm
   have e1:x=x':=by simpa using e1
   subst e1
   obtain⟨b2,m2,k1,k2,k3,k4,k5,k6⟩:=hi.st t2 _ _ e3
   by_cases hhit:nextL ins l x=[]∨f2=c.emptied
   ·have hneed:c.need size (nextL ins l x)=c:=by
     unfold CS.need
     by_cases h0:nextL ins l x=[]
     ·rw[if_pos h0]
     ·rw[if_neg h0]
      rcases hhit with h|h
      ·exact absurd h h0
      ·rw[if_pos (k5 h0 h)]
    have hres:∃ r,(∃ t H' a' f,r=(AV.rf t 1 0 0,H')∧DI ins first size P D C a' (c.need size (nextL ins l x)) H'∧a.le a'∧a'.st t=some (nextL ins l x,f)∧KeepsLow P H H')∧retPol pol1 79 H (.rf t2 1 0 0) H=some r:=
     ⟨_,⟨t2,H,a,f2,rfl,by rw[hneed];exact hi,a.le_refl,e3,.refl _ _⟩,rp _ _ _⟩
    by_cases h0:(nextL ins l x).length=0
    ·simp +contextual (disch:=omega) only[Tryz.f79,dd79,go_sem,↓reduceIte,List.reduceReplicate,Nat.reduceAdd,Nat.reduceSub,reduceCtorEq,Nat.reduceLeDiff,Nat.reduceMul,Nat.reduceLT,Nat.reduceEqDiff,Int.reduceBNe,Int.reduceBEq,Int.reduceEq,Int.reduceLT,Int.reduceLE,Int.reduceGT,Int.reduceGE,mu79,Nat.reduceBEq,↓wrap_up,↓wrap_down,↓wrap_pred,↓wrap_sub_nat,Int.reduceToNat,hD,s1,q1,hf,k1,h0]
     repeat' (first|intro _|apply And.intro|(unfold dOk;kernel_rfl)|exact St.beq_refl _|(show altO _ _ _ _=true;kernel_rfl)|(show (_ || _)=true;kernel_rfl)|(show (_ && _)=true;kernel_rfl))
     all_goals first|exact hres|omega
    ·have h1:f2=c.emptied:=by
      rcases hhit with h|h
      ·exact absurd (List.length_eq_zero_iff.2 h) h0
      ·exact h
     subst h1
     simp +contextual (disch:=omega) only[Tryz.f79,dd79,go_sem,↓reduceIte,List.reduceReplicate,Nat.reduceAdd,Nat.reduceSub,reduceCtorEq,Nat.reduceLeDiff,Nat.reduceMul,Nat.reduceLT,Nat.reduceEqDiff,Int.reduceBNe,Int.reduceBEq,Int.reduceEq,Int.reduceLT,Int.reduceLE,Int.reduceGT,Int.reduceGE,mu79,Nat.reduceBEq,↓wrap_up,↓wrap_down,↓wrap_pred,↓wrap_sub_nat,Int.reduceToNat,hD,s1,q1,hf,k1]
     repeat' (first|intro _|apply And.intro|(unfold dOk;kernel_rfl)|exact St.beq_refl _|(show altO _ _ _ _=true;kernel_rfl)|(show (_ || _)=true;kernel_rfl)|(show (_ && _)=true;kernel_rfl))
     all_goals exact hres
   ·have h0:(stateL ins (afterL ins l x)).length≠0:=fun e=>hhit (.inl (List.length_eq_zero_iff.1 e))
    have h0':((stateL ins (afterL ins l x)).length:Int)=0↔False:=⟨fun h=>h0 (by omega),False.elim⟩
    have h1:((f2:Nat):Int)=(c.emptied:Nat)↔False:=⟨fun h=>hhit (.inr (by omega)),False.elim⟩
    simp +contextual (disch:=omega) only[Tryz.f79,dd79,go_sem,↓reduceIte,List.reduceReplicate,Nat.reduceAdd,Nat.reduceSub,reduceCtorEq,Nat.reduceLeDiff,Nat.reduceMul,Nat.reduceLT,Nat.reduceEqDiff,Int.reduceBNe,Int.reduceBEq,Int.reduceEq,Int.reduceLT,Int.reduceLE,Int.reduceGT,Int.reduceGE,mu79,Nat.reduceBEq,↓wrap_up,↓wrap_down,↓wrap_pred,↓wrap_sub_nat,Int.reduceToNat,hD,s1,q1,hf,k1,h0',h1,hc52,hc30,hc47,u1,v1,g1,g2,lenMp,evClear,List.set_set]
    repeat' (first|intro _|apply And.intro|(unfold dOk;kernel_rfl)|exact St.beq_refl _|(show altO _ _ _ _=true;kernel_rfl)|(show (_ || _)=true;kernel_rfl)|(show (_ && _)=true;kernel_rfl))
    all_goals first|contradiction|exact fin [] (fun k v h=>by cases h)|exact fin es' (fun k v h=>h)|trace_state
 | none=>
   simp +contextual (disch:=omega) only[Tryz.f79,dd79,go_sem,↓reduceIte,List.reduceReplicate,Nat.reduceAdd,Nat.reduceSub,reduceCtorEq,Nat.reduceLeDiff,Nat.reduceMul,Nat.reduceLT,Nat.reduceEqDiff,Int.reduceBNe,Int.reduceBEq,Int.reduceEq,Int.reduceLT,Int.reduceLE,Int.reduceGT,Int.reduceGE,mu79,Nat.reduceBEq,↓wrap_up,↓wrap_down,↓wrap_pred,↓wrap_sub_nat,Int.reduceToNat,hD,s1,q1,hf,hc52,hc30,hc47,u1,v1,g1,g2,lenMp,evClear,List.set_set]
   repeat' (first|intro _|apply And.intro|(unfold dOk;kernel_rfl)|exact St.beq_refl _|(show altO _ _ _ _=true;kernel_rfl)|(show (_ || _)=true;kernel_rfl)|(show (_ && _)=true;kernel_rfl))
   ·exact fin [] (fun k v h=>by cases h)
   ·exact fin es' (fun k v h=>h)
def doneL (ins:List Ins) (l:List Nat):Bool:=match l.getLast? with
 | some n=>match ins[n]? with
   | some i=>i.op == 0
   | none=>false
 | none=>false
def runL (ins:List Ins):List Int→Nat→List Nat→Int→Int
 | xs,p,l,e=>if l=[] then e else match xs with
   | []=>if doneL ins l=true then(p:Int) else e
   | x::xs=>runL ins xs (p+1) (nextL ins l x) (if doneL ins l=true then(p:Int) else e)
def runC (ins:List Ins) (size:Nat):List Int→List Nat→CS→CS
 | xs,l,c=>if l=[] then c else match xs with
   | []=>c
   | x::xs=>runC ins size xs (nextL ins l x) (c.need size (nextL ins l x))
end
section
attribute [local go_sem] frzB ty0 ty3 ty4 ty22 ty34 ty46 ty54 ty91 ty106 ty149 ty153
open Go.Proofs Go.RowKit Go.IntWalk
set_option maxRecDepth 100000
set_option maxHeartbeats 8000000
theorem runL_nil {ins:List Ins} {xs:List Int} {p:Nat} {e:Int}:runL ins xs p [] e=e:=by
 cases xs<;>simp[runL]
theorem runC_nil {ins:List Ins} {size:Nat} {xs:List Int} {c:CS}:runC ins size xs [] c=c:=by
 cases xs<;>simp[runC]
theorem doneL_at {ins:List Ins} {l:List Nat} {n:Nat} {i:Ins} (h:l[l.length - 1]?=some n) (hi:ins[n]?=some i):doneL ins l=(i.op == 0):=by
 simp[doneL,List.getLast?_eq_getElem?,h,hi]
structure KRS where
 p:Nat
 t:Nat
 l:List Nat
 f:Nat
 e:Int
 H:List MB
 a:Lay2
 c:CS
theorem kf31 {ins:List Ins} {first:List Nat} {size:Nat} {P:Nat→Prop} {D C:Nat} {a:Lay2} {c:CS} {H:List MB} (hi:DI ins first size P D C a c H) (ho:InsOk ins) (hf1:∀ n∈first,n < ins.length) (hf2:first.length≤ins.length) (xs:List Int) (hx:xs.length≤1000000) (p:Nat) (hp:p≤xs.length) (hmd:c.made+xs.length+2≤4000000000000) :
  ∃ r,(∃ H' a',r=(I (runL ins (xs.drop p) p first (-1)),H')∧DI ins first size P D C a' (runC ins size (xs.drop p) first (c.need size first)) H'∧a.le a'∧KeepsLow P H H')∧call Tryz.prog pol1 46 [.rf D 1 0 0,.sl false (xs.map I),I p] H=some r:=by
 have hN:=ho.len
 have rp:∀ H1 r H,retPol pol1 46 H1 r H=some (r,H):=fun H1 r H=>rfl
 have hD:=hi.d
 obtain⟨t1,⟨t,H1,a1,f1,rfl,d1,le1,st1,low1⟩,hc47⟩:=kf47 hi hN (by omega) hf1 hf2
 have hm1:=CS.need_made c size first
 refine call_run2E (pol:=pol1) Tryz.func46 rfl rfl rfl rfl (frzArgs_mix _ _ _ rfl) ?_
 simp +contextual (disch:=omega) only[Tryz.f46,dd46,go_sem,↓reduceIte,List.reduceReplicate,Nat.reduceAdd,Nat.reduceSub,reduceCtorEq,Nat.reduceLeDiff,Nat.reduceMul,Nat.reduceLT,Nat.reduceEqDiff,Int.reduceBNe,Int.reduceBEq,Int.reduceEq,Int.reduceLT,Int.reduceLE,Int.reduceGT,Int.reduceGE,mu46,Nat.reduceBEq,↓wrap_up,↓wrap_down,↓wrap_pred,↓wrap_sub_nat,Int.reduceToNat,hD,hc47]
 refine W_for (σ:=KRS) (M:=(mskOf (pol1.mask 46) (pol1.gc 46) (pol1.acts 46) 0 3)) rfl (fun x=>(⟨58,[(8,.rf x.t 1 0 0),(7,I x.e),(2,I x.p),(1,.sl false (xs.map I)),(0,.rf D 1 0 0)],x.H⟩:St))
  (fun x=>x.p≤xs.length∧DI ins first size P D C x.a x.c x.H∧x.a.st x.t=some (x.l,x.f)∧a.le x.a∧KeepsLow P H x.H∧x.c.made+(xs.length - x.p)≤c.made+xs.length+1 ∧
    runL ins (xs.drop x.p) x.p x.l x.e=runL ins (xs.drop p) p first (-1)∧runC ins size (xs.drop x.p) x.l x.c=runC ins size (xs.drop p) first (c.need size first))
  (fun x=>xs.length - x.p) ⟨p,t,first,f1,-1,H1,a1,c.need size first⟩ ?_ ⟨hp,d1,st1,le1,low1,by simp only;omega,rfl,rfl⟩ _ ?_
 ·rintro⟨p',t',l,f,e,H',a',c'⟩ ⟨h1,h2,h3,h4,h5,h6,h7,h8⟩
  simp only at h1 h2 h3 h4 h5 h6 h7 h8 ⊢
  obtain⟨b,m,s1,s2,s3,s4,s5,s6⟩:=h2.st t' l f h3
  have hD':=h2.d
  by_cases hl0:l=[]
  ·subst hl0
   rw[runL_nil]at h7
   rw[runC_nil]at h8
   simp +contextual (disch:=omega) only[Tryz.f46,dd46,go_sem,↓reduceIte,List.reduceReplicate,Nat.reduceAdd,Nat.reduceSub,reduceCtorEq,Nat.reduceLeDiff,Nat.reduceMul,Nat.reduceLT,Nat.reduceEqDiff,Int.reduceBNe,Int.reduceBEq,Int.reduceEq,Int.reduceLT,Int.reduceLE,Int.reduceGT,Int.reduceGE,mu46,Nat.reduceBEq,↓wrap_up,↓wrap_down,↓wrap_pred,↓wrap_sub_nat,Int.reduceToNat,s1]
   exact⟨_,⟨H',a',by rw[h7],by rw[← h8];exact h2,h4,h5⟩,rp _ _ _⟩
  obtain⟨rfl,q,rfl,hq⟩:=s6 hl0
  have hlen:0 < l.length:=List.length_pos_iff.2 hl0
  obtain⟨n,hn⟩:∃ n,l[l.length - 1]?=some n:=⟨_,List.getElem?_eq_getElem (by omega)⟩
  have hn':(l.map NV)[l.length - 1]?=some (NV n):=by simp[hn]
  obtain⟨i,hi'⟩:∃ i,ins[n]?=some i:=⟨_,List.getElem?_eq_getElem (s2 n (List.mem_of_getElem? hn))⟩
  have hii:(ins.map insAV)[n]?=some (insAV i):=by simp[hi']
  have hdone:=doneL_at hn hi'
  by_cases hend:p' = xs.length
  ·subst hend
   rw[List.drop_length]at h7 h8
   simp only[runL,runC,if_neg hl0,hdone]at h7 h8
   simp +contextual (disch:=omega) only[Tryz.f46,dd46,go_sem,↓reduceIte,List.reduceReplicate,Nat.reduceAdd,Nat.reduceSub,reduceCtorEq,Nat.reduceLeDiff,Nat.reduceMul,Nat.reduceLT,Nat.reduceEqDiff,Int.reduceBNe,Int.reduceBEq,Int.reduceEq,Int.reduceLT,Int.reduceLE,Int.reduceGT,Int.reduceGE,mu46,Nat.reduceBEq,↓wrap_up,↓wrap_down,↓wrap_pred,↓wrap_sub_nat,Int.reduceToNat,s1,hD',hn',hii]
   refine⟨by unfold dOk;kernel_rfl,fun h=>?_,fun h=>?_⟩
   ·rw[if_pos (by simp[h])]at h7
    exact⟨_,⟨H',a',by rw[h7],by rw[← h8];exact h2,h4,h5⟩,rp _ _ _⟩
   ·rw[if_neg (by simp[h])]at h7
    exact⟨_,⟨H',a',by rw[h7],by rw[← h8];exact h2,h4,h5⟩,rp _ _ _⟩
  ·obtain⟨x,hx'⟩:∃ x,xs[p']?=some x:=⟨_,List.getElem?_eq_getElem (by omega)⟩
   have hx2:(xs.map I)[p']?=some (I x):=by simp[hx']
   have hdrop:xs.drop p' = x::xs.drop (p' + 1):=by
    rw[List.drop_eq_getElem_cons (by omega)]
    congr 1
    rw[List.getElem?_eq_getElem (by omega)]at hx'
    exact Option.some.inj hx'
   obtain⟨r2,⟨t2,H2,a2,f2,rfl,d2,le2,st2,low2⟩,hc48⟩:=kf48 h2 ho (by omega) h3 hl0 x
   have hm2:=CS.need_made c' size (nextL ins l x)
   rw[hdrop]at h7 h8
   simp only[runL,runC,if_neg hl0,hdone]at h7 h8
   simp +contextual (disch:=omega) only[Tryz.f46,dd46,go_sem,↓reduceIte,List.reduceReplicate,Nat.reduceAdd,Nat.reduceSub,reduceCtorEq,Nat.reduceLeDiff,Nat.reduceMul,Nat.reduceLT,Nat.reduceEqDiff,Int.reduceBNe,Int.reduceBEq,Int.reduceEq,Int.reduceLT,Int.reduceLE,Int.reduceGT,Int.reduceGE,mu46,Nat.reduceBEq,↓wrap_up,↓wrap_down,↓wrap_pred,↓wrap_sub_nat,Int.reduceToNat,s1,hD',hn',hii,hx2,hc48]
   refine⟨by unfold dOk;kernel_rfl,fun h=>?_,fun h=>?_⟩
   ·rw[if_pos (by simp[h])]at h7
    exact⟨⟨p' + 1,t2,nextL ins l x,f2,p',H2,a2,c'.need size (nextL ins l x)⟩,⟨by simp only;omega,d2,st2,Lay2.le_trans h4 le2,h5.trans low2,by simp only;omega,h7,h8⟩,by simp only;omega,rfl⟩
   ·rw[if_neg (by simp[h])]at h7
    exact⟨⟨p' + 1,t2,nextL ins l x,f2,e,H2,a2,c'.need size (nextL ins l x)⟩,⟨by simp only;omega,d2,st2,Lay2.le_trans h4 le2,h5.trans low2,by simp only;omega,h7,h8⟩,by simp only;omega,rfl⟩
 ·rfl
theorem kf13e {ins:List Ins} {first:List Nat} {size:Nat} {P:Nat→Prop} {D C:Nat} {a:Lay2} {c:CS} {H:List MB} (hi:DI ins first size P D C a c H) (ho:InsOk ins) (hf1:∀ n∈first,n < ins.length) (hf2:first.length≤ins.length) (xs:List Int) (hx:xs.length≤65536) (p:Nat) (hp:p≤xs.length) (hmd:c.made+xs.length+2≤4000000000000) :
  ∃ r,(∃ H' a',r=(AV.tup [I (if 0≤runL ins (xs.drop p) p first (-1) then runL ins (xs.drop p) p first (-1) else 0),.bool (decide (0≤runL ins (xs.drop p) p first (-1))),I 0],H')∧DI ins first size P D C a' (runC ins size (xs.drop p) first (c.need size first)) H'∧a.le a'∧KeepsLow P H H')∧call Tryz.prog pol1 22 [.rf D 1 0 0,.sl false (xs.map I),I p] H=some r:=by
 have rp:∀ H1 r H,retPol pol1 22 H1 r H=some (r,H):=fun H1 r H=>rfl
 obtain⟨r,⟨H',a',rfl,d1,le1,low1⟩,hc⟩:=kf31 hi ho hf1 hf2 xs (by omega) p hp hmd
 generalize runL ins (xs.drop p) p first (-1)=e at *
 refine call_run2E (pol:=pol1) Tryz.func22 rfl rfl rfl rfl (frzArgs_mix _ _ _ rfl) ?_
 by_cases he:0≤e
 ·rw[if_pos he]
  simp +contextual (disch:=omega) only[Tryz.f22,dd22,go_sem,↓reduceIte,List.reduceReplicate,Nat.reduceAdd,Nat.reduceSub,reduceCtorEq,Nat.reduceLeDiff,Nat.reduceMul,Nat.reduceLT,Nat.reduceEqDiff,Int.reduceBNe,Int.reduceBEq,Int.reduceEq,Int.reduceLT,Int.reduceLE,Int.reduceGT,Int.reduceGE,mu22,Nat.reduceBEq,↓wrap_up,↓wrap_down,↓wrap_pred,↓wrap_sub_nat,Int.reduceToNat,hc]
  exact⟨_,⟨H',a',rfl,d1,le1,low1⟩,rp _ _ _⟩
 ·rw[if_neg he]
  simp +contextual (disch:=omega) only[Tryz.f22,dd22,go_sem,↓reduceIte,List.reduceReplicate,Nat.reduceAdd,Nat.reduceSub,reduceCtorEq,Nat.reduceLeDiff,Nat.reduceMul,Nat.reduceLT,Nat.reduceEqDiff,Int.reduceBNe,Int.reduceBEq,Int.reduceEq,Int.reduceLT,Int.reduceLE,Int.reduceGT,Int.reduceGE,mu22,Nat.reduceBEq,↓wrap_up,↓wrap_down,↓wrap_pred,↓wrap_sub_nat,Int.reduceToNat,hc]
  exact⟨_,⟨H',a',rfl,d1,le1,low1⟩,rp _ _ _⟩
theorem kf12s {ins:List Ins} {first:List Nat} {size:Nat} {P:Nat→Prop} {D C:Nat} {a:Lay2} {c:CS} {H:List MB} (hi:DI ins first size P D C a c H):call Tryz.prog pol1 23 [.rf D 1 0 0] H=some (.tup [NV c.made,NV c.emptied],H):=by
 have hD:=hi.d
 have rp:∀ H1 r H,retPol pol1 23 H1 r H=some (r,H):=fun H1 r H=>rfl
 refine call_run2 (pol:=pol1) Tryz.func23 rfl rfl rfl rfl (frzArgs_mix _ _ _ rfl) ?_
 simp +contextual (disch:=omega) only[Tryz.f23,dd23,go_sem,↓reduceIte,List.reduceReplicate,Nat.reduceAdd,Nat.reduceSub,reduceCtorEq,Nat.reduceLeDiff,Nat.reduceMul,Nat.reduceLT,Nat.reduceEqDiff,Int.reduceBNe,Int.reduceBEq,Int.reduceEq,Int.reduceLT,Int.reduceLE,Int.reduceGT,Int.reduceGE,mu23,Nat.reduceBEq,↓wrap_up,↓wrap_down,↓wrap_pred,↓wrap_sub_nat,Int.reduceToNat,hD]
 exact⟨by unfold dOk;kernel_rfl,rp _ _ _⟩
end
section
attribute [local go_sem] ty0 ty3 ty4 ty22 ty23 ty34 ty46 ty48 ty54 ty91 ty104 ty106
open Go.Proofs Go.RowKit Go.IntWalk
set_option maxRecDepth 100000
set_option maxHeartbeats 8000000
theorem kf29n (l:List (Int×Int)) (hl:l.length≤1000000) (K:List MB) (x:MB):call Tryz.prog pol1 45 [.sl false (l.map spanAV)] (K++[x])=some (.sl false (l.map spanAV),K++[x]):=by
 rw[call_eq]
 unfold evStep
 rw[if_neg (show ¬ pol1.pure 45=true by decide)]
 show cloneExt 2 16 [.sl false (l.map spanAV)] (K++[x])=_
 have h1:((l.map spanAV).all fun y=>decide (y.cells.length=2) && y.cells.all AV.ok)=true:=by
  rw[List.all_eq_true]
  intro y hy
  obtain⟨p,_,rfl⟩:=List.mem_map.1 hy
  rfl
 have h2:roomFor (l.map spanAV).length 16=true:=room_ok (by simp;omega) (by omega)
 unfold cloneExt
 simp only[elemsOf]
 rw[if_pos ⟨h1,h2,plain_span l⟩]
 cases K<;>rfl
theorem kf28n (l:List Ins) (hl:0 < l.length∧l.length≤1000000) (K:List MB):call Tryz.prog pol1 44 [.sl false (l.map insAV)] K=some (.ms K.length 5 l.length 0 l.length,K++[.row 5 (l.map insAV) 0]):=by
 rw[call_eq]
 unfold evStep
 rw[if_neg (show ¬ pol1.pure 44=true by decide)]
 show cloneExtO 5 56 [.sl false (l.map insAV)] K=_
 have h1:((l.map insAV).all fun y=>decide (y.cells.length=5) && y.cells.all AV.ok)=true:=by
  rw[List.all_eq_true]
  intro y hy
  obtain⟨p,_,rfl⟩:=List.mem_map.1 hy
  rfl
 have h2:roomFor (l.map insAV).length 56=true:=room_ok (by simp;omega) (by omega)
 unfold cloneExtO
 simp only[elemsOf]
 rw[if_pos ⟨h1,h2⟩]
 cases l with
 | nil=>simp at hl
 | cons y ys=>simp
theorem call_frz2 {P:Program} {pol:Pol} {f:Nat} {args l:List AV} {H H1:List MB} (hp:pol.pure f=true) (h:frzArgs pol f 0 args H=some (l,H1)) (ha:AV.plainL l=true) :
  call P pol f args H=call P pol f l H1:=by
 have hf:∀(l:List AV) (i:Nat),AV.plainL l=true→frzArgs pol f i l H1=some (l,H1):=by
  intro l
  induction l with
  | nil=>intro i _;rfl
  | cons x l ih=>
    intro i h
    simp only[AV.plainL,Bool.and_eq_true]at h
    simp only[frzArgs,fz_plain H1 h.1,ih (i+1) h.2]
    split<;>simp_all
 rw[call_eq,call_eq]
 unfold evStep
 simp only[hp,if_true,h,hf l 0 ha]
theorem kf9_bad (g:Prg) (hb:PrgB g) (cache:Int) (H:List MB) (h:acceptG g≠0):∃ H',call Tryz.prog pol1 18 [prgAV g,I cache] H=some (.tup [.nilp,I (acceptG g)],H')∧KeepsLow (fun i=>i < H.length) H H':=by
 have hv:=kf27 g hb
 have rp:∀ H1 r H,retPol pol1 18 H1 r H=some (r,H):=fun H1 r H=>rfl
 have hgl:=fun x:MB=>kget_last H x
 refine⟨H++[.row 3 [prgAV g] 0],?_,by simp,fun i hi=>List.getElem?_append_left hi⟩
 refine call_run2 (pol:=pol1) Tryz.func18 rfl rfl rfl rfl (frzArgs_mix _ _ _ (by have h:=plain_prg g;simp only[mixOk,h,Bool.or_true,Bool.true_and];rfl)) ?_
 simp +contextual (disch:=omega) only[Tryz.f18,dd18,go_sem,↓reduceIte,List.reduceReplicate,Nat.reduceAdd,Nat.reduceSub,reduceCtorEq,Nat.reduceLeDiff,Nat.reduceMul,Nat.reduceLT,Nat.reduceEqDiff,Int.reduceBNe,Int.reduceBEq,frzB,Int.reduceEq,Int.reduceLT,Int.reduceLE,Int.reduceGT,Int.reduceGE,mu18,Nat.reduceBEq,↓wrap_up,↓wrap_down,↓wrap_pred,↓wrap_sub_nat,Int.reduceToNat,hv,hgl]
 rfl
theorem kf9n (g:Prg) (hb:PrgB g) (hl:Leads g.ins) (h0:0 < g.ins.length) (hN:g.ins.length≤8192) (size:Nat) (hs:1≤size∧size≤1024) (H:List MB) (h:acceptG g=0) :
  ∃ r,(∃ D C H' a,r=(AV.tup [.rf D 1 0 0,I 0],H')∧DI g.ins (stateL g.ins [0]) size (fun i=>i < H.length) D C a ⟨[],0,0⟩ H'∧KeepsLow (fun i=>i < H.length) H H')∧call Tryz.prog pol1 18 [prgAV g,I size] H=some r:=by
 have hv:=kf27 g hb
 rw[h]at hv
 have rp:∀ H1 r H,retPol pol1 18 H1 r H=some (r,H):=fun H1 r H=>rfl
 have hgl:=fun x:MB=>kget_last H x
 have hc30:=kf30l g.ins (by omega) hl [0] (by simp) (by simpa using h0)
 simp only[List.map_cons,List.map_nil]at hc30
 have hcl:=kf28n g.ins ⟨h0,by omega⟩
 refine call_run2E (pol:=pol1) Tryz.func18 rfl rfl rfl rfl (frzArgs_mix _ _ _ (by have h:=plain_prg g;simp only[mixOk,h,Bool.or_true,Bool.true_and];rfl)) ?_
 simp +contextual (disch:=omega) only[Tryz.f18,dd18,go_sem,↓reduceIte,List.reduceReplicate,Nat.reduceAdd,Nat.reduceSub,reduceCtorEq,Nat.reduceLeDiff,Nat.reduceMul,Nat.reduceLT,Nat.reduceEqDiff,Int.reduceBNe,Int.reduceBEq,frzB,Int.reduceEq,Int.reduceLT,Int.reduceLE,Int.reduceGT,Int.reduceGE,mu18,Nat.reduceBEq,↓wrap_up,↓wrap_down,↓wrap_pred,↓wrap_sub_nat,Int.reduceToNat,hv,hgl,hcl]
 rw[List.append_assoc]
 simp only[List.cons_append,List.nil_append]
 have gg:∀ y z:MB,(H++[y,z])[H.length+1]?=some z:=fun y z=>by rw[List.getElem?_append_right (by omega)];simp
 have ss:∀ y z v:MB,(H++[y,z]).set (H.length+1) v=H++[y,v]:=fun y z v=>by rw[List.set_append_right _ _ (by omega)];simp
 refine W_count (M:=(mskOf (pol1.mask 18) (pol1.gc 18) (pol1.acts 18) 0 8)) rfl g.ins.length (fun i=>(⟨47,[(25,I i),(24,I g.ins.length),(7,.ms (H.length+1) 5 g.ins.length 0 g.ins.length),(1,I size)],H++[.row 3 [prgAV g] 0,.row 5 (g.ins.map insAV) 0]⟩:St)) (fun _=>True) ?_ ?_ trivial _ ?_
 ·intro i hi _
  obtain⟨p,hp⟩:∃ p,g.ins[i]?=some p:=⟨_,List.getElem?_eq_getElem hi⟩
  have hp':(g.ins.map insAV)[i]?=some (insAV p):=by simp[hp]
  have hset:(g.ins.map insAV).set i (insAV p)=g.ins.map insAV:=by
   apply List.ext_getElem?
   intro q
   by_cases e:i=q
   ·subst e;rw[List.getElem?_set_self (by simpa using hi),hp']
   ·rw[List.getElem?_set_ne e]
  have hc29:=fun x y:MB=>kf29n p.set (hb.2 p (List.mem_of_getElem? hp)) (H++[x]) y
  simp only[List.append_assoc,List.cons_append,List.nil_append]at hc29
  simp +contextual (disch:=omega) only[Tryz.f18,dd18,go_sem,↓reduceIte,List.reduceReplicate,Nat.reduceAdd,Nat.reduceSub,reduceCtorEq,Nat.reduceLeDiff,Nat.reduceMul,Nat.reduceLT,Nat.reduceEqDiff,Int.reduceBNe,Int.reduceBEq,frzB,Int.reduceEq,Int.reduceLT,Int.reduceLE,Int.reduceGT,Int.reduceGE,mu18,Nat.reduceBEq,↓wrap_up,↓wrap_down,↓wrap_pred,↓wrap_sub_nat,Int.reduceToNat,gg,ss,hp',hc29,hset]
  rfl
 ·intro _
  have hcl30:call Tryz.prog pol1 36 [.ms (H.length+1) 5 g.ins.length 0 g.ins.length,.sl true [I 0]] (H++[.row 3 [prgAV g] 0,.row 5 (g.ins.map insAV) 0]) =
    some (.sl false ((stateL g.ins [0]).map NV),H++[.row 3 [prgAV g] 0,.row 5 (g.ins.map insAV) g.ins.length]):=by
   have hrow:getRow (H++[.row 3 [prgAV g] 0,.row 5 (g.ins.map insAV) 0]) (H.length+1)=some (5,g.ins.map insAV,0):=by unfold getRow;rw[gg]
   have hz:=fz_row (tot:=g.ins.length) hrow (by simp) (plain_ins g.ins)
   have hm:mark (H++[.row 3 [prgAV g] 0,.row 5 (g.ins.map insAV) 0]) (H.length+1) g.ins.length=H++[.row 3 [prgAV g] 0,.row 5 (g.ins.map insAV) g.ins.length]:=by
    unfold mark
    rw[hrow]
    simp only[ss,Nat.zero_max,Nat.max_eq_right (Nat.zero_le _)]
   rw[hm]at hz
   rw[call_frz2 (l:=[.sl false (g.ins.map insAV),.sl false [I 0]]) rfl ?_ (by simp[AV.plainL,AV.plain,plain_ins])]
   ·exact hc30 _
   ·have h1:pol1.byref 36 0=false:=rfl
    have h2:pol1.byref 36 (0+1)=false:=rfl
    simp only[frzArgs,h1,h2,Bool.false_eq_true,if_false,hz,fz_slp (l:=[I 0]) rfl]
  have hfrz:∀(n:Nat) (t:Tm),frzB ⟨n,t,H++[.row 3 [prgAV g] 0,.row 5 (g.ins.map insAV) g.ins.length]++[.mp .str []]++[.row 6 [.agg [.ms (H.length+1) 5 g.ins.length 0 g.ins.length,.sl false ((stateL g.ins [0]).map NV),I size,.mpr (H.length+2),.int .i64 0,.int .i64 0]] 0]⟩ (H.length+2+1) =
    ⟨n,t,H++[.row 3 [prgAV g] 0,.row 5 (g.ins.map insAV) g.ins.length,.mp .str [],.row 6 [dfaAV g.ins (stateL g.ins [0]) size (H.length+2) ⟨[],0,0⟩] 0]⟩:=by
   intro n t
   simp only[List.append_assoc,List.cons_append,List.nil_append]
   generalize hHH:H++[.row 3 [prgAV g] 0,.row 5 (g.ins.map insAV) g.ins.length,.mp .str [],.row 6 [.agg [.ms (H.length+1) 5 g.ins.length 0 g.ins.length,.sl false ((stateL g.ins [0]).map NV),I size,.mpr (H.length+2),.int .i64 0,.int .i64 0]] 0]=HH
   have r1:getRow HH (H.length+1)=some (5,g.ins.map insAV,g.ins.length):=by
    unfold getRow;rw[← hHH,List.getElem?_append_right (by omega)];simp
   have r3:getRow HH (H.length+2+1)=some (6,[.agg [.ms (H.length+1) 5 g.ins.length 0 g.ins.length,.sl false ((stateL g.ins [0]).map NV),I size,.mpr (H.length+2),.int .i64 0,.int .i64 0]],0):=by
    unfold getRow;rw[← hHH,List.getElem?_append_right (by omega)];simp[show H.length+2+1 - H.length=3 by omega]
   have hm:mark HH (H.length+1) g.ins.length=HH:=by
    unfold mark
    rw[r1]
    simp only[Nat.max_self]
    rw[← hHH,List.set_append_right _ _ (by omega)];simp
   have hz:=fzA_row (n:=5) (tot:=g.ins.length) r1 (by simp) (plain_ins g.ins)
   rw[hm]at hz
   have hp:=fzL_plain (fzJ 6) ((stateL g.ins [0]).map NV) HH (plain_nv _)
   have hfz:fzs [.agg [.ms (H.length+1) 5 g.ins.length 0 g.ins.length,.sl false ((stateL g.ins [0]).map NV),I size,.mpr (H.length+2),.int .i64 0,.int .i64 0]] HH=some ([dfaAV g.ins (stateL g.ins [0]) size (H.length+2) ⟨[],0,0⟩],HH):=by
    simp only[fzs,fzL,fzA_agg,hz,fzA_sl,hp,fzA_int]
    rfl
   unfold frzB
   simp only[r3,hfz,AV.beqL_refl,if_true]
   rw[← hHH,List.set_append_right _ _ (by omega)]
   simp[show H.length+2+1 - H.length=3 by omega]
  simp +contextual (disch:=omega) only[Tryz.f18,dd18,go_sem,↓reduceIte,List.reduceReplicate,Nat.reduceAdd,Nat.reduceSub,reduceCtorEq,Nat.reduceLeDiff,Nat.reduceMul,Nat.reduceLT,Nat.reduceEqDiff,Int.reduceBNe,Int.reduceBEq,Int.reduceEq,Int.reduceLT,Int.reduceLE,Int.reduceGT,Int.reduceGE,mu18,Nat.reduceBEq,↓wrap_up,↓wrap_down,↓wrap_pred,↓wrap_sub_nat,Int.reduceToNat,gg,ss,hcl30,hfrz]
  refine⟨_,⟨_,H.length+2,_,⟨fun _=>none,fun _=>none⟩,rfl,?_,?_⟩,rp _ _ _⟩
  ·refine⟨?_,⟨fun i hi=>by simp;omega,⟨by omega,by omega⟩,fun i x h=>(by cases h),fun i x h=>(by cases h)⟩,⟨[],?_,rfl,fun i l h=>by simp at h⟩,fun t l f h=>(by cases h),fun q l h=>(by cases h),⟨by simp,by simp,by simp,hs.1,hs.2⟩⟩
   ·rw[List.getElem?_append_right (by omega)];simp[show H.length+2+1 - H.length=3 by omega]
   ·rw[List.getElem?_append_right (by omega)];simp
  ·exact⟨by simp,fun i hi=>List.getElem?_append_left hi⟩
 ·rfl
end
end Go.Ev
