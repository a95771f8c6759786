/- Regions. -/
import Derived.Test.YtjgmfjneajcbmaaGreatC04
import Derived.LoopN
import Derived.Scope
set_option linter.unusedVariables false
set_option linter.unusedSimpArgs false
namespace Go.Ev
open Go.RowKit
variable {P:Program} {cf:CF} {mu:List Nat} {ops:Array Oper} {B0:Nat} {w0:Base} {w:World} {I0:Imm} {L0:List Lay}
def Free (ops:Array Oper) (x i:Nat×Option FP):Prop:=
 (∀ p q,ops[x.1]?=some p→ops[i.1]?=some q→p.apart ops q=true)∧apartO x.2 i.2=true
theorem Run.front {i:Nat×Option FP} {B:List (Nat×Option FP)}:∀(A:List (Nat×Option FP)) {s s':St},Run P cf mu ops (A++i::B) s s'→(∀ x∈A,Free ops x i)→Run P cf mu ops (i::(A++B)) s s'
 | [],s,s',h,_=>h
 | x::A,s,s',h,hf=>by
   cases h with
   | cons ho hw h1 hfp hr=>
     have h2:=Run.front A hr (fun y hy=>hf y (List.mem_cons_of_mem _ hy))
     have h3:=hf _ (List.mem_cons_self ..)
     exact(Run.cons ho hw h1 hfp h2).swap h3.1 h3.2
theorem run_of_D:∀(l:List Oper) (i:Nat) {s s':St} {fl:List (Nat×FP)},(∀ j,l[j]?=ops[i+j]?)→evOpsD P cf mu ops.toList i l s=some (fl,s') →
  ∃ rem,Run P cf mu ops rem s s'∧rem.map (·.1)=List.range' i l.length∧fl=rem.filterMap (fun p=>p.2.map fun q=>(p.1,q))
 | [],i,s,s',fl,_,h=>by
   simp[evOpsD]at h;obtain⟨rfl,rfl⟩:=h
   exact⟨[],.nil s,rfl,rfl⟩
 | o::l,i,s,s',fl,hl,h=>by
   simp only[evOpsD]at h
   split at h
   ·rename_i b hw
    split at h
    ·rename_i s1 h1
     split at h
     ·rename_i fl' s2 h2
      simp only[Option.some.injEq,Prod.mk.injEq]at h
      obtain⟨e1,rfl⟩:=h
      have ho:ops[i]?=some o:=by have:=hl 0;simpa using this.symm
      obtain⟨rem,r1,r2,r3⟩:=run_of_D l (i+1) (fun j=>by have:=hl (j+1);simpa [Nat.add_assoc,Nat.add_comm 1 j] using this) h2
      refine⟨(i,fpOf mu s.ev o b s.h s1.h)::rem,.cons ho hw h1 rfl r1,by simp[r2,List.range'_succ],?_⟩
      rw[← e1]
      unfold fpOf
      cases hq:(if b=true then footprint mu s.ev o s.h s1.h else none) with
      | none=>simp[r3]
      | some p=>simp[r3]
     ·simp at h
    ·simp at h
   ·simp at h
theorem pairs_of:∀(rem:List (Nat×Option FP)),pairsOk ops (rem.filterMap (fun p=>p.2.map fun q=>(p.1,q)))=true →
  rem.Pairwise (fun x i=>dEdgeT ops ops.size i.1 x.1=true∨apartO x.2 i.2=true)
 | [],_=>.nil
 | (i,f)::rem,h=>by
   cases f with
   | none=>
     simp only[List.filterMap_cons,Option.map_none]at h
     refine .cons (fun y _=>.inr rfl) (pairs_of rem h)
   | some p=>
     simp only[List.filterMap_cons,Option.map_some,pairsOk,Bool.and_eq_true]at h
     refine .cons (fun y hy=>?_) (pairs_of rem h.2)
     obtain⟨j,g⟩:=y
     cases g with
     | none=>exact .inr rfl
     | some q=>
       have:=List.all_eq_true.1 h.1 (j,q) (List.mem_filterMap.2 ⟨(j,some q),hy,rfl⟩)
       simp only[Bool.or_eq_true]at this
       exact this
theorem drawOk_spec (h:drawOk ops=true) :
  (∀ i o e,ops[i]?=some o→e∈o.after→Region.binds .any e=true→e.on < i) ∧
  (∀ i x,i < ops.size→x < i→dEdge ops i x=true∨∀ p q,ops[x]?=some p→ops[i]?=some q→p.apart ops q=true):=by
 simp only[drawOk,Bool.and_eq_true]at h
 obtain⟨h1,h2⟩:=h
 constructor
 ·intro i o e ho he hb
  have hi:i < ops.size:=(Array.getElem?_eq_some_iff.1 ho).1
  have:=List.all_eq_true.1 h1 i (List.mem_range.2 hi)
  simp only[ho]at this
  have:=List.all_eq_true.1 this e (by simpa using he)
  simpa [hb] using this
 ·intro i x hi hx
  have:=List.all_eq_true.1 h2 i (List.mem_range.2 hi)
  have:=List.all_eq_true.1 this x (List.mem_range.2 hx)
  simp only[Bool.or_eq_true]at this
  rcases this with h|h
  ·exact .inl h
  ·refine .inr fun p q hp hq=>?_
   simp only[hp,hq]at h
   exact h
theorem apart_comm {p q:Oper} (h:p.apart ops q=true):q.apart ops p=true:=by
 obtain⟨h1,h2,h3⟩:=Oper.apart_spec h
 unfold Oper.apart
 cases hq:q.dst with
 | none=>
   cases hp:p.dst with
   | none=>rfl
   | some d=>
     have a:=h1 d hp
     simp[a]
 | some e=>
   have b:=h3 e hq
   cases hp:p.dst with
   | none=>simp[b]
   | some d=>
     have a:=h1 d hp
     have c:d≠e:=fun e'=>h2 d hp (by rw[hq,e'])
     simp[a,b,c]
theorem dEdgeT_done (hd:drawOk ops=true) {R:List Nat} (hR:∀ j∈R,j < ops.size) (hcl:∀ j y,j < ops.size→j ∉ R→dEdge ops j y=true→y ∉ R) :
  ∀(n i x:Nat),(∀ y,dEdge ops i y=true→y ∉ R)→dEdgeT ops n i x=true→x ∉ R
 | 0,i,x,_,h=>by simp[dEdgeT]at h
 | n+1,i,x,hi,h=>by
   simp only[dEdgeT,Bool.or_eq_true,List.any_eq_true,List.mem_range,Bool.and_eq_true]at h
   rcases h with h|⟨y,hy,h1,h2⟩
   ·exact hi x h
   ·exact dEdgeT_done hd hR hcl n y x (fun z hz=>hcl y z hy (hi y h1) hz) h2
theorem wpAny_of_runT (hcf:CfOk P cf) (hd:drawOk ops=true) {Q:Exit→Act→World→Prop} {s':St} (hQ:∀ a w,StOk B0 w0 I0 L0 s' a w→Q .normal a w) :
  ∀(fuel:Nat) (rem:List (Nat×Option FP)) (listed:Array Bool) (s:St) (a:Act) (w:World),Run P cf mu ops rem s s'→StOk B0 w0 I0 L0 s a w →
   rem.Pairwise (fun x i=>x.1≠i.1∧dEdge ops x.1 i.1=false)→(∀ j,listed.getD j true=false↔j∈rem.map (·.1))→listed.size=ops.size→rem.length≤fuel →
   (∀ j y,j < ops.size→j ∉ rem.map (·.1)→dEdge ops j y=true→y ∉ rem.map (·.1)) →
   rem.Pairwise (fun x i=>dEdgeT ops ops.size i.1 x.1=true∨apartO x.2 i.2=true)→wpAny P .any ops Q fuel listed a w:=by
 obtain⟨hd1,hd2⟩:=drawOk_spec hd
 intro fuel
 induction fuel with
 | zero=>
   intro rem listed s a w hr hs hsort hl hsz hf hcl hp
   have:rem=[]:=List.length_eq_zero_iff.1 (by omega)
   subst this
   cases hr
   refine⟨?_,hQ a w hs⟩
   cases hrr:Region.ready .any ops listed with
   | nil=>rfl
   | cons x xs=>
     have hx:x∈Region.ready .any ops listed:=by rw[hrr];exact List.mem_cons_self ..
     rw[mem_ready]at hx
     have:=(hl x).1 hx.1
     simp at this
 | succ fuel ih=>
   intro rem listed s a w hr hs hsort hl hsz hf hcl hp
   have hlt:∀ j,j∈rem.map (·.1)→j < ops.size:=by
    intro j hj
    have:=(hl j).2 hj
    rcases Nat.lt_or_ge j listed.size with g|g
    ·omega
    ·simp[Array.getElem?_eq_none g]at this
   constructor
   ·intro hnil
    cases rem with
    | nil=>cases hr;exact hQ a w hs
    | cons x rem=>
      exfalso
      have hxm:x.1∈(x::rem).map (·.1):=by simp
      have hx:=hlt x.1 hxm
      have:x.1∈Region.ready .any ops listed:=by
       rw[mem_ready]
       refine⟨(hl x.1).2 hxm,ops[x.1],by simp[hx],fun e he hb=>?_⟩
       have h1:=hd1 x.1 _ e (Array.getElem?_eq_getElem hx) he hb
       have hde:dEdge ops x.1 e.on=true:=by
        simp only[dEdge,Array.getElem?_eq_getElem hx]
        exact List.any_eq_true.2 ⟨e,by simpa using he,by simp[hb]⟩
       have h2:e.on ∉ (x::rem).map (·.1):=by
        intro hm
        obtain⟨y,hy,hye⟩:=List.mem_map.1 hm
        rcases List.mem_cons.1 hy with g|g
        ·subst g;omega
        ·have:=((List.pairwise_cons.1 hsort).1 y g).2
         rw[hye,hde]at this
         cases this
       have h3:¬ listed.getD e.on true=false:=fun h=>h2 ((hl e.on).1 h)
       have h4:e.on < listed.size:=by omega
       simp[Array.getD_eq_getD_getElem?,h4]at h3 ⊢
       exact h3
      rw[hnil]at this
      simp at this
   ·intro i hi
    have hi':=mem_ready.1 hi
    have him:=(hl i).1 hi'.1
    have hready:∀ y,dEdge ops i y=true→y ∉ rem.map (·.1):=by
     intro y hde hm
     obtain⟨_,o,ho,hall⟩:=hi'
     simp only[dEdge,ho]at hde
     obtain⟨e,he,hbe⟩:=List.any_eq_true.1 hde
     simp only[Bool.and_eq_true,beq_iff_eq]at hbe
     have h1:=hall e (by simpa using he) hbe.1
     rw[hbe.2]at h1
     have h2:=(hl y).2 hm
     have h3:y < listed.size:=by
      have:=hlt y hm
      omega
     simp[Array.getD_eq_getD_getElem?,h3]at h1 h2
     rw[h1]at h2
     cases h2
    obtain⟨⟨i',f⟩,hmem,hie⟩:=List.mem_map.1 him
    simp at hie;subst hie
    obtain⟨A,B,rfl⟩:=List.append_of_mem hmem
    have hilt:=hlt i' him
    have hsort':=List.pairwise_append.1 hsort
    have hp':=List.pairwise_append.1 hp
    have hfree:∀ x∈A,Free ops x (i',f):=by
     intro x hx
     have hxm:x.1∈(A++(i',f)::B).map (·.1):=List.mem_map.2 ⟨x,List.mem_append_left _ hx,rfl⟩
     have hxlt:=hlt x.1 hxm
     obtain⟨hne,hxd⟩:=hsort'.2.2 x hx (i',f) (List.mem_cons_self ..)
     have hne:x.1≠i':=hne
     have h1:dEdge ops i' x.1=false:=by
      cases hde:dEdge ops i' x.1 with
      | false=>rfl
      | true=>exact absurd hxm (hready _ hde)
     refine⟨?_,?_⟩
     ·rcases Nat.lt_or_gt_of_ne hne with g|g
      ·rcases hd2 i' x.1 hilt g with g|g
       ·rw[h1]at g;cases g
       ·exact g
      ·rcases hd2 x.1 i' hxlt g with g|g
       ·rw[hxd]at g;cases g
       ·exact fun p q hp hq=>apart_comm (g q p hq hp)
     ·rcases hp'.2.2 x hx (i',f) (List.mem_cons_self ..) with g|g
      ·exact absurd hxm (dEdgeT_done hd hlt hcl _ _ _ hready g)
      ·exact g
    have hr2:=Run.front A hr hfree
    cases hr2 with
    | @cons _ o b _ _ s1 _ _ ho hw h1 hfp hrest=>
      have hnot:i' ∉ (A++B).map (·.1):=by
       intro hm
       obtain⟨y,hy,hye⟩:=List.mem_map.1 hm
       rcases List.mem_append.1 hy with g|g
       ·exact(hsort'.2.2 y g (i',f) (List.mem_cons_self ..)).1 hye
       ·exact((List.pairwise_cons.1 hsort'.2.1).1 y g).1 hye.symm
      have hmem2:∀ j,j∈(A++(i',f)::B).map (·.1)↔j=i'∨j∈(A++B).map (·.1):=by
       intro j
       simp only[List.map_append,List.map_cons,List.mem_append,List.mem_cons]
       constructor
       ·rintro(g|g|g)
        ·exact .inr (.inl g)
        ·exact .inl g
        ·exact .inr (.inr g)
       ·rintro(g|g|g)
        ·exact .inr (.inl g)
        ·exact .inl g
        ·exact .inr (.inr g)
      have key:=evOne_sound (P:=P) (Q:=Q) (K:=wpAny P .any ops Q fuel (listed.setIfInBounds i' true)) hcf h1 hs (fun a' w' hs'=>by
       refine ih (A++B) _ s1 a' w' hrest hs' ?_ ?_ (by simp[hsz]) (by simp at hf ⊢;omega) ?_ ?_
       ·exact List.pairwise_append.2 ⟨hsort'.1,(List.pairwise_cons.1 hsort'.2.1).2,fun x hx y hy=>hsort'.2.2 x hx y (List.mem_cons_of_mem _ hy)⟩
       ·intro j
        by_cases e:i' = j
        ·subst e
         have:(listed.setIfInBounds i' true).getD i' true=true:=by
          have:i' < listed.size:=by omega
          simp[Array.getD_eq_getD_getElem?,this]
         rw[this]
         exact⟨fun h=>(by cases h),fun h=>absurd h hnot⟩
        ·rw[getD_set_ne true e,hl j,hmem2 j]
         exact⟨fun g=>g.elim (fun g=>absurd g.symm e) id,.inr⟩
       ·intro j y hj hjn hde
        by_cases e:j=i'
        ·subst e
         exact fun hm=>hready y hde ((hmem2 y).2 (.inr hm))
        ·exact fun hm=>hcl j y hj (fun g=>((hmem2 j).1 g).elim e hjn) hde ((hmem2 y).2 (.inr hm))
       ·exact List.pairwise_append.2 ⟨hp'.1,(List.pairwise_cons.1 hp'.2.1).2,fun x hx y hy=>hp'.2.2 x hx y (List.mem_cons_of_mem _ hy)⟩)
      unfold wpOp
      simp only[ho]
      split
      ·rename_i hwn;rw[if_pos hwn]at key;exact .inl key
      ·rename_i hwn;rw[if_neg hwn]at key;exact key
theorem wpAny_of_two (hcf:CfOk P cf) (hd:drawOk ops=true) {Q:Exit→Act→World→Prop} {s':St} (hQ:∀ a w,StOk B0 w0 I0 L0 s' a w→Q .normal a w) (p q:Nat) (hpq:p≠q) :
  ∀(fuel:Nat) (rem rem2:List (Nat×Option FP)) (listed:Array Bool) (s:St) (a:Act) (w:World),Run P cf mu ops rem s s'→Run P cf mu ops rem2 s s'→StOk B0 w0 I0 L0 s a w →
   rem.Pairwise (fun x i=>x.1≠i.1∧dEdge ops x.1 i.1=false)→rem2.Pairwise (fun x i=>x.1≠i.1∧dEdge ops x.1 i.1=false) →
   (∀ j,listed.getD j true=false↔j∈rem.map (·.1))→(∀ j,j∈rem2.map (·.1)↔j∈rem.map (·.1))→listed.size=ops.size→rem.length≤fuel→rem2.length≤fuel →
   (∀ j y,j < ops.size→j ∉ rem.map (·.1)→dEdge ops j y=true→y ∉ rem.map (·.1))→p∈rem.map (·.1)→q∈rem.map (·.1) →
   rem.Pairwise (fun x i=>¬ (x.1=q∧i.1=p))→rem2.Pairwise (fun x i=>¬ (x.1=p∧i.1=q)) →
   rem.Pairwise (fun x i=>dEdgeT ops ops.size i.1 x.1=true∨apartO x.2 i.2=true∨(x.1=p∧i.1=q))→rem2.Pairwise (fun x i=>dEdgeT ops ops.size i.1 x.1=true∨apartO x.2 i.2=true∨(x.1=q∧i.1=p)) →
   wpAny P .any ops Q fuel listed a w:=by
 obtain⟨hd1,hd2⟩:=drawOk_spec hd
 intro fuel
 induction fuel with
 | zero=>
   intro rem rem2 listed s a w hr hr2 hs hsort hsort2 hl hl2 hsz hf hf2 hcl hpm hqm ho ho2 hp hp2
   have:rem=[]:=List.length_eq_zero_iff.1 (by omega)
   subst this
   simp at hpm
 | succ fuel ih=>
   intro rem rem2 listed s a w hr hr2 hs hsort hsort2 hl hl2 hsz hf hf2 hcl hpm hqm ho ho2 hp hp2
   have hlt:∀ j,j∈rem.map (·.1)→j < ops.size:=by
    intro j hj
    have:=(hl j).2 hj
    rcases Nat.lt_or_ge j listed.size with g|g
    ·omega
    ·simp[Array.getElem?_eq_none g]at this
   have hlt2:∀ j,j∈rem2.map (·.1)→j < ops.size:=fun j hj=>hlt j ((hl2 j).1 hj)
   have hcl2:∀ j y,j < ops.size→j ∉ rem2.map (·.1)→dEdge ops j y=true→y ∉ rem2.map (·.1):=fun j y hj hjn hde hm=>hcl j y hj (fun g=>hjn ((hl2 j).2 g)) hde ((hl2 y).1 hm)
   constructor
   ·intro hnil
    cases rem with
    | nil=>simp at hpm
    | cons x rem=>
      exfalso
      have hxm:x.1∈(x::rem).map (·.1):=by simp
      have hx:=hlt x.1 hxm
      have:x.1∈Region.ready .any ops listed:=by
       rw[mem_ready]
       refine⟨(hl x.1).2 hxm,ops[x.1],by simp[hx],fun e he hb=>?_⟩
       have h1:=hd1 x.1 _ e (Array.getElem?_eq_getElem hx) he hb
       have hde:dEdge ops x.1 e.on=true:=by
        simp only[dEdge,Array.getElem?_eq_getElem hx]
        exact List.any_eq_true.2 ⟨e,by simpa using he,by simp[hb]⟩
       have h2:e.on ∉ (x::rem).map (·.1):=by
        intro hm
        obtain⟨y,hy,hye⟩:=List.mem_map.1 hm
        rcases List.mem_cons.1 hy with g|g
        ·subst g;omega
        ·have:=((List.pairwise_cons.1 hsort).1 y g).2
         rw[hye,hde]at this
         cases this
       have h3:¬ listed.getD e.on true=false:=fun h=>h2 ((hl e.on).1 h)
       have h4:e.on < listed.size:=by omega
       simp[Array.getD_eq_getD_getElem?,h4]at h3 ⊢
       exact h3
      rw[hnil]at this
      simp at this
   ·intro i hi
    have hi':=mem_ready.1 hi
    have him:=(hl i).1 hi'.1
    have hready:∀ y,dEdge ops i y=true→y ∉ rem.map (·.1):=by
     intro y hde hm
     obtain⟨_,o,ho,hall⟩:=hi'
     simp only[dEdge,ho]at hde
     obtain⟨e,he,hbe⟩:=List.any_eq_true.1 hde
     simp only[Bool.and_eq_true,beq_iff_eq]at hbe
     have h1:=hall e (by simpa using he) hbe.1
     rw[hbe.2]at h1
     have h2:=(hl y).2 hm
     have h3:y < listed.size:=by
      have:=hlt y hm
      omega
     simp[Array.getD_eq_getD_getElem?,h3]at h1 h2
     rw[h1]at h2
     cases h2
    have hready2:∀ y,dEdge ops i y=true→y ∉ rem2.map (·.1):=fun y h g=>hready y h ((hl2 y).1 g)
    have front:∀(R:List (Nat×Option FP)) (p q:Nat),Run P cf mu ops R s s'→(∀ j∈R.map (·.1),j < ops.size)→(∀ j y,j < ops.size→j ∉ R.map (·.1)→dEdge ops j y=true→y ∉ R.map (·.1))→i∈R.map (·.1) →
      (∀ y,dEdge ops i y=true→y ∉ R.map (·.1))→R.Pairwise (fun x i=>x.1≠i.1∧dEdge ops x.1 i.1=false) →
      R.Pairwise (fun x i=>dEdgeT ops ops.size i.1 x.1=true∨apartO x.2 i.2=true∨(x.1=p∧i.1=q))→(i=q→p ∉ R.map (·.1)∨R.Pairwise (fun x i=>¬ (x.1=p∧i.1=q))) →
      ∃ A B f,R=A++(i,f)::B∧Run P cf mu ops ((i,f)::(A++B)) s s':=by
     intro R p q hr hlt hcl him hready hsort hp hno
     obtain⟨⟨i',f⟩,hmem,hie⟩:=List.mem_map.1 him
     simp at hie;subst hie
     obtain⟨A,B,rfl⟩:=List.append_of_mem hmem
     have hilt:=hlt i' him
     have hsort':=List.pairwise_append.1 hsort
     have hp':=List.pairwise_append.1 hp
     refine⟨A,B,f,rfl,Run.front A hr fun x hx=>?_⟩
     have hxm:x.1∈(A++(i',f)::B).map (·.1):=List.mem_map.2 ⟨x,List.mem_append_left _ hx,rfl⟩
     have hxlt:=hlt x.1 hxm
     obtain⟨hne,hxd⟩:=hsort'.2.2 x hx (i',f) (List.mem_cons_self ..)
     have hne:x.1≠i':=hne
     have h1:dEdge ops i' x.1=false:=by
      cases hde:dEdge ops i' x.1 with
      | false=>rfl
      | true=>exact absurd hxm (hready _ hde)
     refine⟨?_,?_⟩
     ·rcases Nat.lt_or_gt_of_ne hne with g|g
      ·rcases hd2 i' x.1 hilt g with g|g
       ·rw[h1]at g;cases g
       ·exact g
      ·rcases hd2 x.1 i' hxlt g with g|g
       ·rw[hxd]at g;cases g
       ·exact fun p q hp hq=>apart_comm (g q p hq hp)
     ·rcases hp'.2.2 x hx (i',f) (List.mem_cons_self ..) with g|g|g
      ·exact absurd hxm (dEdgeT_done hd hlt hcl _ _ _ hready g)
      ·exact g
      ·obtain⟨g1,g2⟩:=g
       rcases hno g2 with h|h
       ·exact absurd (g1 ▸ hxm) h
       ·exact absurd ⟨g1,g2⟩ ((List.pairwise_append.1 h).2.2 x hx (i',f) (List.mem_cons_self ..))
    have memAB:∀(A B:List (Nat×Option FP)) (f:Option FP) (j:Nat),j∈(A++(i,f)::B).map (·.1)↔j=i∨j∈(A++B).map (·.1):=by
     intro A B f j
     simp only[List.map_append,List.map_cons,List.mem_append,List.mem_cons]
     constructor
     ·rintro(g|g|g)
      ·exact .inr (.inl g)
      ·exact .inl g
      ·exact .inr (.inr g)
     ·rintro(g|g|g)
      ·exact .inr (.inl g)
      ·exact .inl g
      ·exact .inr (.inr g)
    have dropP:∀ {r:Nat×Option FP→Nat×Option FP→Prop} (A B:List (Nat×Option FP)) (f:Option FP),(A++(i,f)::B).Pairwise r→(A++B).Pairwise r:=by
     intro r A B f h
     have h':=List.pairwise_append.1 h
     exact List.pairwise_append.2 ⟨h'.1,(List.pairwise_cons.1 h'.2.1).2,fun x hx y hy=>h'.2.2 x hx y (List.mem_cons_of_mem _ hy)⟩
    have notAB:∀(A B:List (Nat×Option FP)) (f:Option FP),(A++(i,f)::B).Pairwise (fun x i=>x.1≠i.1∧dEdge ops x.1 i.1=false)→i ∉ (A++B).map (·.1):=by
     intro A B f h hm
     have h':=List.pairwise_append.1 h
     obtain⟨y,hy,hye⟩:=List.mem_map.1 hm
     rcases List.mem_append.1 hy with g|g
     ·exact(h'.2.2 y g (i,f) (List.mem_cons_self ..)).1 hye
     ·exact((List.pairwise_cons.1 h'.2.1).1 y g).1 hye.symm
    have ilt:=hlt i him
    have listedAB:∀(A B:List (Nat×Option FP)) (f:Option FP),(∀ j,listed.getD j true=false↔j∈(A++(i,f)::B).map (·.1))→i ∉ (A++B).map (·.1)→∀ j,(listed.setIfInBounds i true).getD j true=false↔j∈(A++B).map (·.1):=by
     intro A B f hl hnot j
     by_cases e:i=j
     ·subst e
      have:(listed.setIfInBounds i true).getD i true=true:=by
       have:i < listed.size:=by omega
       simp[Array.getD_eq_getD_getElem?,this]
      rw[this]
      exact⟨fun h=>(by cases h),fun h=>absurd h hnot⟩
     ·rw[getD_set_ne true e,hl j,memAB A B f j]
      exact⟨fun g=>g.elim (fun g=>absurd g.symm e) id,.inr⟩
    have clAB:∀(A B:List (Nat×Option FP)) (f:Option FP),(∀ y,dEdge ops i y=true→y ∉ (A++(i,f)::B).map (·.1))→(∀ j y,j < ops.size→j ∉ (A++(i,f)::B).map (·.1)→dEdge ops j y=true→y ∉ (A++(i,f)::B).map (·.1)) →
      ∀ j y,j < ops.size→j ∉ (A++B).map (·.1)→dEdge ops j y=true→y ∉ (A++B).map (·.1):=by
     intro A B f hready hcl j y hj hjn hde
     by_cases e:j=i
     ·subst e
      exact fun hm=>hready y hde ((memAB A B f y).2 (.inr hm))
     ·exact fun hm=>hcl j y hj (fun g=>((memAB A B f j).1 g).elim e hjn) hde ((memAB A B f y).2 (.inr hm))
    have alone:∀(R:List (Nat×Option FP)) (p q:Nat),Run P cf mu ops R s s'→(∀ j,listed.getD j true=false↔j∈R.map (·.1))→R.length≤fuel+1→(∀ j y,j < ops.size→j ∉ R.map (·.1)→dEdge ops j y=true→y ∉ R.map (·.1)) →
      (∀ y,dEdge ops i y=true→y ∉ R.map (·.1))→R.Pairwise (fun x i=>x.1≠i.1∧dEdge ops x.1 i.1=false) →
      R.Pairwise (fun x i=>dEdgeT ops ops.size i.1 x.1=true∨apartO x.2 i.2=true∨(x.1=p∧i.1=q))→i=p→p≠q →
      wpOp P ops Q i (wpAny P .any ops Q fuel (listed.setIfInBounds i true)) a w:=by
     intro R p q hr hl hf hcl hready hsort hp hip hpq
     have him:=(hl i).1 hi'.1
     have hlt:∀ j,j∈R.map (·.1)→j < ops.size:=by
      intro j hj
      have:=(hl j).2 hj
      rcases Nat.lt_or_ge j listed.size with g|g
      ·omega
      ·simp[Array.getElem?_eq_none g]at this
     obtain⟨A,B,f,rfl,hr2⟩:=front R p q hr hlt hcl him hready hsort hp (fun h=>absurd (hip.symm.trans h) hpq)
     have hnot:=notAB A B f hsort
     cases hr2 with
     | @cons _ o b _ _ s1 _ _ ho hw h1 hfp hrest=>
       have key:=evOne_sound (P:=P) (Q:=Q) (K:=wpAny P .any ops Q fuel (listed.setIfInBounds i true)) hcf h1 hs (fun a' w' hs'=>by
        refine wpAny_of_runT hcf hd hQ fuel (A++B) _ s1 a' w' hrest hs' (dropP A B f hsort) (listedAB A B f hl hnot) (by simp[hsz]) (by simp at hf ⊢;omega) (clAB A B f hready hcl) ?_
        refine(dropP A B f hp).imp_of_mem (fun {x y} hx hy h=>?_)
        rcases h with h|h|h
        ·exact .inl h
        ·exact .inr h
        ·exact absurd (List.mem_map.2 ⟨x,hx,h.1.trans hip.symm⟩) hnot)
       unfold wpOp
       simp only[ho]
       split
       ·rename_i hwn;rw[if_pos hwn]at key;exact .inl key
       ·rename_i hwn;rw[if_neg hwn]at key;exact key
    by_cases hip:i=p
    ·exact alone rem p q hr hl hf hcl hready hsort hp hip hpq
    by_cases hiq:i=q
    ·exact alone rem2 q p hr2 (fun j=>(hl j).trans (hl2 j).symm) hf2 hcl2 hready2 hsort2 hp2 hiq (Ne.symm hpq)
    obtain⟨A,B,f,rfl,hra⟩:=front rem p q hr hlt hcl him hready hsort hp (fun h=>absurd h hiq)
    obtain⟨A2,B2,f2,rfl,hrb⟩:=front rem2 q p hr2 hlt2 hcl2 ((hl2 i).2 him) hready2 hsort2 hp2 (fun h=>absurd h hip)
    have hnot:=notAB A B f hsort
    have hnot2:=notAB A2 B2 f2 hsort2
    cases hra with
    | @cons _ o b _ _ s1 _ _ ho1 hw h1 hfp hrest=>
      cases hrb with
      | @cons _ o' b' _ _ s1' _ _ ho1' hw' h1' hfp' hrest'=>
        rw[ho1]at ho1';obtain rfl:=Option.some.inj ho1'
        rw[h1]at h1';obtain rfl:=Option.some.inj h1'
        have key:=evOne_sound (P:=P) (Q:=Q) (K:=wpAny P .any ops Q fuel (listed.setIfInBounds i true)) hcf h1 hs (fun a' w' hs'=>by
         refine ih (A++B) (A2++B2) _ s1 a' w' hrest hrest' hs' (dropP A B f hsort) (dropP A2 B2 f2 hsort2) (listedAB A B f hl hnot) (fun j=>?_) (by simp[hsz]) (by simp at hf ⊢;omega) (by simp at hf2 ⊢;omega) (clAB A B f hready hcl)
          (((memAB A B f p).1 hpm).resolve_left (Ne.symm hip)) (((memAB A B f q).1 hqm).resolve_left (Ne.symm hiq)) (dropP A B f ho) (dropP A2 B2 f2 ho2) (dropP A B f hp) (dropP A2 B2 f2 hp2)
         have h:=hl2 j
         rw[memAB A2 B2 f2 j,memAB A B f j]at h
         constructor
         ·intro g
          exact(h.1 (.inr g)).resolve_left (fun e=>hnot2 (e ▸ g))
         ·intro g
          exact(h.2 (.inr g)).resolve_left (fun e=>hnot (e ▸ g)))
        unfold wpOp
        simp only[ho1]
        split
        ·rename_i hwn;rw[if_pos hwn]at key;exact .inl key
        ·rename_i hwn;rw[if_neg hwn]at key;exact key
theorem run_of_I:∀(l:List Nat) {s s':St} {fl:List (Nat×FP)},evOpsI P cf mu ops.toList l s=some (fl,s') →
  ∃ rem,Run P cf mu ops rem s s'∧rem.map (·.1)=l∧fl=rem.filterMap (fun p=>p.2.map fun q=>(p.1,q))
 | [],s,s',fl,h=>by
   simp[evOpsI]at h;obtain⟨rfl,rfl⟩:=h
   exact⟨[],.nil s,rfl,rfl⟩
 | i::l,s,s',fl,h=>by
   simp only[evOpsI]at h
   split at h
   ·simp at h
   ·rename_i o ho
    split at h
    ·rename_i b hw
     split at h
     ·rename_i s1 h1
      split at h
      ·rename_i fl' s2 h2
       simp only[Option.some.injEq,Prod.mk.injEq]at h
       obtain⟨e1,rfl⟩:=h
       obtain⟨rem,r1,r2,r3⟩:=run_of_I l h2
       refine⟨(i,fpOf mu s.ev o b s.h s1.h)::rem,.cons (by simpa using ho) hw h1 rfl r1,by simp[r2],?_⟩
       rw[← e1]
       unfold fpOf
       cases hq:(if b=true then footprint mu s.ev o s.h s1.h else none) with
       | none=>simp[r3]
       | some p=>simp[r3]
      ·simp at h
     ·simp at h
    ·simp at h
theorem pairs_ofX (p q:Nat):∀(rem:List (Nat×Option FP)),pairsX ops p q (rem.filterMap (fun p=>p.2.map fun q=>(p.1,q)))=true →
  rem.Pairwise (fun x i=>dEdgeT ops ops.size i.1 x.1=true∨apartO x.2 i.2=true∨(x.1=p∧i.1=q))
 | [],_=>.nil
 | (i,f)::rem,h=>by
   cases f with
   | none=>
     simp only[List.filterMap_cons,Option.map_none]at h
     refine .cons (fun y _=>.inr (.inl rfl)) (pairs_ofX p q rem h)
   | some f=>
     simp only[List.filterMap_cons,Option.map_some,pairsX,Bool.and_eq_true]at h
     refine .cons (fun y hy=>?_) (pairs_ofX p q rem h.2)
     obtain⟨j,g⟩:=y
     cases g with
     | none=>exact .inr (.inl rfl)
     | some g=>
       have:=List.all_eq_true.1 h.1 (j,g) (List.mem_filterMap.2 ⟨(j,some g),hy,rfl⟩)
       simp only[Bool.or_eq_true,Bool.and_eq_true,beq_iff_eq]at this
       exact this
theorem ordOk_spec (p q:Nat):∀(l:List Nat),ordOk ops p q l=true→(∀ x∈l,x < ops.size)∧l.Pairwise (fun x i=>(x≠i∧dEdge ops x i=false)∧¬ (x=p∧i=q))
 | [],_=>⟨fun x h=>by simp at h,.nil⟩
 | x::l,h=>by
   simp only[ordOk,Bool.and_eq_true,decide_eq_true_eq,List.all_eq_true,Bool.not_eq_true',beq_eq_false_iff_ne,Bool.and_eq_false_iff]at h
   obtain⟨⟨h1,h2⟩,h3⟩:=h
   obtain⟨g1,g2⟩:=ordOk_spec p q l h3
   refine⟨fun y hy=>?_,.cons (fun y hy=>?_) g2⟩
   ·rcases List.mem_cons.1 hy with e|e
    ·rw[e];exact h1
    ·exact g1 y e
   ·obtain⟨a1,a2,a3⟩:=h2 y hy
    refine⟨⟨a2,a1⟩,fun e=>?_⟩
    rcases a3 with a|a
    ·exact a e.1
    ·exact a e.2
theorem tmEq_eq:∀(t t':Tm),tmEq t t' = true→t=t'
 | [],[],_=>rfl
 | [],_::_,h=>by simp[tmEq]at h
 | _::_,[],h=>by simp[tmEq]at h
 | (k,v)::t,(k',v')::t',h=>by
   simp only[tmEq,Bool.and_eq_true,beq_iff_eq]at h
   rw[h.1,AV.eq_of_beq _ _ h.2.1,tmEq_eq t t' h.2.2]
theorem St.eq_of_beq {s s':St} (h:St.beq s s' = true):s=s':=by
 obtain⟨n,t,hh⟩:=s
 obtain⟨n',t',hh'⟩:=s'
 simp only[St.beq,Bool.and_eq_true,beq_iff_eq]at h
 rw[h.1,tmEq_eq _ _ h.2.1,heapEq_eq _ _ h.2.2]
theorem evRegion_sound (hcf:CfOk P cf) (hm:P.follows .mixedOrders=true) {id:Nat} {alt:Option (Nat×Nat×List Nat)} {draw:Bool} {s s':St} {a:Act} (h:evRegion P cf mu ops alt draw s=some s') (hs:StOk B0 w0 I0 L0 s a w)
  {Q:Exit→Act→World→Prop} (hQ:∀ a w,StOk B0 w0 I0 L0 s' a w→Q .normal a w):(Code.region id ops draw).wp P Q a w:=by
 unfold evRegion at h
 cases draw with
 | false=>
   simp only[Bool.false_eq_true,if_false]at h
   exact wp_region_list (evOps_sound hcf ops.toList h hs hQ)
 | true=>
   simp only[if_true]at h
   have listed0:∀(n:Nat) j,(Array.replicate n false).getD j true=false↔j < n:=by
    intro n j
    by_cases g:j < n
    ·simp[Array.getD_eq_getD_getElem?,g]
    ·simp[Array.getD_eq_getD_getElem?,g]
   split at h
   ·split at h
    ·rename_i fl s1 hD
     split at h
     ·rename_i hc
      simp at h;subst h
      obtain⟨rem,r1,r2,r3⟩:=run_of_D ops.toList 0 (fun j=>by simp) hD
      rw[r3]at hc
      have hp:=pairs_of rem hc.2
      have hlen:rem.length=ops.size:=by
       have:=congrArg List.length r2
       simpa using this
      obtain⟨hd1,hd2⟩:=drawOk_spec hc.1
      have hrm:∀ j,j∈rem.map (·.1)↔j < ops.size:=by
       intro j
       rw[r2]
       simp only[Array.length_toList,List.mem_range'_1,Nat.zero_le,Nat.zero_add,true_and]
      have hltp:(rem.map (·.1)).Pairwise (·< ·):=by rw[r2];exact List.pairwise_lt_range'
      have hlt:=List.pairwise_map.1 hltp
      have hdlt:∀ i x,i < ops.size→dEdge ops i x=true→x < i:=by
       intro i x hi hde
       simp only[dEdge,Array.getElem?_eq_getElem hi]at hde
       obtain⟨e,he,hbe⟩:=List.any_eq_true.1 hde
       simp only[Bool.and_eq_true,beq_iff_eq]at hbe
       rw[← hbe.2]
       exact hd1 i _ e (Array.getElem?_eq_getElem hi) (by simpa using he) hbe.1
      refine wp_region_any hm (wpAny_of_runT hcf hc.1 hQ ops.size rem _ s a _ r1 hs.drew ?_ ?_ (by simp) (by omega) ?_ hp)
      ·refine hlt.imp_of_mem (fun {x i} hx hi h=>⟨by omega,?_⟩)
       cases hde:dEdge ops x.1 i.1 with
       | false=>rfl
       | true=>
         have:=hdlt x.1 i.1 ((hrm x.1).1 (List.mem_map.2 ⟨x,hx,rfl⟩)) hde
         omega
      ·intro j
       rw[hrm,listed0]
      ·intro j y hj hjn
       exact absurd ((hrm j).2 hj) hjn
     ·simp at h
    ·simp at h
   ·rename_i p q ord
    split at h
    ·rename_i fl s1 hD
     split at h
     ·rename_i fl2 s2 hI
      split at h
      ·rename_i hc
       simp at h;subst h
       obtain⟨c1,c2,c3,c4,c5⟩:=hc
       have e12:=St.eq_of_beq c5
       subst e12
       obtain⟨rem,r1,r2,r3⟩:=run_of_D ops.toList 0 (fun j=>by simp) hD
       obtain⟨rem2,q1,q2,q3⟩:=run_of_I ord hI
       rw[r3]at c3
       rw[q3]at c4
       have hp:=pairs_ofX p q rem c3
       have hp2:=pairs_ofX q p rem2 c4
       simp only[altO,Bool.and_eq_true,decide_eq_true_eq,beq_iff_eq]at c2
       obtain⟨⟨hpq,hqlt⟩,hol,hall,hok⟩:=c2
       obtain⟨g1,g2⟩:=ordOk_spec p q ord hok
       have hmem:∀ j,j∈ord↔j < ops.size:=fun j=>⟨g1 j,fun h=>by
        have:=List.all_eq_true.1 hall j (List.mem_range.2 h)
        simpa using this⟩
       have hlen:rem.length=ops.size:=by
        have:=congrArg List.length r2
        simpa using this
       have hlen2:rem2.length=ops.size:=by
        have:=congrArg List.length q2
        simpa [hol] using this
       have hrm:∀ j,j∈rem.map (·.1)↔j < ops.size:=by
        intro j
        rw[r2]
        simp only[Array.length_toList,List.mem_range'_1,Nat.zero_le,Nat.zero_add,true_and]
       obtain⟨hd1,hd2⟩:=drawOk_spec c1
       have hltp:(rem.map (·.1)).Pairwise (·< ·):=by rw[r2];exact List.pairwise_lt_range'
       have hlt:=List.pairwise_map.1 hltp
       have hdlt:∀ i x,i < ops.size→dEdge ops i x=true→x < i:=by
        intro i x hi hde
        simp only[dEdge,Array.getElem?_eq_getElem hi]at hde
        obtain⟨e,he,hbe⟩:=List.any_eq_true.1 hde
        simp only[Bool.and_eq_true,beq_iff_eq]at hbe
        rw[← hbe.2]
        exact hd1 i _ e (Array.getElem?_eq_getElem hi) (by simpa using he) hbe.1
       have hord1:rem.Pairwise (fun x i=>x.1≠i.1∧dEdge ops x.1 i.1=false):=by
        refine hlt.imp_of_mem (fun {x i} hx hi h=>⟨by omega,?_⟩)
        cases hde:dEdge ops x.1 i.1 with
        | false=>rfl
        | true=>
          have:=hdlt x.1 i.1 ((hrm x.1).1 (List.mem_map.2 ⟨x,hx,rfl⟩)) hde
          omega
       have g2':(rem2.map (·.1)).Pairwise (fun x i=>(x≠i∧dEdge ops x i=false)∧¬ (x=p∧i=q)):=by rw[q2];exact g2
       have g3:=List.pairwise_map.1 g2'
       refine wp_region_any hm (wpAny_of_two hcf c1 hQ p q (by omega) ops.size rem rem2 _ s a _ r1 q1 hs.drew hord1 (g3.imp (fun h=>h.1)) ?_ ?_ (by simp) (by omega) (by omega) ?_ ((hrm p).2 (by omega)) ((hrm q).2 hqlt) ?_ (g3.imp (fun h=>h.2)) hp hp2)
       ·intro j
        rw[hrm,listed0]
       ·intro j
        rw[hrm,q2,hmem]
       ·intro j y hj hjn
        exact absurd ((hrm j).2 hj) hjn
       ·refine hlt.imp (fun {x i} h e=>?_)
        omega
      ·simp at h
     ·simp at h
    ·simp at h
end Go.Ev
namespace Go.Ev
open Go.RowKit
variable {P:Program} {cf:CF} {it:It} {mu:List Nat} {m:Cfg} {B0:Nat} {w0:Base} {w:World} {I I0:Imm} {H:List MB} {L L0:List Lay}
def PostOk (B0:Nat) (w0:Base) (I0:Imm) (L0:List Lay) (e:EX) (s:St):Exit→Act→World→Prop
 | .normal,a,w=>e=.norm∧StOk B0 w0 I0 L0 s a w
 | .exit id,a,w=>e=.exit id∧StOk B0 w0 I0 L0 s a w
 | .ret,a,w=>e=.ret∧StOk B0 w0 I0 L0 s a w
 | _,_,_=>False
def ItOk (it:It):Prop:=∀ b m s r,it b m s=some r→∃ n,iterN b m n s=some r
theorem StOk.keep {s:St} {a:Act} (h:StOk B0 w0 I0 L0 s a w) (l:Option (List Nat)):StOk B0 w0 I0 L0 { s with t:=keepT l s.t } a w:=by
 obtain⟨I,L,h1,h2,h3,h4⟩:=h
 exact⟨I,L,h1,h2,h3,h4.sub (keepT_sub l s.t)⟩
theorem StOk.dropSt {s:St} {a:Act} (h:StOk B0 w0 I0 L0 s a w) (l:List Nat):StOk B0 w0 I0 L0 (dropSt l s) a w:=by
 obtain⟨I,L,h1,h2,h3,h4⟩:=h
 exact⟨I,L,h1,h2,h3,h4.sub (dropT_sub l s.t)⟩
theorem keptOk_spec (n:Nat):∀(xs ys:List MB) (i:Nat) (x y:MB),keptOk n xs ys=true→xs[i]?=some x→ys[i]?=some y→y=x∨MB.under n y=true
 | [],_,i,x,y,_,h,_=>by simp at h
 | _::_,[],i,x,y,_,_,h=>by simp at h
 | a::xs,b::ys,i,x,y,h,h1,h2=>by
   simp only[keptOk,Bool.and_eq_true,Bool.or_eq_true]at h
   match i,h1,h2 with
   | 0,h1,h2=>
     simp at h1 h2;subst h1;subst h2
     rcases h.1 with g|g
     ·exact .inl (MB.eq_of_beq _ _ g)
     ·exact .inr g
   | i+1,h1,h2=>exact keptOk_spec n xs ys i x y h.2 (by simpa using h1) (by simpa using h2)
theorem underE_get {n:Nat}:∀ {es:List (AV×AV)},MB.underE n es=true→∀ {i:Nat} {k v:AV},es[i]?=some (k,v)→AV.under n k=true∧AV.under n v=true
 | [],_,i,k,v,h=>by simp at h
 | (a,b)::es,hu,0,k,v,h=>by
   simp at h;obtain⟨rfl,rfl⟩:=h
   simp only[MB.underE,Bool.and_eq_true]at hu
   exact⟨hu.1,hu.2.1⟩
 | (a,b)::es,hu,i+1,k,v,h=>by
   simp only[MB.underE,Bool.and_eq_true]at hu
   exact underE_get hu.2.2 (by simpa using h)
theorem underE_of {n:Nat}:∀ {es:List (AV×AV)},(∀(i:Nat) (k v:AV),es[i]?=some (k,v)→AV.under n k=true∧AV.under n v=true)→MB.underE n es=true
 | [],_=>rfl
 | (a,b)::es,h=>by
   have h0:=h 0 a b rfl
   simp only[MB.underE,h0.1,h0.2,Bool.true_and]
   exact underE_of fun i k v hi=>h (i+1) k v (by simpa using hi)
theorem MapOk.under {q:KK} {es:List (AV×AV)} {l:Lay} (h:MapOk B0 I L w q es l):MB.underE L.length es=true:=by
 obtain⟨ents,clock,_,_,f3⟩:=h.obj
 exact underE_of fun i k v g=>by
  obtain⟨_,e,_,g3,g4⟩:=f3 i k v g
  exact⟨g3.under,g4.under⟩
theorem Inv.drop (hi:Inv B0 w0 I H L w) {n:Nat} (hn:n≤H.length)
  (hu:∀ id k els z l,id < n→H[id]?=some (.row k els z)→L[id]?=some l→∀(i j:Nat) (x y:AV),els[i]?=some x→x.cells[j]?=some y→l.sh≤i→AV.under n y=true)
  (hv:∀ id q es,id < n→H[id]?=some (.mp q es)→MB.underE n es=true) :
  Inv B0 w0 I (H.take n) (L.take n) w:=by
 refine⟨hi.below,hi.base,by simp[hi.len],fun id m l hm hl=>?_,fun i j l l' h1 h2 n1 n2 h3=>?_,hi.imm,hi.old⟩
 ·rw[List.getElem?_take]at hm hl
  split at hm
  ·rename_i hid
   rw[if_pos hid]at hl
   have hb:=hi.blk id m l hm hl
   cases m with
   | mp q es=>
     obtain⟨ents,clock,f1,f2,f3⟩:=MapOk.obj hb
     refine⟨MapOk.ht hb,MapOk.hn hb,MapOk.hB hb,⟨ents,clock,f1,f2,fun i k v g=>?_⟩,MapOk.free hb⟩
     obtain⟨g1,e,g2,g3,g4⟩:=f3 i k v g
     have hu2:=underE_get (hv id q es hid hm) g
     exact⟨g1,e,g2,g3.restrict hu2.1,g4.restrict hu2.2⟩
   | row k els z=>
     refine⟨hb.hk,hb.ht,hb.hsh,hb.hz,hb.hB,hb.wid,hb.fit,fun hn=>?_,hb.free⟩
     obtain⟨cs,T,f1,f2,f3,f4⟩:=BlkOk.blk hb hn
     refine⟨cs,T,f1,f2,fun i j x y g1 g2 g3=>?_,f4⟩
     obtain⟨v,e1,e2,e3⟩:=f3 i j x y g1 g2 g3
     exact⟨v,e1,e2,e3.restrict (hu id k els z l hid hm hl i j x y g1 g2 g3)⟩
  ·simp at hm
 ·rw[List.getElem?_take]at h1 h2
  split at h1
  ·split at h2
   ·exact hi.inj i j l l' h1 h2 n1 n2 h3
   ·simp at h2
  ·simp at h1
theorem updT_keys (d:Nat) (v:AV):∀ t:Tm,(updT d v t).map (·.1)=t.map (·.1)
 | []=>rfl
 | (k,u)::t=>by
   simp only[updT]
   split
   ·rfl
   ·simp only[List.map_cons,updT_keys d v t]
theorem updT_mem {d:Nat} {v:AV}:∀ {t:Tm} {q:Nat×AV},q∈updT d v t→q∈t∨(q=(d,v)∧∃ u,(d,u)∈t)
 | [],q,h=>by simp[updT]at h
 | (k,u)::t,q,h=>by
   simp only[updT]at h
   split at h
   ·rename_i e
    subst e
    rcases List.mem_cons.1 h with h|h
    ·exact .inr ⟨h,u,List.mem_cons_self ..⟩
    ·exact .inl (List.mem_cons_of_mem _ h)
   ·rcases List.mem_cons.1 h with h|h
    ·exact .inl (by rw[h];exact List.mem_cons_self ..)
    ·rcases updT_mem h with h|⟨h,u',h'⟩
     ·exact .inl (List.mem_cons_of_mem _ h)
     ·exact .inr ⟨h,u',List.mem_cons_of_mem _ h'⟩
theorem TmOk.upd {n:Nat} {t:Tm} {vs:Array Value} (h:TmOk I L n t vs) {d:Nat} {v:AV} (hv:Rep I L v (vs.getD d undef)):TmOk I L n (updT d v t) vs:=by
 refine⟨h.1,?_,fun q hq=>?_⟩
 ·have h2:=h.2.1
  unfold Desc at h2 ⊢
  have hk:=updT_keys d v t
  have h3:List.Pairwise (fun a b:Nat=>b < a) (t.map (·.1)):=List.pairwise_map.2 h2
  rw[← hk]at h3
  exact List.pairwise_map.1 h3
 ·rcases updT_mem hq with hq|⟨rfl,u,hu⟩
  ·exact h.2.2 q hq
  ·exact⟨(h.2.2 _ hu).1,hv⟩
theorem Inv.recell (hi:Inv B0 w0 I H L w) {id k:Nat} {els:List AV} {z:Nat} (hr:getRow H id=some (k,els,z)) (els':List AV) (hlen:els'.length=els.length)
  (h:∀(l:Lay) (i j:Nat) (x y b:AV),L[id]?=some l→els[i]?=some x→els'[i]?=some y→y.cells.length=x.cells.length∧(y.cells[j]?=some b→l.sh≤i→∃ a,x.cells[j]?=some a ∧
    ∀ v,w.cell? ⟨l.b,l.o+(i - l.sh) * k+j,none⟩=some v→Rep I L a v→Rep I L b v)):Inv B0 w0 I (H.set id (.row k els' z)) L w:=by
 have hm:=getRow_eq hr
 obtain⟨l,hl,hb⟩:=hi.row hr
 have hid:id < L.length:=(List.getElem?_eq_some_iff.1 hl).1
 refine⟨hi.below,hi.base,by simp[hi.len],fun id2 m2 l2 hm2 hl2=>?_,hi.inj,hi.imm,hi.old⟩
 by_cases e:id=id2
 ·subst e
  rw[List.getElem?_set_self (List.getElem?_eq_some_iff.1 hm).1]at hm2
  obtain rfl:=Option.some.inj hm2
  rw[hl]at hl2;obtain rfl:=Option.some.inj hl2
  refine⟨hb.hk,by rw[hlen];exact hb.ht,by rw[hlen];exact hb.hsh,by rw[hlen];exact hb.hz,hb.hB,fun y hy=>?_,by rw[hlen];exact hb.fit,fun hn=>?_,hb.free⟩
  ·obtain⟨i,hi'⟩:=List.getElem?_of_mem hy
   have hlt:i < els.length:=by rw[← hlen];exact(List.getElem?_eq_some_iff.1 hi').1
   rw[(h l i 0 _ y .top hl (List.getElem?_eq_getElem hlt) hi').1]
   exact hb.wid _ (List.getElem_mem hlt)
  ·obtain⟨cs,T,f1,f2,f3,f4⟩:=hb.blk hn
   refine⟨cs,T,f1,f2,fun i j y b g1 g2 g3=>?_,f4⟩
   have hlt:i < els.length:=by rw[← hlen];exact(List.getElem?_eq_some_iff.1 g1).1
   obtain⟨a,a1,a2⟩:=(h l i j _ y b hl (List.getElem?_eq_getElem hlt) g1).2 g2 g3
   obtain⟨v,e1,e2,e3⟩:=f3 i j _ a (List.getElem?_eq_getElem hlt) a1 g3
   exact⟨v,e1,e2,a2 v (by rw[World.cell_of_heap f1];exact e1) e3⟩
 ·rw[List.getElem?_set_ne e]at hm2
  exact hi.blk id2 m2 l2 hm2 hl2
theorem nil_phantom {v:Value} (hr:Rep I L (.sl true []) v) (k:Nat):∃ b,Rep I (L++[⟨k,0,b,0,0,0⟩]) (.ms L.length k 0 0 0) v:=by
 generalize hx:AV.sl true []=x at hr
 cases hr with
 | nilsl t=>exact⟨0,.msn _ _ _ (by simp;rfl) rfl⟩
 | sl t xs b o c k' f hc ht hk hI hR=>
   simp at hx
   obtain⟨rfl,rfl⟩:=hx
   have hc0:c=0:=ht rfl
   subst hc0
   refine⟨b,?_⟩
   have:=Rep.ms (I:=I) (L:=L++[⟨k,0,b,0,0,0⟩]) L.length k 0 0 0 ⟨k,0,b,0,0,0⟩ b o 0 (by simp) (Nat.le_refl _) rfl (Nat.le_refl _) (Nat.le_refl _) (fun _=>⟨Nat.le_refl _,rfl,fun h=>absurd rfl h,Nat.le_refl _,by simp⟩)
   exact this
 | _=>cases hx
theorem setCells_one (x u:AV) (j:Nat) (hj:j < x.cells.length) (hu:u.cells=[u]):(setCells x j [u]).cells.length=x.cells.length∧∀ i,(setCells x j [u]).cells[i]?=if i=j then some u else x.cells[i]?:=by
 by_cases hx:∃ cs,x=.agg cs
 ·obtain⟨cs,rfl⟩:=hx
  simp only[AV.cells]at hj
  refine⟨by simp only[setCells,splice,AV.cells,List.length_append,List.length_take,List.length_drop,List.length_singleton];omega,fun i=>?_⟩
  simp only[setCells,splice,AV.cells]
  have ht:(cs.take j).length=j:=by simp;omega
  by_cases h1:i < j
  ·rw[List.getElem?_append_left (by omega),List.getElem?_take,if_pos h1,if_neg (by omega)]
  ·rw[List.getElem?_append_right (by omega),ht]
   by_cases h2:i=j
   ·subst h2;simp
   ·rw[if_neg h2,List.getElem?_append_right (by simp;omega),List.getElem?_drop]
    congr 1;simp;omega
 ·have hxc:x.cells=[x]:=by
   cases x<;>first|rfl|exact absurd ⟨_,rfl⟩ hx
  have hs:setCells x j [u]=u:=by cases x<;>first|rfl|exact absurd ⟨_,rfl⟩ hx
  rw[hs,hu,hxc]
  rw[hxc]at hj
  simp at hj
  subst hj
  refine⟨rfl,fun i=>?_⟩
  match i with
  | 0=>rfl
  | i+1=>simp
theorem StOk.frzB {s:St} {a:Act} (h:StOk B0 w0 I0 L0 s a w) (id:Nat):StOk B0 w0 I0 L0 (frzB s id) a w:=by
 obtain⟨I,L,h1,h2,h3,h4⟩:=h
 have h0:StOk B0 w0 I0 L0 s a w:=⟨I,L,h1,h2,h3,h4⟩
 unfold Ev.frzB
 split
 ·rename_i k els z hrow
  split
  ·rename_i els' H' hf
   split
   ·rename_i k' els2 z' hrow'
    obtain⟨I',f1,f2,f3⟩:=fzs_sound h1 hf
    obtain⟨l,hl,hb⟩:=h1.row hrow
    obtain⟨l2,hl2,hb2⟩:=f1.row hrow'
    rw[hl]at hl2;obtain rfl:=Option.some.inj hl2
    split
    ·rename_i hee
     obtain rfl:=AV.eq_of_beqL _ _ hee
     refine⟨I',L,f1.recell hrow' els' f3.1 (fun l' i j x y b g1 g2 g3=>?_),h2.trans (f2.ext L),h3,h4.mono (f2.ext L)⟩
     obtain⟨_,q2⟩:=f3.2 i x y g2 g3
     refine⟨q2.1,fun g4 _=>?_⟩
     have hj:j < x.cells.length:=by rw[← q2.1];exact(List.getElem?_eq_some_iff.1 g4).1
     exact⟨_,List.getElem?_eq_getElem hj,fun v _ hv=>q2.2 j _ b (List.getElem?_eq_getElem hj) g4 I' (.refl I') v hv⟩
    ·exact h0
   ·exact h0
  ·exact h0
 ·exact h0
theorem StOk.act1 {s:St} {a:Act} (h:StOk B0 w0 I0 L0 s a w) (x:SA):StOk B0 w0 I0 L0 (act1 s x) a w:=by
 obtain⟨I,L,h1,h2,h3,h4⟩:=h
 have h0:StOk B0 w0 I0 L0 s a w:=⟨I,L,h1,h2,h3,h4⟩
 cases x with
 | mat d k=>
   simp only[Ev.act1]
   split
   ·rename_i hd
    obtain⟨b,hb⟩:=nil_phantom (h4.at hd) k
    obtain⟨p1,p2⟩:=h1.phantom k b
    rw[h1.len]at hb
    exact⟨I,_,p1,h2.trans p2,h3,(h4.mono p2).upd hb⟩
   ·exact h0
 | matC d j k=>
   simp only[Ev.act1]
   split
   ·rename_i id tot i j0 hd
    split
    ·rename_i kk els z hrow
     split
     ·rename_i htot
      split
      ·rename_i x hx
       split
       ·rename_i hc
        have hr:=h4.at hd
        obtain⟨l,hl,hb⟩:=h1.row hrow
        generalize hvv:a.tmps.getD d undef=vv at hr
        cases hr with
        | rf _ _ _ _ l2 b o hL ht hv=>
          rw[hl]at hL;obtain rfl:=Option.some.inj hL
          obtain⟨v1,_,_⟩:=hv (by rw[hb.ht];exact htot.symm)
          obtain⟨u,u1,u2,u3⟩:=hb.cell hx hc v1
          obtain⟨b',hb'⟩:=nil_phantom u3 k
          obtain⟨p1,p2⟩:=h1.phantom k b'
          rw[h1.len]at hb'
          have hid:=(List.getElem?_eq_some_iff.1 (getRow_eq hrow)).1
          have hrow':getRow (s.h++[.row k [] 0]) id=some (kk,els,z):=by
           unfold getRow
           rw[List.getElem?_append_left hid,getRow_eq hrow]
          have hj:j < x.cells.length:=(List.getElem?_eq_some_iff.1 hc).1
          have hil:i < els.length:=(List.getElem?_eq_some_iff.1 hx).1
          have hone:=setCells_one x (.ms s.h.length k 0 0 0) j hj rfl
          have hset:=p1.recell hrow' (els.set i (setCells x j [.ms s.h.length k 0 0 0])) (by simp) (fun l' i' j' x' y' b'' g1 g2 g3=>by
           rw[List.getElem?_append_left (List.getElem?_eq_some_iff.1 hl).1,hl]at g1
           obtain rfl:=Option.some.inj g1
           by_cases e:i=i'
           ·subst e
            rw[hx]at g2;obtain rfl:=Option.some.inj g2
            rw[List.getElem?_set_self hil]at g3
            obtain rfl:=Option.some.inj g3
            refine⟨hone.1,fun g4 g5=>?_⟩
            rw[hone.2]at g4
            by_cases e:j' = j
            ·subst e
             rw[if_pos rfl]at g4
             obtain rfl:=Option.some.inj g4
             refine⟨_,hc,fun v hv1 _=>?_⟩
             rw[u1]at hv1
             obtain rfl:=Option.some.inj hv1
             exact hb'
            ·rw[if_neg e]at g4
             exact⟨_,g4,fun v _ hv=>hv⟩
           ·rw[List.getElem?_set_ne e,g2]at g3
            obtain rfl:=Option.some.inj g3
            exact⟨rfl,fun g4 _=>⟨_,g4,fun v _ hv=>hv⟩⟩)
          rw[List.set_append_left _ _ hid]at hset
          exact⟨I,_,hset,h2.trans p2,h3,h4.mono p2⟩
       ·exact h0
      ·exact h0
     ·exact h0
    ·exact h0
   ·exact h0
 | frz d=>
   simp only[Ev.act1]
   split
   ·rename_i v hd
    split
    ·rename_i v' H' hf
     obtain⟨I',f1,f2,f3,_⟩:=fz_sound h1 hf
     have h5:=h4.mono (f2.ext L)
     exact⟨I',L,f1,h2.trans (f2.ext L),h3,h5.upd (f3 I' (.refl I') _ (h5.at hd))⟩
    ·exact h0
   ·exact h0
 | frzC d=>
   simp only[Ev.act1]
   split
   ·exact h0.frzB _
   ·exact h0.frzB _
   ·exact h0
theorem StOk.actL {a:Act}:∀(l:List SA) {s:St},StOk B0 w0 I0 L0 s a w→StOk B0 w0 I0 L0 (actL l s) a w
 | [],_,h=>h
 | x::l,_,h=>StOk.actL l (h.act1 x)
theorem StOk.prepG {s:St} {a:Act} (h:StOk B0 w0 I0 L0 s a w) (m:Msk) (hg:∀ n,m.gc=some n→L0.length≤n):StOk B0 w0 I0 L0 (prepG m s) a w:=by
 have hc:=h.keep m.k
 unfold Ev.prepG
 split
 ·exact hc
 ·rename_i n hn
  split
  ·rename_i hu
   rcases Nat.lt_or_ge n s.h.length with hlt|hge
   ·obtain⟨I,L,h1,h2,h3,h4⟩:=hc
    refine⟨I,L.take n,h1.drop (Nat.le_of_lt hlt) (fun id k els z l hid hm hl i j x y g1 g2 g3=>?_) (fun id q es hid hm=>?_),⟨h2.imm,fun id l hl=>?_⟩,h3,h4.1,h4.2.1,fun q hq=>?_⟩
    ·have:=List.all_eq_true.1 hu.2 (.row k els z) (List.mem_of_getElem? (i:=id) (by rw[List.getElem?_take,if_pos hid];exact hm))
     simp only[MB.under]at this
     exact(under_cells n x).1 ((underL_iff n els).1 this x (List.mem_of_getElem? g1)) y (List.mem_of_getElem? g2)
    ·have:=List.all_eq_true.1 hu.2 (.mp q es) (List.mem_of_getElem? (i:=id) (by rw[List.getElem?_take,if_pos hid];exact hm))
     simpa only[MB.under] using this
    ·obtain⟨l',e,r⟩:=h2.lay id l hl
     have:=hg n hn
     have:=(List.getElem?_eq_some_iff.1 hl).1
     exact⟨l',by rw[List.getElem?_take,if_pos (by omega)];exact e,r⟩
    ·exact⟨(h4.2.2 q hq).1,(h4.2.2 q hq).2.restrict ((underL_iff n _).1 hu.1 q.2 (List.mem_map.2 ⟨q,hq,rfl⟩))⟩
   ·rw[List.take_of_length_le hge];exact hc
  ·exact hc
theorem StOk.prep {s:St} {a:Act} (h:StOk B0 w0 I0 L0 s a w) (m:Msk) (hg:∀ n,m.gc=some n→L0.length≤n):StOk B0 w0 I0 L0 (prep m s) a w:=(h.actL m.acts).prepG m hg
theorem evCode_sound (hg:∀ i n,(m.lp i).gc=some n→L0.length≤n) (hcf:CfOk P cf) (hit:ItOk it) (hm:P.follows .mixedOrders=true):∀(c:Code) {s s':St} {e:EX} {a:Act} {w:World},
  evCode P cf it mu m c s=some (e,s')→StOk B0 w0 I0 L0 s a w→c.wp P (PostOk B0 w0 I0 L0 e s') a w
 | .skip,s,s',e,a,w,h,hs=>by
   simp[evCode]at h;obtain⟨rfl,rfl⟩:=h
   exact wp_skip ⟨rfl,hs⟩
 | .label _,s,s',e,a,w,h,hs=>by
   simp[evCode]at h;obtain⟨rfl,rfl⟩:=h
   exact wp_label ⟨rfl,hs⟩
 | .region id ops draw,s,s',e,a,w,h,hs=>by
   simp only[evCode]at h
   cases hr:evRegion P cf mu ops (m.al id) draw s with
   | none=>rw[hr]at h;simp at h
   | some s1=>
     rw[hr]at h;simp at h;obtain⟨rfl,rfl⟩:=h
     exact evRegion_sound hcf hm hr hs (fun a w hs'=>⟨rfl,(hs'.actL _).dropSt _⟩)
 | .seq x y,s,s',e,a,w,h,hs=>by
   simp only[evCode]at h
   refine wp_seq ?_
   split at h
   ·rename_i s1 h1
    refine wp_mono (evCode_sound hg hcf hit hm x h1 hs) (fun e1 a1 w1 hp=>?_)
    cases e1 with
    | normal=>exact evCode_sound hg hcf hit hm y h hp.2
    | exit id=>exact absurd hp.1 (by simp)
    | ret=>exact absurd hp.1 (by simp)
    | goto l=>exact hp.elim
    | panic c=>exact hp.elim
    | outgrown=>exact hp.elim
   ·rename_i r hne
    cases hx:evCode P cf it mu m x s with
    | none=>rw[hx]at h;simp at h
    | some q=>
      obtain⟨e1,s1⟩:=q
      have hn:e1≠.norm:=by
       rintro rfl
       exact hne s1 hx
      rw[hx]at h
      have h':e1=e∧s1=s':=by
       cases e1 with
       | norm=>exact absurd rfl hn
       | exit id=>simpa using h
       | ret=>simpa using h
      obtain⟨rfl,rfl⟩:=h'
      refine wp_mono (evCode_sound hg hcf hit hm x hx hs) (fun e2 a1 w1 hp=>?_)
      cases e2 with
      | normal=>exact absurd hp.1 hn
      | exit id=>exact hp
      | ret=>exact hp
      | goto l=>exact hp.elim
      | panic c=>exact hp.elim
      | outgrown=>exact hp.elim
 | .cond c x y,s,s',e,a,w,h,hs=>by
   simp only[evCode]at h
   obtain⟨I,L,i1,i2,i3,i4⟩:=hs
   have hr:=ev_rep i4 c
   split at h
   ·rename_i hc
    rw[hc]at hr
    generalize hv:a.eval c=v at hr
    cases hr
    exact wp_cond_true hv (evCode_sound hg hcf hit hm x h ⟨I,L,i1,i2,i3,i4⟩)
   ·rename_i hc
    rw[hc]at hr
    generalize hv:a.eval c=v at hr
    cases hr
    exact wp_cond_false hv (evCode_sound hg hcf hit hm y h ⟨I,L,i1,i2,i3,i4⟩)
   ·simp at h
 | .block id b,s,s',e,a,w,h,hs=>by
   simp only[evCode]at h
   refine wp_block ?_
   split at h
   ·rename_i id' s1 h1
    refine wp_mono (evCode_sound hg hcf hit hm b h1 hs) (fun e1 a1 w1 hp=>?_)
    cases e1 with
    | normal=>exact absurd hp.1 (by simp)
    | exit id2=>
      obtain⟨h2,h3⟩:=hp
      simp at h2;subst h2
      show Exit.inBlock id _ (.exit id') a1 w1
      simp only[Exit.inBlock]
      split at h
      ·rename_i e2
       simp at h;obtain⟨rfl,rfl⟩:=h
       rw[if_pos e2];exact⟨rfl,h3.dropSt _⟩
      ·rename_i e2
       simp at h;obtain⟨rfl,rfl⟩:=h
       rw[if_neg e2];exact⟨rfl,h3⟩
    | ret=>exact absurd hp.1 (by simp)
    | goto l=>exact hp.elim
    | panic c=>exact hp.elim
    | outgrown=>exact hp.elim
   ·rename_i s1 h1
    simp at h;obtain⟨rfl,rfl⟩:=h
    refine wp_mono (evCode_sound hg hcf hit hm b h1 hs) (fun e1 a1 w1 hp=>?_)
    cases e1 with
    | normal=>exact⟨rfl,hp.2.dropSt _⟩
    | exit id2=>exact absurd hp.1 (by simp)
    | ret=>exact absurd hp.1 (by simp)
    | goto l=>exact hp.elim
    | panic c=>exact hp.elim
    | outgrown=>exact hp.elim
   ·rename_i hne hnn
    refine wp_mono (evCode_sound hg hcf hit hm b h hs) (fun e1 a1 w1 hp=>?_)
    cases e1 with
    | normal=>
      obtain⟨h2,h3⟩:=hp
      subst h2
      exact absurd h (hnn s')
    | exit id2=>
      obtain⟨h2,h3⟩:=hp
      subst h2
      exact absurd h (hne id2 s')
    | ret=>exact hp
    | goto l=>exact hp.elim
    | panic c=>exact hp.elim
    | outgrown=>exact hp.elim
 | .loop b,s,s',e,a,w,h,hs=>by
   simp only[evCode]at h
   obtain⟨n,hn⟩:=hit _ _ _ _ h
   refine wp_loop_rounds n ?_
   clear h
   induction n generalizing s a w with
   | zero=>simp[iterN]at hn
   | succ n ih=>
     simp only[iterN]at hn
     rw[rounds_succ]
     split at hn
     ·rename_i s1 h1
      refine wp_mono (evCode_sound hg hcf hit hm b h1 (hs.prep (m.lp (loopId b)) (hg _))) (fun e1 a1 w1 hp=>?_)
      cases e1 with
      | normal=>exact ih _ _ _ hp.2 hn
      | exit id=>exact absurd hp.1 (by simp)
      | ret=>exact absurd hp.1 (by simp)
      | goto l=>exact hp.elim
      | panic c=>exact hp.elim
      | outgrown=>exact hp.elim
     ·rename_i hne
      have hen:e≠.norm:=by
       rintro rfl
       exact hne s' hn
      refine wp_mono (evCode_sound hg hcf hit hm b hn (hs.prep (m.lp (loopId b)) (hg _))) (fun e1 a1 w1 hp=>?_)
      cases e1 with
      | normal=>exact absurd hp.1 hen
      | exit id=>exact hp
      | ret=>exact hp
      | goto l=>exact hp.elim
      | panic c=>exact hp.elim
      | outgrown=>exact hp.elim
 | .scope b,s,s',e,a,w,h,hs=>by
   simp only[evCode]at h
   refine wp_scope_straight (wp_mono (evCode_sound hg hcf hit hm b h hs) (fun e1 a1 w1 hp=>?_))
   cases e1 with
   | normal=>exact hp
   | exit id=>exact hp
   | ret=>exact hp
   | goto l=>exact hp.elim
   | panic c=>exact hp.elim
   | outgrown=>exact hp.elim
 | .exit id,s,s',e,a,w,h,hs=>by
   simp[evCode]at h;obtain⟨rfl,rfl⟩:=h
   exact wp_exit ⟨rfl,hs⟩
 | .ret,s,s',e,a,w,h,hs=>by
   simp[evCode]at h;obtain⟨rfl,rfl⟩:=h
   exact wp_ret ⟨rfl,hs⟩
 | .rangeFunc _ _ _ _,s,s',e,a,w,h,hs=>by simp[evCode]at h
 | .goto _,s,s',e,a,w,h,hs=>by simp[evCode]at h
 | .refuse _,s,s',e,a,w,h,hs=>by simp[evCode]at h
end Go.Ev
namespace Go.Ev
open Go.RowKit
variable {P:Program} {pol:Pol} {cf:CF} {it:It} {B0:Nat} {w0:Base} {w:World} {I I0:Imm} {H:List MB} {L L0:List Lay}
def ExtOk (P:Program) (pol:Pol):Prop:=∀ f g,pol.ext f=some g→∀ args H r H',g args H=some (r,H')→CallSound P f args H r H'
theorem frzArgs_sound (f:Nat):∀(args:List AV) (i:Nat) {I:Imm} {H H1:List MB} {as:List AV},Inv B0 w0 I H L w→frzArgs pol f i args H=some (as,H1) →
  ∃ I',Inv B0 w0 I' H1 L w∧Grows I I'∧as.length=args.length∧∀(j:Nat) (x y:AV),args[j]?=some x→as[j]?=some y→Later I' L x y
 | [],i,I,H,H1,as,hi,h=>by
   simp[frzArgs]at h;obtain⟨rfl,rfl⟩:=h
   exact⟨I,hi,.refl I,rfl,fun j x y h=>by simp at h⟩
 | x::xs,i,I,H,H1,as,hi,h=>by
   simp only[frzArgs]at h
   split at h
   ·rename_i y H2 h2
    split at h
    ·rename_i ys H3 h3
     simp at h;obtain⟨rfl,rfl⟩:=h
     have:∃ I2,Inv B0 w0 I2 H2 L w∧Grows I I2∧Later I2 L x y:=by
      split at h2
      ·simp at h2;obtain⟨rfl,rfl⟩:=h2
       exact⟨I,hi,.refl I,.refl _ _ _⟩
      ·obtain⟨I2,a1,a2,a3,a4⟩:=fz_sound hi h2
       exact⟨I2,a1,a2,a3⟩
     obtain⟨I2,a1,a2,a3⟩:=this
     obtain⟨I3,b1,b2,b3,b4⟩:=frzArgs_sound f xs (i+1) a1 h3
     refine⟨I3,b1,a2.trans b2,by simp[b3],fun j u v hu hv=>?_⟩
     match j,hu,hv with
     | 0,hu,hv=>simp at hu hv;subst hu;subst hv;exact a3.mono b2
     | j+1,hu,hv=>exact b4 j u v (by simpa using hu) (by simpa using hv)
    ·simp at h
   ·simp at h
theorem evResults_sound {s:St} {a:Act} (hi:Inv B0 w0 I s.h L w) (hr:TmOk I L s.n s.t a.tmps) {g:ResultVar→Sem Value} (hg1:∀ t,g (.tmp t)=pure (a.tmps.getD t undef))
  (hg2:∀ b t,g (.cell b t)=do loadVar t (← asAddr (a.tmps.getD b undef))):∀(rs:List ResultVar) {vs:List AV},evResults P s rs=some vs →
  ∃ us:List Value,(rs.mapM g).run P w=.ok us w∧us.length=vs.length∧∀(i:Nat) (y:AV) (u:Value),vs[i]?=some y→us[i]?=some u→Rep I L y u
 | [],vs,h=>by
   simp[evResults]at h;subst h
   exact⟨[],rfl,rfl,fun i y u h=>by simp at h⟩
 | r::rs,vs,h=>by
   simp only[evResults]at h
   split at h
   ·rename_i v hv
    split at h
    ·rename_i vs' hvs
     simp at h;subst h
     obtain⟨us,e1,e2,e3⟩:=evResults_sound hi hr hg1 hg2 rs hvs
     have:∃ u,(g r).run P w=.ok u w∧Rep I L v u:=by
      cases r with
      | tmp t=>exact⟨a.tmps.getD t undef,by rw[hg1];rfl,hr.at hv⟩
      | cell b t=>
        simp only[evResult]at hv
        split at hv
        ·rename_i p hp
         split at hv
         ·rename_i cs hcs
          obtain⟨b',o,q1,q2⟩:=cellsAt_sound hi (hr.at hp) hcs
          obtain⟨u,g1,g2⟩:=run_loadVar_of (P:=P) q2 hv
          refine⟨u,?_,g2⟩
          rw[hg2]
          simp only[q1,asAddr,Sem.run_bind,Sem.run_pure,Result.andThen_ok,g1]
         ·simp at hv
        ·simp at hv
     obtain⟨u,g1,g2⟩:=this
     refine⟨u::us,?_,by simp[e2],fun i y u' h1 h2=>?_⟩
     ·simp only[List.mapM_cons,Sem.run_bind,g1,Result.andThen_ok,e1,Sem.run_pure]
     ·match i,h1,h2 with
      | 0,h1,h2=>simp at h1 h2;subst h1;subst h2;exact g2
      | i+1,h1,h2=>exact e3 i y u' (by simpa using h1) (by simpa using h2)
    ·simp at h
   ·simp at h
theorem results_sound {fn:Func} {s:St} {a:Act} (hi:Inv B0 w0 I s.h L w) (hr:TmOk I L s.n s.t a.tmps) {vs:List AV} (h:evResults P s fn.results.toList=some vs) :
  ∃ v,(results fn a.tmps).run P w=.ok v w∧Rep I L (packRes vs) v:=by
 unfold results
 generalize hg:(fun(x:ResultVar)=>(match x with
  | .tmp t=>pure (a.tmps.getD t undef)
  | .cell b t=>do loadVar t (← asAddr (a.tmps.getD b undef)):Sem Value))=g
 have hg1:∀ t,g (.tmp t)=pure (a.tmps.getD t undef):=fun t=>by rw[← hg]
 have hg2:∀ b t,g (.cell b t)=(do loadVar t (← asAddr (a.tmps.getD b undef)):Sem Value):=fun b t=>by rw[← hg]
 obtain⟨us,e1,e2,e3⟩:=evResults_sound (P:=P) hi hr hg1 hg2 fn.results.toList h
 have hm:∀(g':ResultVar→Sem Value),g' = g→(fn.results.mapM g').run P w=.ok us.toArray w:=by
  rintro g' rfl
  rw[← Array.toArray_toList (xs:=fn.results),List.mapM_toArray]
  simp only[Sem.run_map,e1,Result.andThen_ok]
 refine⟨if h:us.toArray.size=1 then us.toArray[0] else .tuple us.toArray,?_,?_⟩
 ·rw[Sem.run_bind,hm g rfl]
  rfl
 ·match vs,us,e2,e3 with
  | [y],[u],_,e3=>exact e3 0 y u rfl rfl
  | [],[],_,_=>exact .tup [] #[] rfl (fun i y h=>by simp at h)
  | y::y'::vs,u::u'::us,e2,e3=>
    rw[dif_neg (by simp)]
    refine .tup _ _ (by simp at e2 ⊢;exact e2) (fun i y hy=>?_)
    have hlt:i < (u::u'::us).length:=by rw[e2];exact(List.getElem?_eq_some_iff.1 hy).1
    have h3:=e3 i y _ hy (List.getElem?_eq_getElem hlt)
    have e:(u::u'::us).toArray.getD i undef=(u::u'::us)[i]:=by
     rw[Array.getD_eq_getD_getElem?,List.getElem?_toArray,List.getElem?_eq_getElem hlt];rfl
    rw[e];exact h3
theorem retPol_sound {f:Nat} {I1 I':Imm} {H1 H':List MB} {L L':List Lay} {w w':World} (h1:Inv B0 w0 I1 H1 L w) (h2:Inv B0 w0 I' H' L' w') (hx:Ext I1 L I' L') {r:AV} {v:Value} (hr:Rep I' L' r v)
  {r2:AV} {H2:List MB} (h:retPol pol f H1 r H' = some (r2,H2)):∃ I2 L2,Inv B0 w0 I2 H2 L2 w'∧Ext I1 L I2 L2∧Rep I2 L2 r2 v:=by
 have hn1:L.length=H1.length:=h1.len
 have hlen:H1.length≤H'.length:=by
  rcases Nat.lt_or_ge H'.length H1.length with g|g
  ·have hl:=List.getElem?_eq_getElem (l:=L) (i:=H'.length) (by omega)
   obtain⟨l',e,_⟩:=hx.lay _ _ hl
   have:=(List.getElem?_eq_some_iff.1 e).1
   rw[h2.len]at this;omega
  ·exact g
 have dropped:∀(J:Imm) (K:List MB),Inv B0 w0 J K L' w'→Grows I' J→K.length=H'.length→keptOk H1.length H1 K=true→Inv B0 w0 J (K.take H1.length) (L'.take H1.length) w'∧Ext I1 L J (L'.take H1.length):=by
  intro J K hJ hg hKl hk
  have hxJ:Ext I1 L J L':=hx.trans (hg.ext L')
  refine⟨hJ.drop (by omega) (fun id k els z l hid hm hl i j x y g1 g2 g3=>?_) (fun id q es hid hm=>?_),hxJ.imm,fun id l hl=>?_⟩
  ·have hid1:id < H1.length:=hid
   have hm1:=List.getElem?_eq_getElem hid1
   rcases keptOk_spec _ _ _ id _ _ hk hm1 hm with g|g
   ·have hl1:=List.getElem?_eq_getElem (l:=L) (i:=id) (by omega)
    have hb1:=h1.blk id _ _ hm1 hl1
    rw[← g]at hb1
    obtain⟨l',e,ek,et,es⟩:=hxJ.lay id _ hl1
    rw[hl]at e;obtain rfl:=Option.some.inj e
    have hbJ:=hJ.blk id _ _ hm hl
    have hll:=es (by rw[hbJ.ht,hb1.ht])
    obtain⟨cs,T,f1,f2,f3,f4⟩:=BlkOk.blk hb1 (hb1.pos g1 g2 (by rw[← hll];exact g3))
    obtain⟨v0,_,_,e3⟩:=f3 i j x y g1 g2 (by rw[← hll];exact g3)
    have:=e3.under
    rwa [hn1]at this
   ·simp only[MB.under]at g
    rw[underL_iff]at g
    exact(under_cells _ x).1 (g x (List.mem_of_getElem? g1)) y (List.mem_of_getElem? g2)
  ·have hm1:=List.getElem?_eq_getElem hid
   rcases keptOk_spec _ _ _ id _ _ hk hm1 hm with g|g
   ·have hl1:=List.getElem?_eq_getElem (l:=L) (i:=id) (by omega)
    have hb1:=h1.blk id _ _ hm1 hl1
    rw[← g]at hb1
    have:=MapOk.under hb1
    rwa [hn1]at this
   ·simpa only[MB.under] using g
  ·obtain⟨l',e,ek,et,es⟩:=hxJ.lay id l hl
   refine⟨l',?_,ek,et,es⟩
   rw[List.getElem?_take,if_pos (by rw[← hn1];exact(List.getElem?_eq_some_iff.1 hl).1)];exact e
 have freeze:∀ {r':AV} {K:List MB},fz r H' = some (r',K)→AV.under H1.length r' = true→keptOk H1.length H1 K=true→∃ I2 L2,Inv B0 w0 I2 (K.take H1.length) L2 w'∧Ext I1 L I2 L2∧Rep I2 L2 r' v:=by
  intro r' K hfz hu hk
  obtain⟨J,j1,j2,j3,_⟩:=fz_sound h2 hfz
  have hKl:K.length=H'.length:=by rw[← j1.len,h2.len]
  obtain⟨d1,d2⟩:=dropped J K j1 j2 hKl hk
  exact⟨J,_,d1,d2,(j3 J (.refl J) v (hr.mono (j2.ext L'))).restrict hu⟩
 unfold retPol at h
 split at h
 ·simp at h;obtain⟨rfl,rfl⟩:=h
  exact⟨I',L',h2,hx,hr⟩
 ·split at h
  ·rename_i id k tot off len hq
   have hrr:r=.ms id k tot off len:=by
    split at hq
    ·exact hq
    ·cases hq
   subst hrr
   split at h
   ·rename_i k' els z hrow
    split at h
    ·rename_i hc
     obtain⟨c1,c2,c3,c4⟩:=hc
     subst c3
     split at h
     ·rename_i xs K hfz
      split at h
      ·rename_i k'' els'' z' hrow'
       split at h
       ·rename_i hd
        obtain⟨d1,d2,d3,d4⟩:=hd
        simp at h;obtain⟨rfl,rfl⟩:=h
        obtain⟨J,j1,j2,j3⟩:=fzs_sound h2 hfz
        have hKl:K.length=H'.length:=by rw[← j1.len,h2.len]
        obtain⟨q1,q2⟩:=dropped J K j1 j2 hKl d2
        obtain⟨l,hl,hb⟩:=h2.row hrow
        obtain⟨l2,hl2,hb2⟩:=j1.row hrow'
        rw[hl]at hl2;obtain rfl:=Option.some.inj hl2
        have hkk:k'' = k':=by rw[← hb2.hk,hb.hk]
        subst hkk
        have ln0:(L'.take H1.length).length=H1.length:=by simp[h2.len];omega
        have hTl0:(K.take H1.length).length=H1.length:=by simp;omega
        cases hr with
        | msn _ _ l3 hL hk2=>
          have hx0:xs=[]:=List.length_eq_zero_iff.1 d3
          subst hx0
          obtain⟨p1,p2⟩:=q1.phantom k'' 0
          have hz0:z' = 0:=by omega
          subst hz0
          refine⟨J,_,by simpa using p1,q2.trans p2,?_⟩
          have:=Rep.msn (I:=J) (L:=L'.take H1.length++[⟨k'',0,0,0,0,0⟩]) H1.length k'' ⟨k'',0,0,0,0,0⟩ (by rw[List.getElem?_append_right (by omega),ln0,Nat.sub_self];rfl) rfl
          exact this
        | ms _ _ _ _ _ l3 b o c hL ht hk2 hl3 hlc hv=>
          rw[hl]at hL;obtain rfl:=Option.some.inj hL
          obtain⟨v1,v2,v3,v4,v5⟩:=hv (by rw[hb.ht];exact c2.symm)
          subst v2
          have hsub:((els.drop off).take len).length=len:=by simp;omega
          have hoff:∀ i,off≤i→(i - l.sh) * k'' = (off - l.sh) * k'' + (i - off) * k'':=by
           intro i h
           rw[← Nat.add_mul];congr 1;omega
          have ln:(L'.take H1.length).length=H1.length:=by simp[h2.len];omega
          have hTl:(K.take H1.length).length=H1.length:=by simp;omega
          have hfitc:l.o+(off - l.sh) * k'' + len * k''≤l.n:=by
           have:(off - l.sh+c) * k'' = (off - l.sh) * k'' + c * k'':=Nat.add_mul _ _ _
           have:len * k''≤c * k'':=Nat.mul_le_mul_right k'' hlc
           omega
          let ln':Lay:=⟨k'',len,l.b,l.n,l.o+(off - l.sh) * k'',0⟩
          have hxx:Ext J (L'.take H1.length) J (L'.take H1.length++[ln']):=ext_push _ _ _
          have hbne:∀(i:Nat) (li:Lay),(L'.take H1.length)[i]?=some li→li.n≠0→l.n≠0→li.b≠l.b:=by
           intro i li hli hn1 hn2 e
           rw[List.getElem?_take]at hli
           split at hli
           ·rename_i hlt
            have:=h2.inj i id li l hli hl hn1 hn2 e
            omega
           ·simp at hli
          refine⟨J,L'.take H1.length++[ln'],⟨q1.below,q1.base,by simp[ln,hTl],fun i m li hm hli=>?_,fun i j li lj g1 g2 n1 n2 g3=>?_,q1.imm,q1.old⟩,q2.trans hxx,?_⟩
          ·by_cases hi:i < H1.length
           ·rw[List.getElem?_append_left (by omega)]at hm hli
            exact MbOk.mono hxx (fun _ _=>rfl) (q1.blk i m li hm hli)
           ·have hie:i=H1.length:=by
             have:=(List.getElem?_eq_some_iff.1 hli).1
             simp at this
             have h3:=h2.len
             omega
            subst hie
            rw[List.getElem?_append_right (by omega),hTl,Nat.sub_self]at hm
            rw[List.getElem?_append_right (by omega),ln,Nat.sub_self]at hli
            simp at hm hli
            subst hm;subst hli
            refine⟨rfl,d3.symm,Nat.zero_le _,by omega,hb.hB,fun x hx=>?_,by show l.o+(off - l.sh) * k'' + (xs.length - 0) * k''≤l.n;rw[Nat.sub_zero,d3];exact hfitc,fun hn=>?_,fun hn q g=>?_⟩
            ·obtain⟨i,hi⟩:=List.getElem?_of_mem hx
             obtain⟨x0,e1,_,e2⟩:=j3.get hi
             rw[e2.1]
             exact hb.wid x0 (List.mem_of_mem_drop (List.mem_of_mem_take (List.mem_of_getElem? e1)))
            ·obtain⟨cs,T,f1,f2,f3,f4⟩:=hb.blk hn
             obtain⟨cs2,T2,f12,f22,f32,f42⟩:=hb2.blk hn
             rw[f1]at f12;simp at f12;obtain⟨rfl,rfl⟩:=f12
             refine⟨cs,T,f1,f2,fun i j x y g1 g2 _=>?_,fun q g1 g2=>?_⟩
             ·obtain⟨x0,e1,_,e2⟩:=j3.get g1
              have hj:j < x0.cells.length:=by rw[← e2.1];exact(List.getElem?_eq_some_iff.1 g2).1
              have hx0:els[off+i]?=some x0:=by
               rw[List.getElem?_take]at e1
               split at e1
               ·rw[List.getElem?_drop]at e1;exact e1
               ·simp at e1
              obtain⟨u,u1,u2,u3⟩:=f3 (off+i) j x0 _ hx0 (List.getElem?_eq_getElem hj) (by omega)
              refine⟨u,?_,u2,?_⟩
              ·rw[← u1,hoff (off+i) (by omega)]
               have:off+i - off=i:=by omega
               rw[this]
               show cs[l.o+(off - l.sh) * k'' + (i - 0) * k'' + j]?=_
               rw[Nat.sub_zero]
               congr 1;omega
              ·have hu:=(under_cells H1.length x).1 ((underL_iff _ _).1 d1 x (List.mem_of_getElem? g1)) y (List.mem_of_getElem? g2)
               exact(((e2.2 j _ y (List.getElem?_eq_getElem hj) g2) J (.refl J) u (u3.mono (j2.ext L'))).restrict hu).mono hxx
             ·have g1:l.o+(off - l.sh) * k''≤q:=g1
              have g2:q < l.o+(off - l.sh) * k'' + (z' - off - 0) * k'':=g2
              show J l.b q=_
              by_cases hz:off≤z'
              ·refine f42 q (by omega) ?_
               rw[hoff z' hz]
               rw[Nat.sub_zero]at g2
               omega
              ·have:z' - off - 0=0:=by omega
               rw[this]at g2;omega
            ·have g:l.o+(off - l.sh) * k'' + (z' - off - 0) * k''≤q:=g
             show J l.b q=none
             refine hb2.free hn q ?_
             by_cases hz:off≤z'
             ·rw[hoff z' hz]
              rw[Nat.sub_zero]at g
              omega
             ·have:(z' - l.sh) * k''≤(off - l.sh) * k'':=Nat.mul_le_mul_right k'' (by omega)
              omega
          ·have hcase:∀(i:Nat) (li:Lay),(L'.take H1.length++[ln'])[i]?=some li→(i < H1.length∧(L'.take H1.length)[i]?=some li)∨(i=H1.length∧li=ln'):=by
            intro i li hli
            by_cases hi:i < H1.length
            ·rw[List.getElem?_append_left (by omega)]at hli
             exact .inl ⟨hi,hli⟩
            ·rw[List.getElem?_append_right (by omega),ln]at hli
             have h4:=(List.getElem?_eq_some_iff.1 hli).1
             simp at h4
             have hie:i - H1.length=0:=by omega
             rw[hie]at hli
             simp at hli
             exact .inr ⟨by omega,hli.symm⟩
           rcases hcase i li g1 with ⟨a1,a2⟩|⟨a1,a2⟩
           ·rcases hcase j lj g2 with ⟨b1,b2⟩|⟨b1,b2⟩
            ·exact q1.inj i j li lj a2 b2 n1 n2 g3
            ·subst b2
             exact absurd g3 (hbne i li a2 n1 n2)
           ·rcases hcase j lj g2 with ⟨b1,b2⟩|⟨b1,b2⟩
            ·subst a2
             exact absurd g3.symm (hbne j lj b2 n2 n1)
            ·omega
          ·refine .ms H1.length k'' len 0 len ln' l.b o c (by rw[List.getElem?_append_right (by omega),ln,Nat.sub_self];rfl) (Nat.le_refl _) rfl (by omega) hlc (fun _=>⟨Nat.le_refl _,rfl,fun h0=>?_,by omega,?_⟩)
           ·show o=l.o+(off - l.sh) * k'' + (0 - 0) * k''
            rw[v3 h0];simp
           ·show l.o+(off - l.sh) * k'' + (0 - 0+c) * k''≤l.n
            have:(off - l.sh+c) * k'' = (off - l.sh) * k'' + c * k'':=Nat.add_mul _ _ _
            simp only[Nat.sub_self,Nat.zero_add]
            omega
       ·simp at h
      ·simp at h
     ·simp at h
    ·simp at h
   ·simp at h
  ·split at h
   ·rename_i r' K hfz
    split at h
    ·rename_i hc
     simp at h;obtain⟨rfl,rfl⟩:=h
     exact freeze hfz hc.1 hc.2
    ·simp at h
   ·simp at h
theorem mskOf_le {k:Nat→Option (List Nat)} {g:Nat→Option Nat} {ac:Nat→List SA} {n l:Nat} (hl:l=n) (i:Nat):∀ q,(mskOf k g ac n i).gc=some q→l≤q:=by
 intro q h
 unfold mskOf at h
 split at h
 ·simp at h
 ·split at h
  ·simp at h;omega
  ·simp at h
theorem evBody_sound (hext:ExtOk P pol) (hcf:CfOk P cf) (hit:ItOk it) (hm:P.follows .mixedOrders=true):CfOk P (evBody P pol cf it):=by
 intro f args H r H' h
 unfold evBody at h
 split at h
 ·rename_i g hg
  exact hext f g hg args H r H' h
 ·split at h
  ·simp at h
  ·rename_i fn hfn
   split at h
   ·simp at h
   ·rename_i c hc
    split at h
    ·simp at h
    ·rename_i hname
     split at h
     ·simp at h
     ·rename_i as H1 hfrz
      have hrest:∃ e s vs,(e=.norm∨e=.ret)∧evCode P cf it (pol.muts f) (cfgOf pol f H1.length) c { n:=as.length+(fn.ntmps - as.length),t:=initT 0 as [],h:=H1 } = some (e,s) ∧
        evResults P s fn.results.toList=some vs∧retPol pol f H1 (packRes vs) s.h=some (r,H'):=by
       split at h
       ·rename_i s hev
        split at h
        ·rename_i vs hvs;exact⟨_,s,vs,.inl rfl,hev,hvs,h⟩
        ·simp at h
       ·rename_i s hev
        split at h
        ·rename_i vs hvs;exact⟨_,s,vs,.inr rfl,hev,hvs,h⟩
        ·simp at h
       ·simp at h
      obtain⟨e,s,vs,he,hev,hvs,hret⟩:=hrest
      refine⟨fun us w=>?_,fun B0 w0 w I L us hi hus=>?_⟩
      ·unfold callFunc
       simp only[Sem.run_bind,run_program,Result.andThen_ok,hfn]
       rw[if_neg (by simpa using hname),if_neg (by simp[hc])]
       rfl
      ·obtain⟨I1,a1,a2,a3,a4⟩:=frzArgs_sound (pol:=pol) f args 0 hi hfrz
       refine calls_of_wp hfn hc ?_
       have hs0:StOk B0 w0 I1 L { n:=as.length+(fn.ntmps - as.length),t:=initT 0 as [],h:=H1 } { tmps:=us++Array.replicate (fn.ntmps - us.size) undef,defers:=[] } w:=by
        have hsz:us.size=as.length:=by rw[hus.1,a3]
        refine⟨I1,L,a1,.refl I1 L,rfl,?_⟩
        refine initT_ok as 0 [] (fun i y hy=>?_) (fun q hq=>by cases hq) ⟨by simp[hsz],List.Pairwise.nil,fun q hq=>by cases hq⟩
        have hlt:=(List.getElem?_eq_some_iff.1 hy).1
        refine⟨by show 0+i < as.length+(fn.ntmps - as.length);omega,?_⟩
        have hxl:i < args.length:=by omega
        have:=hus.2 i _ (List.getElem?_eq_getElem hxl)
        have h3:=a4 i _ y (List.getElem?_eq_getElem hxl) hy I1 (.refl I1) _ (this.mono (a2.ext L))
        have e1:(us++Array.replicate (fn.ntmps - us.size) undef).getD (0+i) undef=us.getD i undef:=by
         have hlt2:i < us.size:=by omega
         rw[Nat.zero_add]
         simp only[Array.getD_eq_getD_getElem?,Array.getElem?_append_left hlt2]
        rw[e1];exact h3
       refine wp_mono (evCode_sound (mskOf_le a1.len) hcf hit hm c hev hs0) (fun e1 a' w' hp=>?_)
       have fin:StOk B0 w0 I1 L s a' w'→bodyPost P fn (fun e w'=>∃ v I' L',e=.returned v∧Inv B0 w0 I' H' L' w'∧Ext I L I' L'∧Rep I' L' r v) .ret a' w':=by
        rintro⟨I2,L2,b1,b2,b3,b4⟩
        obtain⟨v,g1,g2⟩:=results_sound (fn:=fn) b1 b4 hvs
        obtain⟨I3,L3,c1,c2,c3⟩:=retPol_sound (pol:=pol) a1 b1 b2 g2 hret
        exact⟨b3,v,g1,v,I3,L3,rfl,c1,(a2.ext L).trans c2,c3⟩
       cases e1 with
       | normal=>exact fin hp.2
       | ret=>exact fin hp.2
       | exit id=>
         rcases he with h|h
         ·rw[h]at hp;exact absurd hp.1 (by simp)
         ·rw[h]at hp;exact absurd hp.1 (by simp)
       | goto l=>exact hp.elim
       | panic c=>exact hp.elim
       | outgrown=>exact hp.elim
end Go.Ev
namespace Go.Ev
open Go.RowKit
variable {P:Program} {pol:Pol} {cf:CF} {it:It} {B0:Nat} {w0:Base} {w w':World} {I I':Imm} {H:List MB} {L:List Lay}
theorem evStep_sound (hext:ExtOk P pol) (hcf:CfOk P cf) (hit:ItOk it) (hm:P.follows .mixedOrders=true):CfOk P (evStep P pol cf it):=by
 have hb:=evBody_sound hext hcf hit hm
 intro f args H r H' h
 unfold evStep at h
 split at h
 ·split at h
  ·rename_i as H1 hz
   split at h
   ·rename_i hu
    cases hq:evBody P pol cf it f as [] with
    | none=>rw[hq]at h;simp[rebase]at h
    | some q=>
      obtain⟨r0,K⟩:=q
      rw[hq]at h
      have hs:=frame_sound hu (hb f as [] r0 K hq) h
      refine⟨hs.1,fun B0 w0 w I L us hi hus=>?_⟩
      obtain⟨I1,a1,a2,a3,a4⟩:=frzArgs_sound (pol:=pol) f args 0 hi hz
      have hus1:RepL I1 L as us:=by
       refine⟨by rw[hus.1,a3],fun i y hy=>?_⟩
       have hlt:i < args.length:=by
        have:=(List.getElem?_eq_some_iff.1 hy).1;omega
       exact a4 i _ y (List.getElem?_eq_getElem hlt) hy I1 (.refl I1) _ ((hus.2 i _ (List.getElem?_eq_getElem hlt)).mono (a2.ext L))
      refine(hs.2 B0 w0 w I1 L us a1 hus1).mono ?_
      rintro e w' ⟨v,I',L',e1,e2,e3,e4⟩
      exact⟨v,I',L',e1,e2,(a2.ext L).trans e3,e4⟩
   ·simp at h
  ·simp at h
 ·exact hb f args H r H' h
end Go.Ev
