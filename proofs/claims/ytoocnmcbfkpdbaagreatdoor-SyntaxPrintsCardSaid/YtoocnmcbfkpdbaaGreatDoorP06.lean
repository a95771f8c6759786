/- Regions. -/
import Derived.Test.YtoocnmcbfkpdbaaGreatDoorP05
import Derived.LoopNIn
import Derived.Scope
set_option linter.unusedVariables false
set_option linter.unusedSimpArgs false
open List (all_eq_true any_eq_true filterMap_cons getElem?_take map_cons mem_append mem_cons mem_cons_of_mem mem_cons_self mem_map mem_of_getElem? mem_range pairwise_append pairwise_cons pairwise_map)
open Bool (and_eq_true or_eq_true)
open Nat (le_refl lt_or_ge)
open Array (getD_eq_getD_getElem? getElem?_eq_getElem getElem?_eq_none)
namespace Go.Ev
variable [VarTab]
set_option linter.unusedSectionVars false
open Go.RowKit
variable {ro:Option Nat}{P:Program}{cf:CF}{mu:List Nat}{ops:Array Oper}{B0:Nat}{w0:Base}{w:World}{I0:Imm}{L0:List Lay}
def Free (ops:Array Oper) (x i:Nat×Option FP):Prop:=
 (∀ p q,ops[x.1]?=some p->ops[i.1]?=some q->p.apart ops q=true)/\apartO x.2 i.2=true
theorem Run.front {i:Nat×Option FP}{B:List (Nat×Option FP)}:∀(A:List (Nat×Option FP)) {s s':St},Run P cf mu ops (A++i::B) s s'->(∀ x∈A,Free ops x i)->Run P cf mu ops (i::(A++B)) s s'
 | [],s,s',h,_=>h
 | x::A,s,s',h,hf=>by
   cases h with
   | cons ho hw h1 hfp hr=>
     have h2:=Run.front A hr (fun y hy=>hf y (mem_cons_of_mem _ hy));have h3:=hf _ (mem_cons_self ..);exact(Run.cons ho hw h1 hfp h2).swap h3.1 h3.2
theorem EN:∀(l:List Oper) (i:Nat) {s s':St}{fl:List (Nat×FP)},(∀ j,l[j]?=ops[i+j]?)->evOpsD P cf mu ops.toList i l s=some (fl,s') ->
  ∃ rem,Run P cf mu ops rem s s'/\rem.map (·.1)=List.range' i l.length/\fl=rem.filterMap (fun p=>p.2.map fun q=>(p.1,q))
 | [],i,s,s',fl,_,h=>by
   simp[evOpsD]at h;obtain⟨rfl,rfl⟩:=h;exact⟨[],.nil s,rfl,rfl⟩
 | o::l,i,s,s',fl,hl,h=>by
   simp only[evOpsD]at h;split at h
   ·rename_i b hw;split at h
    ·rename_i s1 h1;split at h
     ·rename_i fl' s2 h2;simp only[Option.some.injEq,Prod.mk.injEq]at h;obtain⟨e1,rfl⟩:=h;have ho:ops[i]?=some o:=by have:=hl 0;simpa using this.symm
      obtain⟨rem,r1,r2,r3⟩:=EN l (i+1) (fun j=>by have:=hl (j+1);simpa [Nat.add_assoc,Nat.add_comm 1 j] using this) h2;refine⟨(i,fpOf mu s.ev o b s.h s1.h)::rem,.cons ho hw h1 rfl r1,by simp[r2,List.range'_succ],?_⟩;rw[<- e1];unfold fpOf;cases hq:(if b=true then footprint mu s.ev o s.h s1.h else none) with
      | none=>simp[r3]
      | some p=>simp[r3]
     ·simp at h
    ·simp at h
   ·simp at h
theorem ET:∀(rem:List (Nat×Option FP)),pairsOk ops (rem.filterMap (fun p=>p.2.map fun q=>(p.1,q)))=true ->
  rem.Pairwise (fun x i=>dEdgeT ops ops.size i.1 x.1=true∨apartO x.2 i.2=true)
 | [],_=>.nil
 | (i,f)::rem,h=>by
   cases f with
   | none=>
     simp only[filterMap_cons,Option.map_none]at h;refine .cons (fun y _=>.inr rfl) (ET rem h)
   | some p=>
     simp only[filterMap_cons,Option.map_some,pairsOk,and_eq_true]at h;refine .cons (fun y hy=>?_) (ET rem h.2);obtain⟨j,g⟩:=y;cases g with
     | none=>exact .inr rfl
     | some q=>
       have:=all_eq_true.1 h.1 (j,q) (List.mem_filterMap.2 ⟨(j,some q),hy,rfl⟩);simp only[or_eq_true]at this;exact this
theorem B9 (h:drawOk ops=true) :
  (∀ i o e,ops[i]?=some o->e∈o.after->Region.binds .any e=true->e.on<i) /\
  (∀ i x,i<ops.size->x<i->dEdge ops i x=true∨∀ p q,ops[x]?=some p->ops[i]?=some q->p.apart ops q=true):=by
 simp only[drawOk,and_eq_true]at h;obtain⟨h1,h2⟩:=h;constructor
 ·intro i o e ho he hb;have hi:i<ops.size:=(Array.getElem?_eq_some_iff.1 ho).1;have:=all_eq_true.1 h1 i (mem_range.2 hi);simp only[ho]at this;have:=all_eq_true.1 this e (by simpa using he)
  simpa [hb] using this
 ·intro i x hi hx;have:=all_eq_true.1 h2 i (mem_range.2 hi);have:=all_eq_true.1 this x (mem_range.2 hx);simp only[or_eq_true]at this;rcases this with h|h
  ·exact .inl h
  ·refine .inr fun p q hp hq=>?_;simp only[hp,hq]at h;exact h
theorem Ez {p q:Oper} (h:p.apart ops q=true):q.apart ops p=true:=by
 obtain⟨h1,h2,h3⟩:=Oper.apart_spec h;unfold Oper.apart;cases hq:q.dst with
 | none=>
   cases hp:p.dst with
   | none=>rfl
   | some d=>
     have a:=h1 d hp;simp[a]
 | some e=>
   have b:=h3 e hq;cases hp:p.dst with
   | none=>simp[b]
   | some d=>
     have a:=h1 d hp;have c:d≠e:=fun e'=>h2 d hp (by rw[hq,e']);simp[a,b,c]
theorem Ci (hd:drawOk ops=true) {R:List Nat} (hR:∀ j∈R,j<ops.size) (hcl:∀ j y,j<ops.size->j ∉ R->dEdge ops j y=true->y ∉ R) :
  ∀(n i x:Nat),(∀ y,dEdge ops i y=true->y ∉ R)->dEdgeT ops n i x=true->x ∉ R
 | 0,i,x,_,h=>by simp[dEdgeT]at h
 | n+1,i,x,hi,h=>by
   simp only[dEdgeT,or_eq_true,any_eq_true,mem_range,and_eq_true]at h;rcases h with h|⟨y,hy,h1,h2⟩
   ·exact hi x h
   ·exact Ci hd hR hcl n y x (fun z hz=>hcl y z hy (hi y h1) hz) h2
theorem Cu (hcf:CfOk P cf) (hd:drawOk ops=true) {Q:Exit->Act->World->Prop}{s':St} (hQ:∀ a w,StOk B0 w0 I0 L0 s' a w->Q .normal a w) :
  ∀(fuel:Nat) (rem:List (Nat×Option FP)) (listed:Array Bool) (s:St) (a:Act) (w:World),Run P cf mu ops rem s s'->StOk B0 w0 I0 L0 s a w ->
   rem.Pairwise (fun x i=>x.1≠i.1/\dEdge ops x.1 i.1=false)->(∀ j,listed.getD j true=false↔j∈rem.map (·.1))->listed.size=ops.size->rem.length<=fuel ->
   (∀ j y,j<ops.size->j ∉ rem.map (·.1)->dEdge ops j y=true->y ∉ rem.map (·.1)) ->
   rem.Pairwise (fun x i=>dEdgeT ops ops.size i.1 x.1=true∨apartO x.2 i.2=true)->wpAnyIn (wd ro) 0 P .any ops Q fuel listed a w:=by
 obtain⟨hd1,hd2⟩:=B9 hd;intro fuel
 induction fuel with
 | zero=>
   intro rem listed s a w hr hs hsort hl hsz hf hcl hp;have:rem=[]:=List.length_eq_zero_iff.1 (by omega);subst this;cases hr;refine⟨?_,hQ a w hs⟩;cases hrr:Region.ready .any ops listed with
   | nil=>rfl
   | cons x xs=>
     have hx:x∈Region.ready .any ops listed:=by rw[hrr];exact mem_cons_self ..
     rw[mem_ready]at hx;have:=(hl x).1 hx.1;simp at this
 | succ fuel ih=>
   intro rem listed s a w hr hs hsort hl hsz hf hcl hp;have hlt:∀ j,j∈rem.map (·.1)->j<ops.size:=by
    intro j hj;have:=(hl j).2 hj;rcases lt_or_ge j listed.size with g|g
    ·omega
    ·simp[getElem?_eq_none g]at this
   constructor
   ·intro hnil;cases rem with
    | nil=>cases hr;exact hQ a w hs
    | cons x rem=>
      exfalso;have hxm:x.1∈(x::rem).map (·.1):=by simp
      have hx:=hlt x.1 hxm;have:x.1∈Region.ready .any ops listed:=by
       rw[mem_ready];refine⟨(hl x.1).2 hxm,ops[x.1],by simp[hx],fun e he hb=>?_⟩;have h1:=hd1 x.1 _ e (getElem?_eq_getElem hx) he hb;have hde:dEdge ops x.1 e.on=true:=by
        simp only[dEdge,getElem?_eq_getElem hx];exact any_eq_true.2 ⟨e,by simpa using he,by simp[hb]⟩
       have h2:e.on ∉ (x::rem).map (·.1):=by
        intro hm;obtain⟨y,hy,hye⟩:=mem_map.1 hm;rcases mem_cons.1 hy with g|g
        ·subst g;omega
        ·have:=((pairwise_cons.1 hsort).1 y g).2;rw[hye,hde]at this;cases this
       have h3:¬ listed.getD e.on true=false:=fun h=>h2 ((hl e.on).1 h);have h4:e.on<listed.size:=by omega
       simp[getD_eq_getD_getElem?,h4]at h3 |-;exact h3
      rw[hnil]at this;simp at this
   ·intro i hi;have hi':=mem_ready.1 hi;have him:=(hl i).1 hi'.1;have hready:∀ y,dEdge ops i y=true->y ∉ rem.map (·.1):=by
     intro y hde hm;obtain⟨_,o,ho,hall⟩:=hi';simp only[dEdge,ho]at hde;obtain⟨e,he,hbe⟩:=any_eq_true.1 hde;simp only[and_eq_true,beq_iff_eq]at hbe;have h1:=hall e (by simpa using he) hbe.1;rw[hbe.2]at h1;have h2:=(hl y).2 hm;have h3:y<listed.size:=by
      have:=hlt y hm;omega
     simp[getD_eq_getD_getElem?,h3]at h1 h2;rw[h1]at h2;cases h2
    obtain⟨⟨i',f⟩,hmem,hie⟩:=mem_map.1 him;simp at hie;subst hie;obtain⟨A,B,rfl⟩:=List.append_of_mem hmem;have hilt:=hlt i' him;have hsort':=pairwise_append.1 hsort;have hp':=pairwise_append.1 hp;have hfree:∀ x∈A,Free ops x (i',f):=by
     intro x hx;have hxm:x.1∈(A++(i',f)::B).map (·.1):=mem_map.2 ⟨x,List.mem_append_left _ hx,rfl⟩;have hxlt:=hlt x.1 hxm;obtain⟨hne,hxd⟩:=hsort'.2.2 x hx (i',f) (mem_cons_self ..);have hne:x.1≠i':=hne;have h1:dEdge ops i' x.1=false:=by
      cases hde:dEdge ops i' x.1 with
      | false=>rfl
      | true=>exact absurd hxm (hready _ hde)
     refine⟨?_,?_⟩
     ·rcases Nat.lt_or_gt_of_ne hne with g|g
      ·rcases hd2 i' x.1 hilt g with g|g
       ·rw[h1]at g;cases g
       ·exact g
      ·rcases hd2 x.1 i' hxlt g with g|g
       ·rw[hxd]at g;cases g
       ·exact fun p q hp hq=>Ez (g q p hq hp)
     ·rcases hp'.2.2 x hx (i',f) (mem_cons_self ..) with g|g
      ·exact absurd hxm (Ci hd hlt hcl _ _ _ hready g)
      ·exact g
    have hr2:=Run.front A hr hfree;cases hr2 with
    | @cons _ o b _ _ s1 _ _ ho hw h1 hfp hrest=>
      have hnot:i' ∉ (A++B).map (·.1):=by
       intro hm;obtain⟨y,hy,hye⟩:=mem_map.1 hm;rcases mem_append.1 hy with g|g
       ·exact(hsort'.2.2 y g (i',f) (mem_cons_self ..)).1 hye
       ·exact((pairwise_cons.1 hsort'.2.1).1 y g).1 hye.symm
      have hmem2:∀ j,j∈(A++(i',f)::B).map (·.1)↔j=i'∨j∈(A++B).map (·.1):=by
       intro j;simp only[List.map_append,map_cons,mem_append,mem_cons];constructor
       ·rintro(g|g|g)
        ·exact .inr (.inl g)
        ·exact .inl g
        ·exact .inr (.inr g)
       ·rintro(g|g|g)
        ·exact .inr (.inl g)
        ·exact .inl g
        ·exact .inr (.inr g)
      have key:=B7 ro (P:=P) (Q:=Q) (K:=wpAnyIn (wd ro) 0 P .any ops Q fuel (listed.setIfInBounds i' true)) hcf h1 hs (fun a' w' hs'=>by
       refine ih (A++B) _ s1 a' w' hrest hs' ?_ ?_ (by simp[hsz]) (by simp at hf |-;omega) ?_ ?_
       ·exact pairwise_append.2 ⟨hsort'.1,(pairwise_cons.1 hsort'.2.1).2,fun x hx y hy=>hsort'.2.2 x hx y (mem_cons_of_mem _ hy)⟩
       ·intro j;by_cases e:i' = j
        ·subst e;have:(listed.setIfInBounds i' true).getD i' true=true:=by
          have:i'<listed.size:=by omega
          simp[getD_eq_getD_getElem?,this]
         rw[this];exact⟨fun h=>(by cases h),fun h=>absurd h hnot⟩
        ·rw[getD_set_ne true e,hl j,hmem2 j];exact⟨fun g=>g.elim (fun g=>absurd g.symm e) id,.inr⟩
       ·intro j y hj hjn hde;by_cases e:j=i'
        ·subst e;exact fun hm=>hready y hde ((hmem2 y).2 (.inr hm))
        ·exact fun hm=>hcl j y hj (fun g=>((hmem2 j).1 g).elim e hjn) hde ((hmem2 y).2 (.inr hm))
       ·exact pairwise_append.2 ⟨hp'.1,(pairwise_cons.1 hp'.2.1).2,fun x hx y hy=>hp'.2.2 x hx y (mem_cons_of_mem _ hy)⟩)
      unfold wpOpIn;simp only[ho];split
      ·rename_i hwn;rw[if_pos hwn]at key;exact key
      ·rename_i hwn;rw[if_neg hwn]at key;exact⟨CW,key⟩
theorem Fq (hcf:CfOk P cf) (hd:drawOk ops=true) {Q:Exit->Act->World->Prop}{s' s2':St} (hQ:∀ a w,StOk B0 w0 I0 L0 s' a w->Q .normal a w) (hQ2:∀ a w,StOk B0 w0 I0 L0 s2' a w->Q .normal a w) (p q:Nat) (hpq:p≠q) :
  ∀(fuel:Nat) (rem rem2:List (Nat×Option FP)) (listed:Array Bool) (s:St) (a:Act) (w:World),Run P cf mu ops rem s s'->Run P cf mu ops rem2 s s2'->StOk B0 w0 I0 L0 s a w ->
   rem.Pairwise (fun x i=>x.1≠i.1/\dEdge ops x.1 i.1=false)->rem2.Pairwise (fun x i=>x.1≠i.1/\dEdge ops x.1 i.1=false) ->
   (∀ j,listed.getD j true=false↔j∈rem.map (·.1))->(∀ j,j∈rem2.map (·.1)↔j∈rem.map (·.1))->listed.size=ops.size->rem.length<=fuel->rem2.length<=fuel ->
   (∀ j y,j<ops.size->j ∉ rem.map (·.1)->dEdge ops j y=true->y ∉ rem.map (·.1))->p∈rem.map (·.1)->q∈rem.map (·.1) ->
   rem.Pairwise (fun x i=>¬ (x.1=q/\i.1=p))->rem2.Pairwise (fun x i=>¬ (x.1=p/\i.1=q)) ->
   rem.Pairwise (fun x i=>dEdgeT ops ops.size i.1 x.1=true∨apartO x.2 i.2=true∨(x.1=p/\i.1=q))->rem2.Pairwise (fun x i=>dEdgeT ops ops.size i.1 x.1=true∨apartO x.2 i.2=true∨(x.1=q/\i.1=p)) ->
   wpAnyIn (wd ro) 0 P .any ops Q fuel listed a w:=by
 obtain⟨hd1,hd2⟩:=B9 hd;intro fuel
 induction fuel with
 | zero=>
   intro rem rem2 listed s a w hr hr2 hs hsort hsort2 hl hl2 hsz hf hf2 hcl hpm hqm ho ho2 hp hp2;have:rem=[]:=List.length_eq_zero_iff.1 (by omega);subst this;simp at hpm
 | succ fuel ih=>
   intro rem rem2 listed s a w hr hr2 hs hsort hsort2 hl hl2 hsz hf hf2 hcl hpm hqm ho ho2 hp hp2;have hlt:∀ j,j∈rem.map (·.1)->j<ops.size:=by
    intro j hj;have:=(hl j).2 hj;rcases lt_or_ge j listed.size with g|g
    ·omega
    ·simp[getElem?_eq_none g]at this
   have hlt2:∀ j,j∈rem2.map (·.1)->j<ops.size:=fun j hj=>hlt j ((hl2 j).1 hj);have hcl2:∀ j y,j<ops.size->j ∉ rem2.map (·.1)->dEdge ops j y=true->y ∉ rem2.map (·.1):=fun j y hj hjn hde hm=>hcl j y hj (fun g=>hjn ((hl2 j).2 g)) hde ((hl2 y).1 hm);constructor
   ·intro hnil;cases rem with
    | nil=>simp at hpm
    | cons x rem=>
      exfalso;have hxm:x.1∈(x::rem).map (·.1):=by simp
      have hx:=hlt x.1 hxm;have:x.1∈Region.ready .any ops listed:=by
       rw[mem_ready];refine⟨(hl x.1).2 hxm,ops[x.1],by simp[hx],fun e he hb=>?_⟩;have h1:=hd1 x.1 _ e (getElem?_eq_getElem hx) he hb;have hde:dEdge ops x.1 e.on=true:=by
        simp only[dEdge,getElem?_eq_getElem hx];exact any_eq_true.2 ⟨e,by simpa using he,by simp[hb]⟩
       have h2:e.on ∉ (x::rem).map (·.1):=by
        intro hm;obtain⟨y,hy,hye⟩:=mem_map.1 hm;rcases mem_cons.1 hy with g|g
        ·subst g;omega
        ·have:=((pairwise_cons.1 hsort).1 y g).2;rw[hye,hde]at this;cases this
       have h3:¬ listed.getD e.on true=false:=fun h=>h2 ((hl e.on).1 h);have h4:e.on<listed.size:=by omega
       simp[getD_eq_getD_getElem?,h4]at h3 |-;exact h3
      rw[hnil]at this;simp at this
   ·intro i hi;have hi':=mem_ready.1 hi;have him:=(hl i).1 hi'.1;have hready:∀ y,dEdge ops i y=true->y ∉ rem.map (·.1):=by
     intro y hde hm;obtain⟨_,o,ho,hall⟩:=hi';simp only[dEdge,ho]at hde;obtain⟨e,he,hbe⟩:=any_eq_true.1 hde;simp only[and_eq_true,beq_iff_eq]at hbe;have h1:=hall e (by simpa using he) hbe.1;rw[hbe.2]at h1;have h2:=(hl y).2 hm;have h3:y<listed.size:=by
      have:=hlt y hm;omega
     simp[getD_eq_getD_getElem?,h3]at h1 h2;rw[h1]at h2;cases h2
    have hready2:∀ y,dEdge ops i y=true->y ∉ rem2.map (·.1):=fun y h g=>hready y h ((hl2 y).1 g)
    have front:∀(sE:St) (R:List (Nat×Option FP)) (p q:Nat),Run P cf mu ops R s sE->(∀ j∈R.map (·.1),j<ops.size)->(∀ j y,j<ops.size->j ∉ R.map (·.1)->dEdge ops j y=true->y ∉ R.map (·.1))->i∈R.map (·.1) ->
      (∀ y,dEdge ops i y=true->y ∉ R.map (·.1))->R.Pairwise (fun x i=>x.1≠i.1/\dEdge ops x.1 i.1=false) ->
      R.Pairwise (fun x i=>dEdgeT ops ops.size i.1 x.1=true∨apartO x.2 i.2=true∨(x.1=p/\i.1=q))->(i=q->p ∉ R.map (·.1)∨R.Pairwise (fun x i=>¬ (x.1=p/\i.1=q))) ->
      ∃ A B f,R=A++(i,f)::B/\Run P cf mu ops ((i,f)::(A++B)) s sE:=by
     intro sE R p q hr hlt hcl him hready hsort hp hno;obtain⟨⟨i',f⟩,hmem,hie⟩:=mem_map.1 him;simp at hie;subst hie;obtain⟨A,B,rfl⟩:=List.append_of_mem hmem;have hilt:=hlt i' him;have hsort':=pairwise_append.1 hsort;have hp':=pairwise_append.1 hp;refine⟨A,B,f,rfl,Run.front A hr fun x hx=>?_⟩;have hxm:x.1∈(A++(i',f)::B).map (·.1):=mem_map.2 ⟨x,List.mem_append_left _ hx,rfl⟩;have hxlt:=hlt x.1 hxm;obtain⟨hne,hxd⟩:=hsort'.2.2 x hx (i',f) (mem_cons_self ..);have hne:x.1≠i':=hne;have h1:dEdge ops i' x.1=false:=by
      cases hde:dEdge ops i' x.1 with
      | false=>rfl
      | true=>exact absurd hxm (hready _ hde)
     refine⟨?_,?_⟩
     ·rcases Nat.lt_or_gt_of_ne hne with g|g
      ·rcases hd2 i' x.1 hilt g with g|g
       ·rw[h1]at g;cases g
       ·exact g
      ·rcases hd2 x.1 i' hxlt g with g|g
       ·rw[hxd]at g;cases g
       ·exact fun p q hp hq=>Ez (g q p hq hp)
     ·rcases hp'.2.2 x hx (i',f) (mem_cons_self ..) with g|g|g
      ·exact absurd hxm (Ci hd hlt hcl _ _ _ hready g)
      ·exact g
      ·obtain⟨g1,g2⟩:=g;rcases hno g2 with h|h
       ·exact absurd (g1 ▸ hxm) h
       ·exact absurd ⟨g1,g2⟩ ((pairwise_append.1 h).2.2 x hx (i',f) (mem_cons_self ..))
    have memAB:∀(A B:List (Nat×Option FP)) (f:Option FP) (j:Nat),j∈(A++(i,f)::B).map (·.1)↔j=i∨j∈(A++B).map (·.1):=by
     intro A B f j;simp only[List.map_append,map_cons,mem_append,mem_cons];constructor
     ·rintro(g|g|g)
      ·exact .inr (.inl g)
      ·exact .inl g
      ·exact .inr (.inr g)
     ·rintro(g|g|g)
      ·exact .inr (.inl g)
      ·exact .inl g
      ·exact .inr (.inr g)
    have dropP:∀ {r:Nat×Option FP->Nat×Option FP->Prop} (A B:List (Nat×Option FP)) (f:Option FP),(A++(i,f)::B).Pairwise r->(A++B).Pairwise r:=by
     intro r A B f h;have h':=pairwise_append.1 h;exact pairwise_append.2 ⟨h'.1,(pairwise_cons.1 h'.2.1).2,fun x hx y hy=>h'.2.2 x hx y (mem_cons_of_mem _ hy)⟩
    have notAB:∀(A B:List (Nat×Option FP)) (f:Option FP),(A++(i,f)::B).Pairwise (fun x i=>x.1≠i.1/\dEdge ops x.1 i.1=false)->i ∉ (A++B).map (·.1):=by
     intro A B f h hm;have h':=pairwise_append.1 h;obtain⟨y,hy,hye⟩:=mem_map.1 hm;rcases mem_append.1 hy with g|g
     ·exact(h'.2.2 y g (i,f) (mem_cons_self ..)).1 hye
     ·exact((pairwise_cons.1 h'.2.1).1 y g).1 hye.symm
    have ilt:=hlt i him;have listedAB:∀(A B:List (Nat×Option FP)) (f:Option FP),(∀ j,listed.getD j true=false↔j∈(A++(i,f)::B).map (·.1))->i ∉ (A++B).map (·.1)->∀ j,(listed.setIfInBounds i true).getD j true=false↔j∈(A++B).map (·.1):=by
     intro A B f hl hnot j;by_cases e:i=j
     ·subst e;have:(listed.setIfInBounds i true).getD i true=true:=by
       have:i<listed.size:=by omega
       simp[getD_eq_getD_getElem?,this]
      rw[this];exact⟨fun h=>(by cases h),fun h=>absurd h hnot⟩
     ·rw[getD_set_ne true e,hl j,memAB A B f j];exact⟨fun g=>g.elim (fun g=>absurd g.symm e) id,.inr⟩
    have clAB:∀(A B:List (Nat×Option FP)) (f:Option FP),(∀ y,dEdge ops i y=true->y ∉ (A++(i,f)::B).map (·.1))->(∀ j y,j<ops.size->j ∉ (A++(i,f)::B).map (·.1)->dEdge ops j y=true->y ∉ (A++(i,f)::B).map (·.1)) ->
      ∀ j y,j<ops.size->j ∉ (A++B).map (·.1)->dEdge ops j y=true->y ∉ (A++B).map (·.1):=by
     intro A B f hready hcl j y hj hjn hde;by_cases e:j=i
     ·subst e;exact fun hm=>hready y hde ((memAB A B f y).2 (.inr hm))
     ·exact fun hm=>hcl j y hj (fun g=>((memAB A B f j).1 g).elim e hjn) hde ((memAB A B f y).2 (.inr hm))
    have alone:∀(sE:St) (hQE:∀ a w,StOk B0 w0 I0 L0 sE a w->Q .normal a w) (R:List (Nat×Option FP)) (p q:Nat),Run P cf mu ops R s sE->(∀ j,listed.getD j true=false↔j∈R.map (·.1))->R.length<=fuel+1->(∀ j y,j<ops.size->j ∉ R.map (·.1)->dEdge ops j y=true->y ∉ R.map (·.1)) ->
      (∀ y,dEdge ops i y=true->y ∉ R.map (·.1))->R.Pairwise (fun x i=>x.1≠i.1/\dEdge ops x.1 i.1=false) ->
      R.Pairwise (fun x i=>dEdgeT ops ops.size i.1 x.1=true∨apartO x.2 i.2=true∨(x.1=p/\i.1=q))->i=p->p≠q ->
      wpOpIn (wd ro) 0 P ops Q i (wpAnyIn (wd ro) 0 P .any ops Q fuel (listed.setIfInBounds i true)) a w:=by
     intro sE hQE R p q hr hl hf hcl hready hsort hp hip hpq;have him:=(hl i).1 hi'.1;have hlt:∀ j,j∈R.map (·.1)->j<ops.size:=by
      intro j hj;have:=(hl j).2 hj;rcases lt_or_ge j listed.size with g|g
      ·omega
      ·simp[getElem?_eq_none g]at this
     obtain⟨A,B,f,rfl,hr2⟩:=front sE R p q hr hlt hcl him hready hsort hp (fun h=>absurd (hip.symm.trans h) hpq);have hnot:=notAB A B f hsort;cases hr2 with
     | @cons _ o b _ _ s1 _ _ ho hw h1 hfp hrest=>
       have key:=B7 ro (P:=P) (Q:=Q) (K:=wpAnyIn (wd ro) 0 P .any ops Q fuel (listed.setIfInBounds i true)) hcf h1 hs (fun a' w' hs'=>by
        refine Cu hcf hd hQE fuel (A++B) _ s1 a' w' hrest hs' (dropP A B f hsort) (listedAB A B f hl hnot) (by simp[hsz]) (by simp at hf |-;omega) (clAB A B f hready hcl) ?_;refine(dropP A B f hp).imp_of_mem (fun {x y} hx hy h=>?_);rcases h with h|h|h
        ·exact .inl h
        ·exact .inr h
        ·exact absurd (mem_map.2 ⟨x,hx,h.1.trans hip.symm⟩) hnot)
       unfold wpOpIn;simp only[ho];split
       ·rename_i hwn;rw[if_pos hwn]at key;exact key
       ·rename_i hwn;rw[if_neg hwn]at key;exact⟨CW,key⟩
    by_cases hip:i=p
    ·exact alone s' hQ rem p q hr hl hf hcl hready hsort hp hip hpq
    by_cases hiq:i=q
    ·exact alone s2' hQ2 rem2 q p hr2 (fun j=>(hl j).trans (hl2 j).symm) hf2 hcl2 hready2 hsort2 hp2 hiq (Ne.symm hpq)
    obtain⟨A,B,f,rfl,hra⟩:=front s' rem p q hr hlt hcl him hready hsort hp (fun h=>absurd h hiq);obtain⟨A2,B2,f2,rfl,hrb⟩:=front s2' rem2 q p hr2 hlt2 hcl2 ((hl2 i).2 him) hready2 hsort2 hp2 (fun h=>absurd h hip);have hnot:=notAB A B f hsort;have hnot2:=notAB A2 B2 f2 hsort2;cases hra with
    | @cons _ o b _ _ s1 _ _ ho1 hw h1 hfp hrest=>
      cases hrb with
      | @cons _ o' b' _ _ s1' _ _ ho1' hw' h1' hfp' hrest'=>
        rw[ho1]at ho1';obtain rfl:=Option.some.inj ho1';rw[h1]at h1';obtain rfl:=Option.some.inj h1';have key:=B7 ro (P:=P) (Q:=Q) (K:=wpAnyIn (wd ro) 0 P .any ops Q fuel (listed.setIfInBounds i true)) hcf h1 hs (fun a' w' hs'=>by
         refine ih (A++B) (A2++B2) _ s1 a' w' hrest hrest' hs' (dropP A B f hsort) (dropP A2 B2 f2 hsort2) (listedAB A B f hl hnot) (fun j=>?_) (by simp[hsz]) (by simp at hf |-;omega) (by simp at hf2 |-;omega) (clAB A B f hready hcl)
          (((memAB A B f p).1 hpm).resolve_left (Ne.symm hip)) (((memAB A B f q).1 hqm).resolve_left (Ne.symm hiq)) (dropP A B f ho) (dropP A2 B2 f2 ho2) (dropP A B f hp) (dropP A2 B2 f2 hp2)
         have h:=hl2 j;rw[memAB A2 B2 f2 j,memAB A B f j]at h;constructor
         ·intro g;exact(h.1 (.inr g)).resolve_left (fun e=>hnot2 (e ▸ g))
         ·intro g;exact(h.2 (.inr g)).resolve_left (fun e=>hnot (e ▸ g)))
        unfold wpOpIn;simp only[ho1];split
        ·rename_i hwn;rw[if_pos hwn]at key;exact key
        ·rename_i hwn;rw[if_neg hwn]at key;exact⟨CW,key⟩
theorem GS:∀(l:List Nat) {s s':St}{fl:List (Nat×FP)},evOpsI P cf mu ops.toList l s=some (fl,s') ->
  ∃ rem,Run P cf mu ops rem s s'/\rem.map (·.1)=l/\fl=rem.filterMap (fun p=>p.2.map fun q=>(p.1,q))
 | [],s,s',fl,h=>by
   simp[evOpsI]at h;obtain⟨rfl,rfl⟩:=h;exact⟨[],.nil s,rfl,rfl⟩
 | i::l,s,s',fl,h=>by
   simp only[evOpsI]at h;split at h
   ·simp at h
   ·rename_i o ho;split at h
    ·rename_i b hw;split at h
     ·rename_i s1 h1;split at h
      ·rename_i fl' s2 h2;simp only[Option.some.injEq,Prod.mk.injEq]at h;obtain⟨e1,rfl⟩:=h;obtain⟨rem,r1,r2,r3⟩:=GS l h2;refine⟨(i,fpOf mu s.ev o b s.h s1.h)::rem,.cons (by simpa using ho) hw h1 rfl r1,by simp[r2],?_⟩;rw[<- e1];unfold fpOf;cases hq:(if b=true then footprint mu s.ev o s.h s1.h else none) with
       | none=>simp[r3]
       | some p=>simp[r3]
      ·simp at h
     ·simp at h
    ·simp at h
theorem Co (p q:Nat):∀(rem:List (Nat×Option FP)),pairsX ops p q (rem.filterMap (fun p=>p.2.map fun q=>(p.1,q)))=true ->
  rem.Pairwise (fun x i=>dEdgeT ops ops.size i.1 x.1=true∨apartO x.2 i.2=true∨(x.1=p/\i.1=q))
 | [],_=>.nil
 | (i,f)::rem,h=>by
   cases f with
   | none=>
     simp only[filterMap_cons,Option.map_none]at h;refine .cons (fun y _=>.inr (.inl rfl)) (Co p q rem h)
   | some f=>
     simp only[filterMap_cons,Option.map_some,pairsX,and_eq_true]at h;refine .cons (fun y hy=>?_) (Co p q rem h.2);obtain⟨j,g⟩:=y;cases g with
     | none=>exact .inr (.inl rfl)
     | some g=>
       have:=all_eq_true.1 h.1 (j,g) (List.mem_filterMap.2 ⟨(j,some g),hy,rfl⟩);simp only[or_eq_true,and_eq_true,beq_iff_eq]at this;exact this
theorem EU (p q:Nat):∀(l:List Nat),ordOk ops p q l=true->(∀ x∈l,x<ops.size)/\l.Pairwise (fun x i=>(x≠i/\dEdge ops x i=false)/\¬ (x=p/\i=q))
 | [],_=>⟨fun x h=>by simp at h,.nil⟩
 | x::l,h=>by
   simp only[ordOk,and_eq_true,decide_eq_true_eq,all_eq_true,Bool.not_eq_true',beq_eq_false_iff_ne,Bool.and_eq_false_iff]at h;obtain⟨⟨h1,h2⟩,h3⟩:=h;obtain⟨g1,g2⟩:=EU p q l h3;refine⟨fun y hy=>?_,.cons (fun y hy=>?_) g2⟩
   ·rcases mem_cons.1 hy with e|e
    ·rw[e];exact h1
    ·exact g1 y e
   ·obtain⟨a1,a2,a3⟩:=h2 y hy;refine⟨⟨a2,a1⟩,fun e=>?_⟩;rcases a3 with a|a
    ·exact a e.1
    ·exact a e.2
theorem Hp:∀(t t':Tm),tmEq t t' = true->t=t'
 | [],[],_=>rfl
 | [],_::_,h=>by simp[tmEq]at h
 | _::_,[],h=>by simp[tmEq]at h
 | (k,v)::t,(k',v')::t',h=>by
   simp only[tmEq,and_eq_true,beq_iff_eq]at h;rw[h.1,AV.eq_of_beq _ _ h.2.1,Hp t t' h.2.2]
theorem St.eq_of_beq {s s':St} (h:St.beq s s' = true):s=s':=by
 obtain⟨n,t,hh⟩:=s;obtain⟨n',t',hh'⟩:=s';simp only[St.beq,and_eq_true,beq_iff_eq]at h;rw[h.1,Hp _ _ h.2.1,CI _ _ h.2.2]
theorem Ej (hcf:CfOk P cf) (hm:P.follows .mixedOrders=true) {id:Nat}{alt:Option (Nat×Nat×List Nat)}{draw:Bool}{s s':St}{a:Act} (h:evRegion P cf mu ops alt draw s=some s') (hs:StOk B0 w0 I0 L0 s a w)
  {Q:Exit->Act->World->Prop} (hQ:∀ a w,StOk B0 w0 I0 L0 s' a w->Q .normal a w):(Code.region id ops draw).wpIn (wd ro) 0 P Q a w:=by
 unfold evRegion at h;cases draw with
 | false=>
   simp only[Bool.false_eq_true,if_false]at h;exact E3 (Du ro hcf ops.toList h hs hQ)
 | true=>
   simp only[if_true]at h;have listed0:∀(n:Nat) j,(Array.replicate n false).getD j true=false↔j<n:=by
    intro n j;by_cases g:j<n
    ·simp[getD_eq_getD_getElem?,g]
    ·simp[getD_eq_getD_getElem?,g]
   split at h
   ·split at h
    ·rename_i fl s1 hD;split at h
     ·rename_i hc;simp at h;subst h;obtain⟨rem,r1,r2,r3⟩:=EN ops.toList 0 (fun j=>by simp) hD;rw[r3]at hc;have hp:=ET rem hc.2;have hlen:rem.length=ops.size:=by
       have:=congrArg List.length r2
       simpa using this
      obtain⟨hd1,hd2⟩:=B9 hc.1;have hrm:∀ j,j∈rem.map (·.1)↔j<ops.size:=by
       intro j;rw[r2];simp only[Array.length_toList,List.mem_range'_1,Nat.zero_le,Nat.zero_add,true_and]
      have hltp:(rem.map (·.1)).Pairwise (·< ·):=by rw[r2];exact List.pairwise_lt_range'
      have hlt:=pairwise_map.1 hltp;have hdlt:∀ i x,i<ops.size->dEdge ops i x=true->x<i:=by
       intro i x hi hde;simp only[dEdge,getElem?_eq_getElem hi]at hde;obtain⟨e,he,hbe⟩:=any_eq_true.1 hde;simp only[and_eq_true,beq_iff_eq]at hbe;rw[<- hbe.2];exact hd1 i _ e (getElem?_eq_getElem hi) (by simpa using he) hbe.1
      refine wpIn_region_any hm (Cu hcf hc.1 hQ ops.size rem _ s a _ r1 hs.drew ?_ ?_ (by simp) (by omega) ?_ hp)
      ·refine hlt.imp_of_mem (fun {x i} hx hi h=>⟨by omega,?_⟩);cases hde:dEdge ops x.1 i.1 with
       | false=>rfl
       | true=>
         have:=hdlt x.1 i.1 ((hrm x.1).1 (mem_map.2 ⟨x,hx,rfl⟩)) hde;omega
      ·intro j;rw[hrm,listed0]
      ·intro j y hj hjn;exact absurd ((hrm j).2 hj) hjn
     ·simp at h
    ·simp at h
   ·rename_i p q ord;split at h
    ·rename_i fl s1 hD;split at h
     ·rename_i fl2 s2 hI;split at h
      ·rename_i hc;simp at h;subst h;obtain⟨c1,c2,c3,c4,c5⟩:=hc;have hQ2:∀ a w,StOk B0 w0 I0 L0 s2 a w->Q .normal a w:=by
        intro a2 w2 h2;simp only[or_eq_true]at c5;rcases c5 with c5|c5
        ·exact hQ a2 w2 (by rw[St.eq_of_beq c5];exact h2)
        ·exact hQ a2 w2 (h2.swp hs.below_len c5)
       obtain⟨rem,r1,r2,r3⟩:=EN ops.toList 0 (fun j=>by simp) hD;obtain⟨rem2,q1,q2,q3⟩:=GS ord hI;rw[r3]at c3;rw[q3]at c4;have hp:=Co p q rem c3;have hp2:=Co q p rem2 c4;simp only[altO,and_eq_true,decide_eq_true_eq,beq_iff_eq]at c2;obtain⟨⟨hpq,hqlt⟩,hol,hall,hok⟩:=c2;obtain⟨g1,g2⟩:=EU p q ord hok;have hmem:∀ j,j∈ord↔j<ops.size:=fun j=>⟨g1 j,fun h=>by
        have:=all_eq_true.1 hall j (mem_range.2 h)
        simpa using this⟩
       have hlen:rem.length=ops.size:=by
        have:=congrArg List.length r2
        simpa using this
       have hlen2:rem2.length=ops.size:=by
        have:=congrArg List.length q2
        simpa [hol] using this
       have hrm:∀ j,j∈rem.map (·.1)↔j<ops.size:=by
        intro j;rw[r2];simp only[Array.length_toList,List.mem_range'_1,Nat.zero_le,Nat.zero_add,true_and]
       obtain⟨hd1,hd2⟩:=B9 c1;have hltp:(rem.map (·.1)).Pairwise (·< ·):=by rw[r2];exact List.pairwise_lt_range'
       have hlt:=pairwise_map.1 hltp;have hdlt:∀ i x,i<ops.size->dEdge ops i x=true->x<i:=by
        intro i x hi hde;simp only[dEdge,getElem?_eq_getElem hi]at hde;obtain⟨e,he,hbe⟩:=any_eq_true.1 hde;simp only[and_eq_true,beq_iff_eq]at hbe;rw[<- hbe.2];exact hd1 i _ e (getElem?_eq_getElem hi) (by simpa using he) hbe.1
       have hord1:rem.Pairwise (fun x i=>x.1≠i.1/\dEdge ops x.1 i.1=false):=by
        refine hlt.imp_of_mem (fun {x i} hx hi h=>⟨by omega,?_⟩);cases hde:dEdge ops x.1 i.1 with
        | false=>rfl
        | true=>
          have:=hdlt x.1 i.1 ((hrm x.1).1 (mem_map.2 ⟨x,hx,rfl⟩)) hde;omega
       have g2':(rem2.map (·.1)).Pairwise (fun x i=>(x≠i/\dEdge ops x i=false)/\¬ (x=p/\i=q)):=by rw[q2];exact g2
       have g3:=pairwise_map.1 g2';refine wpIn_region_any hm (Fq hcf c1 hQ hQ2 p q (by omega) ops.size rem rem2 _ s a _ r1 q1 hs.drew hord1 (g3.imp (fun h=>h.1)) ?_ ?_ (by simp) (by omega) (by omega) ?_ ((hrm p).2 (by omega)) ((hrm q).2 hqlt) ?_ (g3.imp (fun h=>h.2)) hp hp2)
       ·intro j;rw[hrm,listed0]
       ·intro j;rw[hrm,q2,hmem]
       ·intro j y hj hjn;exact absurd ((hrm j).2 hj) hjn
       ·refine hlt.imp (fun {x i} h e=>?_);omega
      ·simp at h
     ·simp at h
    ·simp at h
variable [VarTab]
set_option linter.unusedSectionVars false
open Go.RowKit
variable {P:Program}{cf:CF}{it:It}{mu:List Nat}{m:Cfg}{B0:Nat}{w0:Base}{w:World}{I I0:Imm}{H:List MB}{L L0:List Lay}
def PostOk (B0:Nat) (w0:Base) (I0:Imm) (L0:List Lay) (e:EX) (s:St):Exit->Act->World->Prop
 | .normal,a,w=>e=.norm/\StOk B0 w0 I0 L0 s a w
 | .exit id,a,w=>e=.exit id/\StOk B0 w0 I0 L0 s a w
 | .ret,a,w=>e=.ret/\StOk B0 w0 I0 L0 s a w
 | _,_,_=>False
def ItOk (it:It):Prop:=∀ b m s r,it b m s=some r->∃ n,iterN b m n s=some r
theorem StOk.keep {s:St}{a:Act} (h:StOk B0 w0 I0 L0 s a w) (l:Option (List Nat)):StOk B0 w0 I0 L0 { s with t:=keepT l s.t } a w:=by
 obtain⟨I,L,h1,h2,h3,h4⟩:=h;exact⟨I,L,h1,h2,h3,h4.sub (FX l s.t)⟩
theorem StOk.dropSt {s:St}{a:Act} (h:StOk B0 w0 I0 L0 s a w) (l:List Nat):StOk B0 w0 I0 L0 (dropSt l s) a w:=by
 obtain⟨I,L,h1,h2,h3,h4⟩:=h;exact⟨I,L,h1,h2,h3,h4.sub (Fg l s.t)⟩
theorem B4 (n:Nat):∀(xs ys:List MB) (i:Nat) (x y:MB),keptOk n xs ys=true->xs[i]?=some x->ys[i]?=some y->y=x∨MB.under n y=true
 | [],_,i,x,y,_,h,_=>by simp at h
 | _::_,[],i,x,y,_,_,h=>by simp at h
 | a::xs,b::ys,i,x,y,h,h1,h2=>by
   simp only[keptOk,and_eq_true,or_eq_true]at h
   match i,h1,h2 with
   | 0,h1,h2=>
     simp at h1 h2;subst h1;subst h2;rcases h.1 with g|g
     ·exact .inr g
     ·exact .inl (MB.eq_of_beq _ _ g)
   | i+1,h1,h2=>exact B4 n xs ys i x y h.2 (by simpa using h1) (by simpa using h2)
theorem EH {n:Nat}:∀ {es:List (AV×AV)},MB.underE n es=true->∀ {i:Nat}{k v:AV},es[i]?=some (k,v)->AV.under n k=true/\AV.under n v=true
 | [],_,i,k,v,h=>by simp at h
 | (a,b)::es,hu,0,k,v,h=>by
   simp at h;obtain⟨rfl,rfl⟩:=h;simp only[MB.underE,and_eq_true]at hu;exact⟨hu.1,hu.2.1⟩
 | (a,b)::es,hu,i+1,k,v,h=>by
   simp only[MB.underE,and_eq_true]at hu;exact EH hu.2.2 (by simpa using h)
theorem FM {n:Nat}:∀ {es:List (AV×AV)},(∀(i:Nat) (k v:AV),es[i]?=some (k,v)->AV.under n k=true/\AV.under n v=true)->MB.underE n es=true
 | [],_=>rfl
 | (a,b)::es,h=>by
   have h0:=h 0 a b rfl;simp only[MB.underE,h0.1,h0.2,Bool.true_and];exact FM fun i k v hi=>h (i+1) k v (by simpa using hi)
theorem MapOk.under {q:KK}{es:List (AV×AV)}{l:Lay} (h:MapOk B0 I L w q es l):MB.underE L.length es=true:=by
 obtain⟨ents,clock,_,_,f3⟩:=h.obj;exact FM fun i k v g=>by
  obtain⟨_,e,_,g3,g4⟩:=f3 i k v g;exact⟨g3.under,g4.under⟩
theorem LpOk.under {st:LS}{n:Nat}{t:Tm}{ps:List Nat}{c:Code×Code}{l:Lay} (h:LpOk B0 I L w st n t ps c l):AV.underL L.length (t.map (·.2))=true:=by
 obtain⟨r,_,_,_,_,_,g⟩:=h.obj;rcases g with g|g
 ·rw[h.nil g];rfl
 ·rw[AW];intro y hy;obtain⟨q,hq,rfl⟩:=mem_map.1 hy;exact(g.2.2 q hq).2.under
theorem Inv.drop (hi:Inv B0 w0 I H L w) {n:Nat} (hn:n<=H.length)
  (hu:∀ id k els z l,id<n->getRow H id=some (k,els,z)->L[id]?=some l->∀(i j:Nat) (x y:AV),els[i]?=some x->x.cells[j]?=some y->l.sh<=i->AV.under n y=true)
  (hv:∀ id q es,id<n->H[id]?=some (.mp q es)->MB.underE n es=true)
  (hp:∀ id st f k t ps c,id<n->H[id]?=some (.lp st f k t ps c)->AV.underL n (t.map (·.2))=true) :
  Inv B0 w0 I (H.take n) (L.take n) w:=by
 refine⟨hi.below,hi.base,by simp[hi.len],fun id m l hm hl=>?_,fun i j l l' h1 h2 n1 n2 h3=>?_,hi.imm,hi.old⟩
 ·rw[getElem?_take]at hm hl;split at hm
  ·rename_i hid;rw[if_pos hid]at hl;have hb:=hi.blk id m l hm hl;cases m with
   | mp q es=>
     obtain⟨ents,clock,f1,f2,f3⟩:=MapOk.obj hb;refine⟨MapOk.ht hb,MapOk.hn hb,MapOk.hB hb,⟨ents,clock,f1,f2,fun i k v g=>?_⟩,MapOk.free hb⟩;obtain⟨g1,e,g2,g3,g4⟩:=f3 i k v g;have hu2:=EH (hv id q es hid hm) g;exact⟨g1,e,g2,g3.restrict hu2.1,g4.restrict hu2.2⟩
   | lp st f k t ps c=>
     obtain⟨r,f1,f2,f3,f4,f5,f6⟩:=LpOk.obj hb;refine⟨LpOk.ht hb,LpOk.hn hb,LpOk.hB hb,⟨r,f1,f2,f3,f4,f5,f6.imp (fun h=>h) fun g=>⟨g.1,g.2.1,fun q hq=>⟨(g.2.2 q hq).1,(g.2.2 q hq).2.restrict ?_⟩⟩⟩,LpOk.nil hb,LpOk.free hb⟩;exact(AW _ _).1 (hp id st f k t ps c hid hm) _ (mem_map.2 ⟨q,hq,rfl⟩)
   | row k els z=>
     refine⟨hb.hk,hb.ht,hb.hsh,hb.hz,hb.hB,hb.wid,hb.fit,fun hn=>?_,hb.free⟩;obtain⟨cs,T,fr,f1,f2,f3,f4,f9f4⟩:=BlkOk.blk hb hn;refine⟨cs,T,fr,f1,f2,fun i j x y g1 g2 g3=>?_,f4,f9f4⟩;obtain⟨v,e1,e2,e3⟩:=f3 i j x y g1 g2 g3;exact⟨v,e1,e2,e3.restrict (hu id k els z l hid (by unfold getRow;rw[hm]) hl i j x y g1 g2 g3)⟩
   | tr Ty k els z=>
     obtain⟨hb,ht⟩:=hb;refine⟨⟨hb.hk,hb.ht,hb.hsh,hb.hz,hb.hB,hb.wid,hb.fit,fun hn=>?_,hb.free⟩,ht⟩;obtain⟨cs,T,fr,f1,f2,f3,f4,f9f4⟩:=BlkOk.blk hb hn;refine⟨cs,T,fr,f1,f2,fun i j x y g1 g2 g3=>?_,f4,f9f4⟩;obtain⟨v,e1,e2,e3⟩:=f3 i j x y g1 g2 g3;exact⟨v,e1,e2,e3.restrict (hu id k els z l hid (by unfold getRow;rw[hm]) hl i j x y g1 g2 g3)⟩
  ·simp at hm
 ·rw[getElem?_take]at h1 h2;split at h1
  ·split at h2
   ·exact hi.inj i j l l' h1 h2 n1 n2 h3
   ·simp at h2
  ·simp at h1
theorem FL (d:Nat) (v:AV):∀ t:Tm,(updT d v t).map (·.1)=t.map (·.1)
 | []=>rfl
 | (k,u)::t=>by
   simp only[updT];split
   ·rfl
   ·simp only[map_cons,FL d v t]
theorem GJ {d:Nat}{v:AV}:∀ {t:Tm}{q:Nat×AV},q∈updT d v t->q∈t∨(q=(d,v)/\∃ u,(d,u)∈t)
 | [],q,h=>by simp[updT]at h
 | (k,u)::t,q,h=>by
   simp only[updT]at h;split at h
   ·rename_i e;subst e;rcases mem_cons.1 h with h|h
    ·exact .inr ⟨h,u,mem_cons_self ..⟩
    ·exact .inl (mem_cons_of_mem _ h)
   ·rcases mem_cons.1 h with h|h
    ·exact .inl (by rw[h];exact mem_cons_self ..)
    ·rcases GJ h with h|⟨h,u',h'⟩
     ·exact .inl (mem_cons_of_mem _ h)
     ·exact .inr ⟨h,u',mem_cons_of_mem _ h'⟩
theorem TmOk.upd {n:Nat}{t:Tm}{vs:Array Value} (h:TmOk I L n t vs) {d:Nat}{v:AV} (hv:Rep I L v (vs.getD d undef)):TmOk I L n (updT d v t) vs:=by
 refine⟨h.1,?_,fun q hq=>?_⟩
 ·have h2:=h.2.1;have hk:=FL d v t;have h3:List.Pairwise (fun a b:Nat=>b<a) (t.map (·.1)):=pairwise_map.2 h2;rw[<- hk]at h3;exact pairwise_map.1 h3
 ·rcases GJ hq with hq|⟨rfl,u,hu⟩
  ·exact h.2.2 q hq
  ·exact⟨(h.2.2 _ hu).1,hv⟩
theorem Inv.recell (hi:Inv B0 w0 I H L w) {id k:Nat}{els:List AV}{z:Nat} (hr:getRow H id=some (k,els,z)) (els':List AV) (hlen:els'.length=els.length)
  (h:∀(l:Lay) (i j:Nat) (x y b:AV),L[id]?=some l->els[i]?=some x->els'[i]?=some y->y.cells.length=x.cells.length/\(y.cells[j]?=some b->l.sh<=i->∃ a,x.cells[j]?=some a /\
    ∀ v,w.cell? ⟨l.b,l.o+(i-l.sh)*k+j,none⟩=some v->Rep I L a v->Rep I L b v)):Inv B0 w0 I (H.set id (.row k els' z)) L w:=by
 obtain⟨tg,hm⟩:=BR hr;obtain⟨l,hl,hb⟩:=hi.row hr;have hid:id<L.length:=(List.getElem?_eq_some_iff.1 hl).1;refine⟨hi.below,hi.base,by simp[hi.len],fun id2 m2 l2 hm2 hl2=>?_,hi.inj,hi.imm,hi.old⟩;by_cases e:id=id2
 ·subst e;rw[List.getElem?_set_self (List.getElem?_eq_some_iff.1 hm).1]at hm2;obtain rfl:=Option.some.inj hm2;rw[hl]at hl2;obtain rfl:=Option.some.inj hl2;refine⟨hb.hk,by rw[hlen];exact hb.ht,by rw[hlen];exact hb.hsh,by rw[hlen];exact hb.hz,hb.hB,fun y hy=>?_,by rw[hlen];exact hb.fit,fun hn=>?_,hb.free⟩
  ·obtain⟨i,hi'⟩:=List.getElem?_of_mem hy;have hlt:i<els.length:=by rw[<- hlen];exact(List.getElem?_eq_some_iff.1 hi').1
   rw[(h l i 0 _ y .top hl (List.getElem?_eq_getElem hlt) hi').1];exact hb.wid _ (List.getElem_mem hlt)
  ·obtain⟨cs,T,fr,f1,f2,f3,f4,f9f4⟩:=hb.blk hn;refine⟨cs,T,fr,f1,f2,fun i j y b g1 g2 g3=>?_,f4,f9f4⟩;have hlt:i<els.length:=by rw[<- hlen];exact(List.getElem?_eq_some_iff.1 g1).1
   obtain⟨a,a1,a2⟩:=(h l i j _ y b hl (List.getElem?_eq_getElem hlt) g1).2 g2 g3;obtain⟨v,e1,e2,e3⟩:=f3 i j _ a (List.getElem?_eq_getElem hlt) a1 g3;exact⟨v,e1,e2,a2 v (by rw[World.cell_of_heap f1];exact e1) e3⟩
 ·rw[List.getElem?_set_ne e]at hm2;exact hi.blk id2 m2 l2 hm2 hl2
theorem Dq {v:Value} (hr:Rep I L (.sl true []) v) (k:Nat):∃ b,Rep I (L++[⟨k,0,b,0,0,0⟩]) (.ms L.length k 0 0 0) v:=by
 generalize hx:AV.sl true []=x at hr;cases hr with
 | nilsl t=>exact⟨0,.msn _ _ _ (by simp;rfl) rfl⟩
 | sl t xs b o c k' f hc ht hk hI hR=>
   simp at hx;obtain⟨rfl,rfl⟩:=hx;have hc0:c=0:=ht rfl;subst hc0;refine⟨b,?_⟩;have:=Rep.ms (I:=I) (L:=L++[⟨k,0,b,0,0,0⟩]) L.length k 0 0 0 ⟨k,0,b,0,0,0⟩ b o 0 (by simp) (le_refl _) rfl (le_refl _) (le_refl _) (fun _=>⟨le_refl _,rfl,fun h=>absurd rfl h,le_refl _,by simp⟩);exact this
 | _=>cases hx
theorem Fu (x u:AV) (j:Nat) (hj:j<x.cells.length) (hu:u.cells=[u]):(setCells x j [u]).cells.length=x.cells.length/\∀ i,(setCells x j [u]).cells[i]?=if i=j then some u else x.cells[i]?:=by
 by_cases hx:∃ cs,x=.agg cs
 ·obtain⟨cs,rfl⟩:=hx;simp only[AV.cells]at hj;refine⟨by simp only[setCells,splice,AV.cells,List.length_append,List.length_take,List.length_drop,List.length_singleton];omega,fun i=>?_⟩;simp only[setCells,splice,AV.cells];have ht:(cs.take j).length=j:=by simp;omega
  by_cases h1:i<j
  ·rw[List.getElem?_append_left (by omega),getElem?_take,if_pos h1,if_neg (by omega)]
  ·rw[List.getElem?_append_right (by omega),ht];by_cases h2:i=j
   ·subst h2;simp
   ·rw[if_neg h2,List.getElem?_append_right (by simp;omega),List.getElem?_drop];congr 1;simp;omega
 ·have hxc:x.cells=[x]:=by
   cases x<;>first|rfl|exact absurd ⟨_,rfl⟩ hx
  have hs:setCells x j [u]=u:=by cases x<;>first|rfl|exact absurd ⟨_,rfl⟩ hx
  rw[hs,hu,hxc];rw[hxc]at hj;simp at hj;subst hj;refine⟨rfl,fun i=>?_⟩
  match i with
  | 0=>rfl
  | i+1=>simp
theorem StOk.frzB {s:St}{a:Act} (h:StOk B0 w0 I0 L0 s a w) (id:Nat):StOk B0 w0 I0 L0 (frzB s id) a w:=by
 obtain⟨I,L,h1,h2,h3,h4⟩:=h;have h0:StOk B0 w0 I0 L0 s a w:=⟨I,L,h1,h2,h3,h4⟩;unfold Ev.frzB;split
 ·rename_i k els z hrow;split
  ·rename_i els' H' hf;split
   ·rename_i k' els2 z' hrow';obtain⟨I',f1,f2,f3⟩:=Fb h1 hf;obtain⟨l,hl,hb⟩:=h1.row hrow;obtain⟨l2,hl2,hb2⟩:=f1.row hrow';rw[hl]at hl2;obtain rfl:=Option.some.inj hl2;split
    ·rename_i hee;obtain rfl:=AV.eq_of_beqL _ _ hee;refine⟨I',L,f1.recell hrow' els' f3.1 (fun l' i j x y b g1 g2 g3=>?_),h2.trans (f2.ext L),h3.mono (f2.ext L),h4.mono (f2.ext L)⟩;obtain⟨_,q2⟩:=f3.2 i x y g2 g3;refine⟨q2.1,fun g4 _=>?_⟩;have hj:j<x.cells.length:=by rw[<- q2.1];exact(List.getElem?_eq_some_iff.1 g4).1
     exact⟨_,List.getElem?_eq_getElem hj,fun v _ hv=>q2.2 j _ b (List.getElem?_eq_getElem hj) g4 I' (.refl I') v hv⟩
    ·exact h0
   ·exact h0
  ·exact h0
 ·exact h0
theorem StOk.act1 {s:St}{a:Act} (h:StOk B0 w0 I0 L0 s a w) (x:SA):StOk B0 w0 I0 L0 (act1 s x) a w:=by
 obtain⟨I,L,h1,h2,h3,h4⟩:=h;have h0:StOk B0 w0 I0 L0 s a w:=⟨I,L,h1,h2,h3,h4⟩;cases x with
 | mat d k=>
   simp only[Ev.act1];split
   ·rename_i hd;obtain⟨b,hb⟩:=Dq (h4.at hd) k;obtain⟨p1,p2⟩:=h1.phantom k b;rw[h1.len]at hb;exact⟨I,_,p1,h2.trans p2,h3,(h4.mono p2).upd hb⟩
   ·exact h0
 | matC d j k=>
   simp only[Ev.act1];split
   ·rename_i id tot i j0 hd;split
    ·rename_i kk els z hrow;split
     ·rename_i htot;split
      ·rename_i x hx;split
       ·rename_i hc;have hr:=h4.at hd;obtain⟨l,hl,hb⟩:=h1.row hrow;generalize hvv:a.tmps.getD d undef=vv at hr;cases hr with
        | rf _ _ _ _ l2 b o hL ht hv=>
          rw[hl]at hL;obtain rfl:=Option.some.inj hL;obtain⟨v1,_,_⟩:=hv (by rw[hb.ht];exact htot.symm);obtain⟨u,u1,u2,u3⟩:=hb.cell hx hc v1;obtain⟨b',hb'⟩:=Dq u3 k;obtain⟨p1,p2⟩:=h1.phantom k b';rw[h1.len]at hb';obtain⟨tg,hgr⟩:=BR hrow;have hid:=(List.getElem?_eq_some_iff.1 hgr).1;have hrow':getRow (s.h++[.row k [] 0]) id=some (kk,els,z):=by
           unfold getRow;rw[List.getElem?_append_left hid,hgr];cases tg<;>rfl
          have hj:j<x.cells.length:=(List.getElem?_eq_some_iff.1 hc).1;have hil:i<els.length:=(List.getElem?_eq_some_iff.1 hx).1;have hone:=Fu x (.ms s.h.length k 0 0 0) j hj rfl;have hset:=p1.recell hrow' (els.set i (setCells x j [.ms s.h.length k 0 0 0])) (by simp) (fun l' i' j' x' y' b'' g1 g2 g3=>by
           rw[List.getElem?_append_left (List.getElem?_eq_some_iff.1 hl).1,hl]at g1;obtain rfl:=Option.some.inj g1;by_cases e:i=i'
           ·subst e;rw[hx]at g2;obtain rfl:=Option.some.inj g2;rw[List.getElem?_set_self hil]at g3;obtain rfl:=Option.some.inj g3;refine⟨hone.1,fun g4 g5=>?_⟩;rw[hone.2]at g4;by_cases e:j' = j
            ·subst e;rw[if_pos rfl]at g4;obtain rfl:=Option.some.inj g4;refine⟨_,hc,fun v hv1 _=>?_⟩;rw[u1]at hv1;obtain rfl:=Option.some.inj hv1;exact hb'
            ·rw[if_neg e]at g4;exact⟨_,g4,fun v _ hv=>hv⟩
           ·rw[List.getElem?_set_ne e,g2]at g3;obtain rfl:=Option.some.inj g3;exact⟨rfl,fun g4 _=>⟨_,g4,fun v _ hv=>hv⟩⟩)
          rw[List.set_append_left _ _ hid]at hset;exact⟨I,_,hset,h2.trans p2,h3,h4.mono p2⟩
       ·exact h0
      ·exact h0
     ·exact h0
    ·exact h0
   ·exact h0
 | frz d=>
   simp only[Ev.act1];split
   ·rename_i v hd;split
    ·rename_i v' H' hf;obtain⟨I',f1,f2,f3,_⟩:=Ef h1 hf;have h5:=h4.mono (f2.ext L);exact⟨I',L,f1,h2.trans (f2.ext L),h3.mono (f2.ext L),h5.upd (f3 I' (.refl I') _ (h5.at hd))⟩
    ·exact h0
   ·exact h0
 | frzS d=>
   simp only[Ev.act1];split
   ·rename_i v hd;split
    ·rename_i v' H' hf;obtain⟨I',f1,f2,f3,_⟩:=IW h1 hf;have h5:=h4.mono (f2.ext L);exact⟨I',L,f1,h2.trans (f2.ext L),h3.mono (f2.ext L),h5.upd (f3 I' (.refl I') _ (h5.at hd))⟩
    ·exact h0
   ·exact h0
 | frzC d=>
   simp only[Ev.act1];split
   ·exact h0.frzB _
   ·exact h0.frzB _
   ·exact h0
theorem StOk.actL {a:Act}:∀(l:List SA) {s:St},StOk B0 w0 I0 L0 s a w->StOk B0 w0 I0 L0 (actL l s) a w
 | [],_,h=>h
 | x::l,_,h=>StOk.actL l (h.act1 x)
theorem StOk.prepG {s:St}{a:Act} (h:StOk B0 w0 I0 L0 s a w) (m:Msk) (hg:∀ n,m.gc=some n->L0.length<=n):StOk B0 w0 I0 L0 (prepG m s) a w:=by
 have hc:=h.keep m.k;unfold Ev.prepG;split
 ·exact hc
 ·rename_i n hn;split
  ·rename_i hu;rcases lt_or_ge n s.h.length with hlt|hge
   ·obtain⟨I,L,h1,h2,h3,h4⟩:=hc;refine⟨I,L.take n,h1.drop (Nat.le_of_lt hlt) (fun id k els z l hid hm hl i j x y g1 g2 g3=>?_) (fun id q es hid hm=>?_) (fun id st f k t ps c hid hm=>?_),⟨h2.imm,fun id l hl=>?_⟩,h3,h4.1,h4.2.1,fun q hq=>?_⟩
    ·obtain⟨tg,hm⟩:=BR hm;have:=all_eq_true.1 hu.2 (MB.mk tg k els z) (mem_of_getElem? (i:=id) (by rw[getElem?_take,if_pos hid];exact hm));have this:AV.underL n els=true:=by cases tg<;>exact this
     exact(BT n x).1 ((AW n els).1 this x (mem_of_getElem? g1)) y (mem_of_getElem? g2)
    ·have:=all_eq_true.1 hu.2 (.mp q es) (mem_of_getElem? (i:=id) (by rw[getElem?_take,if_pos hid];exact hm))
     simpa only[MB.under] using this
    ·have:=all_eq_true.1 hu.2 (.lp st f k t ps c) (mem_of_getElem? (i:=id) (by rw[getElem?_take,if_pos hid];exact hm))
     simpa only[MB.under] using this
    ·obtain⟨l',e,r⟩:=h2.lay id l hl;have:=hg n hn;have:=(List.getElem?_eq_some_iff.1 hl).1;exact⟨l',by rw[getElem?_take,if_pos (by omega)];exact e,r⟩
    ·exact⟨(h4.2.2 q hq).1,(h4.2.2 q hq).2.restrict ((AW n _).1 hu.1 q.2 (mem_map.2 ⟨q,hq,rfl⟩))⟩
   ·rw[List.take_of_length_le hge];exact hc
  ·exact hc
theorem StOk.prep {s:St}{a:Act} (h:StOk B0 w0 I0 L0 s a w) (m:Msk) (hg:∀ n,m.gc=some n->L0.length<=n):StOk B0 w0 I0 L0 (prep m s) a w:=(h.actL m.acts).prepG m hg
theorem Bo {b:Frame}{a:Act}{k:List Item}{cs:List Frame}{w:World}{c:Code}:step P (lone (b.atR a (.code (.scope c)::k)) cs w)=.next (lone (b.atR a (.code c::.inScope c::k)) cs w):=
 step_lone_go (by simp[stepG,stepG.exec,Frame.atR])
theorem E4 {b:Frame}{a:Act}{k:List Item}{cs:List Frame}{w:World}{c:Code}:step P (lone (b.atR a (.inScope c::k)) cs w)=.next (lone (b.atR a k) cs w):=
 step_lone_go (by simp[stepG,stepG.exec,Frame.atR])
theorem Cs {F:Fence}{n:Nat}{Q:Exit->Act->World->Prop}{a:Act}{c:Code} (h:c.wpIn F n P (Exit.noGoto Q) a w):(Code.scope c).wpIn F n P Q a w:=by
 intro b k cs hro hb hr;have h0:(lone (b.atR a (.code (.scope c)::k)) cs w).fenced P F:=fenced_calm hb hr rfl;obtain⟨e,a₁,w₁,hq,harr⟩:=h b (.inScope c::k) cs hro hb hr;cases e with
 | normal=>exact⟨.normal,a₁,w₁,hq,.head h0 Bo (StepsIn.trans harr (.one (fenced_calm hb hr rfl) E4))⟩
 | exit id=>
   have he:∀ k:List Item,exitTo id (.inScope c::k)=exitTo id k:=fun k=>by simp[exitTo]
   exact⟨.exit id,a₁,w₁,hq,ArrivesIn.of_steps (e:=.exit id) (.one h0 Bo) ⟨fun k' hk=>harr.1 k' (by rw[he];exact hk),fun h1 hk=>harr.2 h1 (by rw[he];exact hk)⟩⟩
 | goto l=>exact hq.elim
 | ret=>exact⟨_,a₁,w₁,hq,.of_steps (.one h0 Bo) harr⟩
 | panic ch=>exact⟨_,a₁,w₁,hq,.of_steps (.one h0 Bo) harr⟩
 | outgrown=>exact⟨_,a₁,w₁,hq,ArrivesIn.of_steps (e:=.outgrown) (.one h0 Bo) harr⟩
def immDf (I:Imm) (D:Nat):Imm:=⟨I.c,fun x=>I.g x||x==D,I.vars⟩
theorem FY (I:Imm) (L:List Lay) (D:Nat):Ext I L (immDf I D) L:=⟨⟨fun _ _ _ h=>h,fun x h=>by simp[immDf,h]⟩,(Ext.refl I L).lay⟩
theorem Inv.newDf (hi:Inv B0 w0 I H L w):Inv B0 w0 (immDf I w.heap.size) H L (w.alloc (.deferred (some []))):=by
 have h1:Inv B0 w0 I H L (w.alloc (.deferred (some []))):=hi.same (hi.below.alloc hi.base _) (by rw[World.size_alloc];exact Nat.le_succ_of_le hi.base) (fun b hb=>Below.heap_alloc _ _ _ hb);refine⟨h1.below,h1.base,h1.len,fun id m l hm hl=>MbOk.mono (FY I L _) (fun _ _=>rfl) (h1.blk id m l hm hl),h1.inj,⟨h1.imm.c,fun D hD=>?_⟩,h1.old⟩;simp only[immDf,or_eq_true,beq_iff_eq]at hD;rcases hD with hD|rfl
 ·exact h1.imm.g D hD
 ·exact World.alloc_heap_new w _
theorem IM (w:World) (r:Nat) (o:Obj):w.putObj r o = { w with heap:=w.heap.setIfInBounds r o }:=rfl
theorem Inv.lpRec (hi:Inv B0 w0 I H L w) {id q:Nat}{st:LS}{f n:Nat}{t:Tm}{ps:List Nat}{c:Code×Code} (hm:H[id]?=some (.lp st f n t ps c)) (hr:Rep I L (.yld id) (.func (.yield q) #[] #[])) :
  ∃ l r,L[id]?=some l/\q=l.b/\LpOk B0 I L w st n t ps c l/\w.heap[q]?=some (.loop r)/\LSt st r/\r.params.toList=ps/\r.assign=c.1/\r.body=c.2/\(st=.over∨TmOk I L n t r.tmps):=by
 cases hr with
 | yld _ l _ hL hq=>
   have hb:LpOk B0 I L w st n t ps c l:=hi.blk id _ l hm hL;obtain⟨r,h1,h2⟩:=hb.obj;have:=hq hb.ht;exact⟨l,r,hL,this,hb,by rw[this];exact h1,h2⟩
theorem Inv.setRec (hi:Inv B0 w0 I H L w) {id:Nat}{st st':LS}{f n n':Nat}{t t':Tm}{ps:List Nat}{c:Code×Code}{l:Lay}{r r':Loop} (hm:H[id]?=some (.lp st f n t ps c)) (hl:L[id]?=some l)
  (hb:LpOk B0 I L w st n t ps c l) (hr:w.heap[l.b]?=some (.loop r)) (h1:LSt st' r') (h2:r'.params.toList=ps) (h3:r'.assign=c.1) (h4:r'.body=c.2) (h5:st' = .over∨TmOk I L n' t' r'.tmps) (h6:st' = .over->t' = []) :
  Inv B0 w0 I (H.set id (.lp st' f n' t' ps c)) L (w.putObj l.b (.loop r')):=by
 rw[IM];refine hi.setObj hm hl hb.hn hb.hB hb.free hr (fun x h=>by cases h) ?_;exact⟨hb.ht,hb.hn,hb.hB,⟨r',World.putObj_heap_same (Array.getElem?_eq_some_iff.1 hr).1,h1,h2,h3,h4,h5⟩,h6,hb.free⟩
theorem Fa (x:Value) (ws:Array Value):(#[x]++ws).getD 0 undef=x:=by
 rw[getD_eq_getD_getElem?,Array.getElem?_append_left (by simp)];rfl
theorem IU (x:Value) (ws:Array Value) (i:Nat):(#[x]++ws).getD (i+1) undef=ws.getD i undef:=by
 rw[getD_eq_getD_getElem?,getD_eq_getD_getElem?,Array.getElem?_append_right (by simp)];rfl
theorem FD (hfx:w0.fx=false) (hcf:CfOk P cf) {g:Operand}{ps:Array Tmp}{asg b:Code}{hh:Nat}{cs:List AV}{s s':St}{f:Nat}{mk:Option (List Nat)}{e:EX}{r:AV}{H':List MB}{a:Act} (hg:s.ev g=.clo hh cs)
  (hcall:cfn cf hh (.yld s.h.length::cs) (s.h++[.lp .ready f s.n (keepT mk s.t) ps.toList (asg,b)])=some (r,H')) (he:endLp H' s.h.length s=some (e,s')) (hs:StOk B0 w0 I0 L0 s a w) :
  (Code.rangeFunc g ps asg b).wpIn (wd none) 0 P (PostOk B0 w0 I0 L0 e s') a w:=by
 obtain⟨I,L,i1,i2,i3,i4⟩:=hs;unfold cfn at hcall;split at hcall
 ·cases hcall
 rename_i hne;obtain⟨c1,c2⟩:=hcf.1 _ _ _ _ _ hne hcall;have hgr:=De i4 g;rw[hg]at hgr;generalize hgv:a.eval g=gv at hgr;cases hgr with
 | clo _ _ ws hn hR=>
   refine wpIn_rangeFunc (fun fn _=>?_);have hDf:=i1.newDf;have hx1:=FY I L w.heap.size
   have hrec:=hDf.newObj (.loop { state:=.ready,pending:=none,fn:=fn,tmps:=a.tmps,params:=ps,assign:=asg,body:=b,defers:=w.heap.size }) (.lp .ready f s.n (keepT mk s.t) ps.toList (asg,b))
    ⟨rfl,by simp,hDf.base,⟨_,World.alloc_heap_new _ _,⟨rfl,rfl⟩,rfl,rfl,rfl,.inr (((i4.sub (FX mk s.t)).mono hx1).mono (CK _ _ _))⟩,fun h=>(by cases h),fun c=>hDf.imm_new c⟩
   obtain⟨hI,hx2⟩:=hrec;have hsz:(w.alloc (.deferred (some []))).heap.size=w.heap.size+1:=World.size_alloc ..;rw[hsz]at hI hx2;generalize hW:(w.alloc (.deferred (some []))).alloc (.loop { state:=.ready,pending:=none,fn:=fn,tmps:=a.tmps,params:=ps,assign:=asg,body:=b,defers:=w.heap.size })=W at hI;have hent:=run_enterLoop_outer (P:=P) (w:=w) fn a.tmps ps asg b;rw[hW]at hent;refine⟨w.heap.size+1,[mkD w.heap.size],W,⟨.fn (.func hh) ws,#[.func (.yield (w.heap.size+1)) #[] #[]]⟩,W,hh,#[.func (.yield (w.heap.size+1)) #[] #[]]++ws,W,hent,?_,fun _ _=>trivial,?_,Fs,?_⟩
   ·simp only[resolve,hgv,Deferred.ofValue,Sem.run_bind,Sem.run_pure,Result.andThen_ok,Array.empty_append,List.map_toArray,map_cons,List.map_nil];rfl
   ·simp only[invoke,c1]
   ·have hrl:RepL (immDf I w.heap.size) (L++[⟨0,0,w.heap.size+1,1,0,0⟩]) (.yld s.h.length::cs) (#[.func (.yield (w.heap.size+1)) #[] #[]]++ws):=by
     refine⟨by simp[hn];omega,fun i y hy=>?_⟩;cases i with
     | zero=>
       simp at hy;subst hy;have e1:(#[Value.func (.yield (w.heap.size+1)) #[] #[]]++ws).getD 0 undef=.func (.yield (w.heap.size+1)) #[] #[]:=Fa _ _;rw[e1,<- i1.len];exact .yld _ ⟨0,0,w.heap.size+1,1,0,0⟩ _ (by simp) (fun _=>rfl)
     | succ i=>
       have e1:(#[Value.func (.yield (w.heap.size+1)) #[] #[]]++ws).getD (i+1) undef=ws.getD i undef:=IU _ _ _;rw[e1];exact((hR i y (by simpa using hy)).mono hx1).mono hx2
    refine EF ((c2 B0 w0 W _ _ _ hI hrl).mono ?_);rintro e1 w' ⟨v,I',L',rfl,j1,j2,j3⟩;have hyl:Rep I' L' (.yld s.h.length) (.func (.yield (w.heap.size+1)) #[] #[]):=by
     have:=hrl.2 0 _ rfl;have e1:(#[Value.func (.yield (w.heap.size+1)) #[] #[]]++ws).getD 0 undef=.func (.yield (w.heap.size+1)) #[] #[]:=Fa _ _;rw[e1]at this;exact this.mono j2
    have hxx:Ext I L I' L':=(hx1.trans hx2).trans j2;have hDg:I'.g w.heap.size=true:=j2.imm.g _ (hx2.imm.g _ (by simp[immDf]));have hIg:I.g w.heap.size=false:=by
     cases hq:I.g w.heap.size with
     | false=>rfl
     | true=>have:=i1.imm.ltg hq;omega
    have hdf:DfOk B0 w0.fx I0 I' ([mkD w.heap.size]++a.defers):=by
     obtain⟨l,d1,d2,d4,d3⟩:=i3;refine⟨w.heap.size::l,by rw[d1];rfl,List.nodup_cons.2 ⟨fun hm=>?_,d2⟩,fun h=>(by rw[hfx]at h;cases h),fun D hD=>?_⟩
     ·have:=(d3 _ hm).1;rw[hIg]at this;cases this
     ·rcases mem_cons.1 hD with rfl|hD
      ·refine⟨hDg,?_,i1.base⟩;cases hq:I0.g w.heap.size with
       | false=>rfl
       | true=>have:=i2.imm.g _ hq;rw[hIg]at this;cases this
      ·exact⟨hxx.imm.g _ (d3 D hD).1,(d3 D hD).2⟩
    unfold endLp at he;split at he
    ·rename_i f' n' t' ps' c' hm;simp only[Option.some.injEq,Prod.mk.injEq]at he;obtain⟨rfl,rfl⟩:=he;obtain⟨l,r1,k1,k2,k3,k4,k5,k6,k7,k8,k9⟩:=j1.lpRec hm hyl;have hset:=j1.setRec (st':=.over) (n':=n') (t':=[]) (r':={ r1 with state:=.exhausted }) hm k1 k3 (by rw[<- k2];exact k4) trivial k6 k7 k8 (.inl rfl) (fun _=>rfl);rw[<- k2]at hset;refine⟨_,_,run_endLoop k4 (by rw[k5.1];decide),?_⟩;rw[k5.2]at hset |-;exact⟨rfl,I',L',hset,i2.trans hxx,hdf,i4.mono hxx⟩
    ·rename_i e' f' n' t' ps' c' hm;simp only[Option.some.injEq,Prod.mk.injEq]at he;obtain⟨rfl,rfl⟩:=he;obtain⟨l,r1,k1,k2,k3,k4,k5,k6,k7,k8,k9⟩:=j1.lpRec hm hyl;have hset:=j1.setRec (st':=.over) (n':=n') (t':=[]) (r':={ r1 with state:=.exhausted }) hm k1 k3 (by rw[<- k2];exact k4) trivial k6 k7 k8 (.inl rfl) (fun _=>rfl);rw[<- k2]at hset;refine⟨_,_,run_endLoop k4 (by rw[k5.1];decide),?_⟩;rw[k5.2.1]at hset |-;have fin:StOk B0 w0 I0 L0 ⟨s.n,s.t,H'.set s.h.length (.lp .over f' n' [] ps' c')⟩ { a with defers:=[mkD w.heap.size]++a.defers } (w'.putObj (w.heap.size+1) (.loop { r1 with state:=.exhausted,pending:=jumpOf e' })):=
      ⟨I',L',hset,i2.trans hxx,hdf,i4.mono hxx⟩
     cases e' with
     | norm=>exact absurd rfl k5.2.2
     | exit id=>exact wpIn_exit ⟨rfl,fin⟩
     | ret=>exact wpIn_ret ⟨rfl,fin⟩
    ·cases he
def noRF:Code->Bool
 | .seq a b=>noRF a&&noRF b
 | .cond _ a b=>noRF a&&noRF b
 | .block _ b=>noRF b
 | .loop b=>noRF b
 | .scope b=>noRF b
 | .rangeFunc ..=>false
 | _=>true
theorem HQ {a b:Bool} (h:(a&&b)=true):a=true:=by cases a<;>simp_all
theorem JH {a b:Bool} (h:(a&&b)=true):b=true:=by cases a<;>simp_all
theorem AZ {ro:Option Nat} (hrf:∀ f,m.rf=some f->ro=none) (hg:∀ i n,(m.lp i).gc=some n->L0.length<=n) (hcf:CfOk P cf) (hit:ItOk it) (hm:P.follows .mixedOrders=true):∀(c:Code),(w0.fx=false∨noRF c=true)->∀ {s s':St}{e:EX}{a:Act}{w:World},
  evCode P cf it mu m c s=some (e,s')->StOk B0 w0 I0 L0 s a w->c.wpIn (wd ro) 0 P (PostOk B0 w0 I0 L0 e s') a w
 | .skip,hnr,s,s',e,a,w,h,hs=>by
   simp[evCode]at h;obtain⟨rfl,rfl⟩:=h;exact wpIn_skip ⟨rfl,hs⟩
 | .label _,hnr,s,s',e,a,w,h,hs=>by
   simp[evCode]at h;obtain⟨rfl,rfl⟩:=h;exact wpIn_label ⟨rfl,hs⟩
 | .region id ops draw,hnr,s,s',e,a,w,h,hs=>by
   simp only[evCode]at h;cases hr:evRegion P cf mu ops (m.al id) draw s with
   | none=>rw[hr]at h;simp at h
   | some s1=>
     rw[hr]at h;simp at h;obtain⟨rfl,rfl⟩:=h;exact Ej hcf hm hr hs (fun a w hs'=>⟨rfl,(hs'.actL _).dropSt _⟩)
 | .seq x y,hnr,s,s',e,a,w,h,hs=>by
   simp only[evCode]at h;refine wpIn_seq ?_;split at h
   ·rename_i s1 h1;refine wpIn_mono (AZ hrf hg hcf hit hm x (hnr.imp (fun h=>h) HQ) h1 hs) (fun e1 a1 w1 hp=>?_);cases e1 with
    | normal=>exact AZ hrf hg hcf hit hm y (hnr.imp (fun h=>h) JH) h hp.2
    | exit id=>exact absurd hp.1 (by simp)
    | ret=>exact absurd hp.1 (by simp)
    | goto l=>exact hp.elim
    | panic c=>exact hp.elim
    | outgrown=>exact hp.elim
   ·rename_i r hne;cases hx:evCode P cf it mu m x s with
    | none=>rw[hx]at h;simp at h
    | some q=>
      obtain⟨e1,s1⟩:=q;have hn:e1≠.norm:=by
       rintro rfl;exact hne s1 hx
      rw[hx]at h;have h':e1=e/\s1=s':=by
       cases e1 with
       | norm=>exact absurd rfl hn
       | exit id=>simpa using h
       | ret=>simpa using h
      obtain⟨rfl,rfl⟩:=h';refine wpIn_mono (AZ hrf hg hcf hit hm x (hnr.imp (fun h=>h) HQ) hx hs) (fun e2 a1 w1 hp=>?_);cases e2 with
      | normal=>exact absurd hp.1 hn
      | exit id=>exact hp
      | ret=>exact hp
      | goto l=>exact hp.elim
      | panic c=>exact hp.elim
      | outgrown=>exact hp.elim
 | .cond c x y,hnr,s,s',e,a,w,h,hs=>by
   simp only[evCode]at h;obtain⟨I,L,i1,i2,i3,i4⟩:=hs;have hr:=De i4 c;split at h
   ·rename_i hc;rw[hc]at hr;generalize hv:a.eval c=v at hr;cases hr;exact wpIn_cond_true hv (AZ hrf hg hcf hit hm x (hnr.imp (fun h=>h) HQ) h ⟨I,L,i1,i2,i3,i4⟩)
   ·rename_i hc;rw[hc]at hr;generalize hv:a.eval c=v at hr;cases hr;exact wpIn_cond_false hv (AZ hrf hg hcf hit hm y (hnr.imp (fun h=>h) JH) h ⟨I,L,i1,i2,i3,i4⟩)
   ·simp at h
 | .block id b,hnr,s,s',e,a,w,h,hs=>by
   simp only[evCode]at h;refine wpIn_block ?_;split at h
   ·rename_i id' s1 h1;refine wpIn_mono (AZ hrf hg hcf hit hm b (hnr.imp (fun h=>h) fun h=>h) h1 hs) (fun e1 a1 w1 hp=>?_);cases e1 with
    | normal=>exact absurd hp.1 (by simp)
    | exit id2=>
      obtain⟨h2,h3⟩:=hp;simp at h2;subst h2;show Exit.inBlock id _ (.exit id') a1 w1;simp only[Exit.inBlock];split at h
      ·rename_i e2;simp at h;obtain⟨rfl,rfl⟩:=h;rw[if_pos e2];exact⟨rfl,h3.dropSt _⟩
      ·rename_i e2;simp at h;obtain⟨rfl,rfl⟩:=h;rw[if_neg e2];exact⟨rfl,h3⟩
    | ret=>exact absurd hp.1 (by simp)
    | goto l=>exact hp.elim
    | panic c=>exact hp.elim
    | outgrown=>exact hp.elim
   ·rename_i s1 h1;simp at h;obtain⟨rfl,rfl⟩:=h;refine wpIn_mono (AZ hrf hg hcf hit hm b (hnr.imp (fun h=>h) fun h=>h) h1 hs) (fun e1 a1 w1 hp=>?_);cases e1 with
    | normal=>exact⟨rfl,hp.2.dropSt _⟩
    | exit id2=>exact absurd hp.1 (by simp)
    | ret=>exact absurd hp.1 (by simp)
    | goto l=>exact hp.elim
    | panic c=>exact hp.elim
    | outgrown=>exact hp.elim
   ·rename_i hne hnn;refine wpIn_mono (AZ hrf hg hcf hit hm b (hnr.imp (fun h=>h) fun h=>h) h hs) (fun e1 a1 w1 hp=>?_);cases e1 with
    | normal=>
      obtain⟨h2,h3⟩:=hp;subst h2;exact absurd h (hnn s')
    | exit id2=>
      obtain⟨h2,h3⟩:=hp;subst h2;exact absurd h (hne id2 s')
    | ret=>exact hp
    | goto l=>exact hp.elim
    | panic c=>exact hp.elim
    | outgrown=>exact hp.elim
 | .loop b,hnr,s,s',e,a,w,h,hs=>by
   simp only[evCode]at h;obtain⟨n,hn⟩:=hit _ _ _ _ h;refine wpIn_loop_rounds n ?_;clear h
   induction n generalizing s a w with
   | zero=>simp[iterN]at hn
   | succ n ih=>
     simp only[iterN]at hn;rw[roundsIn_succ];split at hn
     ·rename_i s1 h1;refine wpIn_mono (AZ hrf hg hcf hit hm b (hnr.imp (fun h=>h) fun h=>h) h1 (hs.prep (m.lp (loopId b)) (hg _))) (fun e1 a1 w1 hp=>?_);cases e1 with
      | normal=>exact ih _ _ _ hp.2 hn
      | exit id=>exact absurd hp.1 (by simp)
      | ret=>exact absurd hp.1 (by simp)
      | goto l=>exact hp.elim
      | panic c=>exact hp.elim
      | outgrown=>exact hp.elim
     ·rename_i hne;have hen:e≠.norm:=by
       rintro rfl;exact hne s' hn
      refine wpIn_mono (AZ hrf hg hcf hit hm b (hnr.imp (fun h=>h) fun h=>h) hn (hs.prep (m.lp (loopId b)) (hg _))) (fun e1 a1 w1 hp=>?_);cases e1 with
      | normal=>exact absurd hp.1 hen
      | exit id=>exact hp
      | ret=>exact hp
      | goto l=>exact hp.elim
      | panic c=>exact hp.elim
      | outgrown=>exact hp.elim
 | .scope b,hnr,s,s',e,a,w,h,hs=>by
   simp only[evCode]at h;refine Cs (wpIn_mono (AZ hrf hg hcf hit hm b (hnr.imp (fun h=>h) fun h=>h) h hs) (fun e1 a1 w1 hp=>?_));cases e1 with
   | normal=>exact hp
   | exit id=>exact hp
   | ret=>exact hp
   | goto l=>exact hp.elim
   | panic c=>exact hp.elim
   | outgrown=>exact hp.elim
 | .exit id,hnr,s,s',e,a,w,h,hs=>by
   simp[evCode]at h;obtain⟨rfl,rfl⟩:=h;exact wpIn_exit ⟨rfl,hs⟩
 | .ret,hnr,s,s',e,a,w,h,hs=>by
   simp[evCode]at h;obtain⟨rfl,rfl⟩:=h;exact wpIn_ret ⟨rfl,hs⟩
 | .rangeFunc g ps asg b,hnr,s,s',e,a,w,h,hs=>by
   simp only[evCode]at h;split at h
   ·rename_i f hh cs hmf hgv;split at h
    ·rename_i r H' hcall;obtain rfl:=hrf f hmf;exact FD (hnr.resolve_right (by simp[noRF])) hcf hgv hcall h hs
    ·cases h
   ·cases h
 | .goto _,hnr,s,s',e,a,w,h,hs=>by simp[evCode]at h
 | .refuse _,hnr,s,s',e,a,w,h,hs=>by simp[evCode]at h
end Go.Ev
