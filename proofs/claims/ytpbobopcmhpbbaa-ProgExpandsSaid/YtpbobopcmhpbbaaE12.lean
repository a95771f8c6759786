/- The plain law on paths, continued: a walk that stops where a way goes in a circle finds what the plain walk finds. No program in sight. -/
import Derived.Test.YtpbobopcmhpbbaaE11
import Derived.Test.YtpbobopcmhpbbaaE05
set_option linter.unusedVariables false
set_option linter.unusedSimpArgs false
namespace Go.Ev
structure WayI where
 w:Way
 idle:Nat
 found:Nat
def nextI (p:Prog1) (e:WayI) (idle found outN:Nat):Out→Option (List WayI)
 | .done=>none
 | .ways l=>some (l.map fun v=>if v.at_=e.w.at_ then⟨v,idle,found⟩ else⟨v,0,outN⟩)
def runI (p:Prog1) (n:Nat) (most:Int):Nat→List WayI→List Way→Option (List Way)
 | fuel,todo,out=>
   match todo with
   | []=>some out
   | e::rest=>
     if(out.length:Int)=most then some out
     else
      match fuel with
      | 0=>none
      | fuel+1=>
        if n≤e.idle∧(most = -1∨e.found=out.length) then none
        else
         match nextI p e (if n≤e.idle then 1 else e.idle+1) (if n≤e.idle then out.length else e.found) out.length (stepW p e.w) with
         | none=>runI p n most fuel rest (out++[e.w])
         | some l=>runI p n most fuel (l++rest) out
theorem runW_none_len {p:Prog1} {most:Int}:∀(fuel:Nat) (todo out out':List Way),out.length=out'.length→runW p most fuel todo out=none→runW p most fuel todo out' = none
 | fuel,[],out,out',_,h=>by unfold runW at h;simp at h
 | 0,w::todo,out,out',hl,h=>by
   by_cases ho:(out.length:Int)=most
   ·unfold runW at h;simp only[ho,if_true]at h;cases h
   ·exact runW_zero (by rw[← hl];exact ho)
 | fuel+1,w::todo,out,out',hl,h=>by
   by_cases ho:(out.length:Int)=most
   ·unfold runW at h;simp only[ho,if_true]at h;cases h
   ·rw[runW_step ho]at h
    rw[runW_step (by rw[← hl];exact ho)]
    cases hs:stepW p w with
    | done=>rw[hs]at h;exact runW_none_len fuel todo _ _ (by simp[hl]) h
    | ways l=>rw[hs]at h;exact runW_none_len fuel _ _ _ hl h
structure Ghost where
 e:WayI
 hs:List Way
def Chain (p:Prog1) (found outN:Nat):List Way→Prop
 | []=>True
 | a::l=>(∀ b∈l,∃ E d m,Reach p b a E d (m+1)∧found+d≤outN)∧Chain p found outN l
theorem Chain.mono {p:Prog1} {f n n':Nat} (h:n≤n'):∀ {l:List Way},Chain p f n l→Chain p f n' l
 | [],_=>trivial
 | a::l,⟨h1,h2⟩=>⟨fun b hb=>by
    obtain⟨E,d,m,r,hd⟩:=h1 b hb
    exact⟨E,d,m,r,by omega⟩,Chain.mono h h2⟩
structure Hist (p:Prog1) (n outN:Nat) (t:Ghost) (rest:List Ghost):Prop where
 idle:∀ g∈t::rest,g.hs.length=g.e.idle∧g.e.found≤outN
 at_:∀ g∈t::rest,g.e.w.pc < n∧∀ h∈g.hs,h.at_=g.e.w.at_∧h.pc < n
 chain:∀ g∈t::rest,Chain p g.e.found outN g.hs
 reach:∀ i g,(t::rest)[i]?=some g→∀ h∈g.hs,∃ E S d m,rest.map (·.e.w)=E++S∧i≤E.length∧Reach p h t.e.w E d (m+1)∧g.e.found+d≤outN
theorem nodup_lt:∀(n:Nat) (L:List Nat),(∀ x∈L,x < n)→L.Nodup→L.length≤n
 | 0,[],_,_=>Nat.le_refl _
 | 0,x::_,h,_=>absurd (h x (List.mem_cons_self ..)) (Nat.not_lt_zero _)
 | n+1,L,h,hd=>by
   have h1:(L.erase n).length≤n:=nodup_lt n (L.erase n) (fun x hx=>by
    have h2:=(List.Nodup.mem_erase_iff hd).1 hx
    have h3:=h x h2.2
    have h4:=h2.1
    omega) (hd.erase n)
   rw[List.length_erase]at h1
   split at h1<;>omega
theorem chain_dup {p:Prog1} {f N:Nat}:∀(L:List Way),Chain p f N L→¬ (L.map (·.pc)).Nodup→∃ a∈L,∃ b∈L,b.pc=a.pc∧∃ E d m,Reach p b a E d (m+1)∧f+d≤N
 | [],_,h=>absurd List.nodup_nil h
 | a::l,⟨h1,h2⟩,h=>by
   by_cases hb:∃ b∈l,b.pc=a.pc
   ·obtain⟨b,b1,b2⟩:=hb
    exact⟨a,List.mem_cons_self ..,b,List.mem_cons_of_mem _ b1,b2,h1 b b1⟩
   ·have:¬ (l.map (·.pc)).Nodup:=fun hn=>h (by
     rw[List.map_cons,List.nodup_cons]
     refine⟨fun hm=>?_,hn⟩
     obtain⟨b,b1,b2⟩:=List.mem_map.1 hm
     exact hb ⟨b,b1,b2⟩)
    obtain⟨x,x1,y,y1,r⟩:=chain_dup l h2 this
    exact⟨x,List.mem_cons_of_mem _ x1,y,List.mem_cons_of_mem _ y1,r⟩
theorem Hist.now {p:Prog1} {n outN:Nat} {t:Ghost} {rest:List Ghost} (h:Hist p n outN t rest):Chain p t.e.found outN (t.e.w::t.hs):=
 ⟨fun b hb=>by
   obtain⟨E,S,d,m,_,_,r,hd⟩:=h.reach 0 t rfl b hb
   exact⟨E,d,m,r,hd⟩,h.chain t (List.mem_cons_self ..)⟩
theorem Hist.circle {p:Prog1} {n:Nat} {t:Ghost} {rest:List Ghost} {out:List Way} (h:Hist p n out.length t rest) (hn:n≤t.e.idle) {most:Int} (hm:most = -1∨t.e.found=out.length) (ho:¬ (out.length:Int)=most) (fuel:Nat) :
 runW p most fuel (t.e.w::rest.map (·.e.w)) out=none:=by
 have h0:=h.now
 have hat:=h.at_ t (List.mem_cons_self ..)
 have hid:=h.idle t (List.mem_cons_self ..)
 have hlen:¬ ((t.e.w::t.hs).map (·.pc)).Nodup:=fun hd=>by
  have:=nodup_lt n _ (fun x hx=>by
   obtain⟨b,b1,rfl⟩:=List.mem_map.1 hx
   rcases List.mem_cons.1 b1 with e|e
   ·rw[e];exact hat.1
   ·exact(hat.2 b e).2) hd
  rw[List.length_map,List.length_cons,hid.1]at this
  omega
 obtain⟨a,a1,b,b1,hpc,E,d,m,r,hd⟩:=chain_dup _ h0 hlen
 have hlike:b.like a:=by
  refine⟨hpc,?_⟩
  have:∀ c∈t.e.w::t.hs,c.at_=t.e.w.at_:=fun c hc=>by
   rcases List.mem_cons.1 hc with e|e
   ·rw[e]
   ·exact(hat.2 c e).1
  rw[this b b1,this a a1]
 have hd0:most = -1∨d=0:=by
  rcases hm with h|h
  ·exact .inl h
  ·exact .inr (by omega)
 rcases List.mem_cons.1 a1 with e|e
 ·subst e
  refine Go.Ev.circle r hlike fuel t.e.w _ out hlike ?_
  rcases hd0 with h|h
  ·exact .inl h
  ·exact .inr ⟨h,ho⟩
 ·obtain⟨E2,S2,d2,m2,hr,_,r2,hd2⟩:=h.reach 0 t rfl a e
  have hlen0:(out.take (out.length - d2)).length+d2=out.length:=by simp;omega
  have hq:most = -1∨(d2=0∧¬ ((out.take (out.length - d2)).length:Int)=most):=by
   rcases hm with h|h
   ·exact .inl h
   ·refine .inr ⟨by omega,?_⟩
    have:d2=0:=by omega
    subst this
    simpa using ho
  obtain⟨out',o1,o2⟩:=r2.run S2 (out.take (out.length - d2)) hq fuel
  have hn:=Go.Ev.circle r hlike (m2+1+fuel) a S2 (out.take (out.length - d2)) hlike (by
   rcases hd0 with h|h
   ·exact .inl h
   ·rcases hq with g|g
    ·exact .inl g
    ·exact .inr ⟨h,g.2⟩)
  rw[hn]at o2
  rw[hr]
  exact runW_none_len fuel _ out' out (by omega) o2.symm
theorem Hist.step {p:Prog1} {n outN:Nat} {t:Ghost} {rest:List Ghost} (h:Hist p n outN t rest) (hcl:∀ w l,w.pc < n→stepW p w=.ways l→∀ v∈l,v.pc < n)
 {hs:List Way} {found:Nat} (hh:(hs=t.e.w::t.hs∧found=t.e.found)∨(hs=[t.e.w]∧found=outN)) {v:Way} {l:List Way} (hs1:stepW p t.e.w=.ways (v::l)) :
 ∃ t' rest',Hist p n outN t' rest'∧t'.e::rest'.map (·.e)=(v::l).map (fun v=>if v.at_=t.e.w.at_ then⟨v,hs.length,found⟩ else⟨v,0,outN⟩)++rest.map (·.e):=by
 have hat:=h.at_ t (List.mem_cons_self ..)
 have hid:=h.idle t (List.mem_cons_self ..)
 have hf:found≤outN:=by rcases hh with ⟨_,h⟩|⟨_,h⟩<;>omega
 have hhs:∀ b∈hs,b.at_=t.e.w.at_∧b.pc < n:=fun b hb=>by
  rcases hh with ⟨e,_⟩|⟨e,_⟩
  ·rw[e]at hb
   rcases List.mem_cons.1 hb with e|e
   ·rw[e];exact⟨rfl,hat.1⟩
   ·exact hat.2 b e
  ·rw[e]at hb
   rw[List.mem_singleton.1 hb];exact⟨rfl,hat.1⟩
 have hch:Chain p found outN hs:=by
  rcases hh with ⟨e,e'⟩|⟨e,e'⟩
  ·rw[e,e'];exact h.now
  ·rw[e];exact⟨fun b hb=>by simp at hb,trivial⟩
 have hre:∀ b∈hs,∃ E S d m,rest.map (·.e.w)=E++S∧Reach p b v (l++E) d (m+1)∧found+d≤outN:=fun b hb=>by
  have self:∃ E S d m,rest.map (·.e.w)=E++S∧Reach p t.e.w v (l++E) d (m+1)∧found+d≤outN:=⟨[],_,0,0,rfl,.on (.refl _) hs1,by omega⟩
  rcases hh with ⟨e,e'⟩|⟨e,_⟩
  ·rw[e]at hb
   rcases List.mem_cons.1 hb with e|e
   ·rw[e];exact self
   ·obtain⟨E,S,d,m,r1,r2,r3,r4⟩:=h.reach 0 t rfl b e
    exact⟨E,S,d,m+1,r1,.on r3 hs1,by omega⟩
  ·rw[e]at hb
   rw[List.mem_singleton.1 hb];exact self
 let gh:Way→Ghost:=fun v=>if v.at_=t.e.w.at_ then⟨⟨v,hs.length,found⟩,hs⟩ else⟨⟨v,0,outN⟩,[]⟩
 have hgh:∀ v,(gh v).e.w=v:=fun v=>by simp only[gh];split<;>rfl
 have hghe:∀ v,(gh v).e=if v.at_=t.e.w.at_ then⟨v,hs.length,found⟩ else⟨v,0,outN⟩:=fun v=>by simp only[gh];split<;>rfl
 have hghs:∀ v,(gh v).hs=hs∧(gh v).e.found=found∨(gh v).hs=[]:=fun v=>by
  simp only[gh];split
  ·exact .inl ⟨rfl,rfl⟩
  ·exact .inr rfl
 have hpc:=hcl t.e.w (v::l) hat.1 hs1
 refine⟨gh v,l.map gh++rest,⟨fun g hg=>?_,fun g hg=>?_,fun g hg=>?_,fun i g hg b hb=>?_⟩,?_⟩
 ·have hcase:g∈(v::l).map gh∨g∈rest:=by simpa [or_assoc] using hg
  rcases hcase with hg|hg
  ·obtain⟨u,_,rfl⟩:=List.mem_map.1 hg
   simp only[gh];split
   ·exact⟨rfl,hf⟩
   ·exact⟨rfl,Nat.le_refl _⟩
  ·exact h.idle g (List.mem_cons_of_mem _ hg)
 ·have hcase:g∈(v::l).map gh∨g∈rest:=by simpa [or_assoc] using hg
  rcases hcase with hg|hg
  ·obtain⟨u,hu,rfl⟩:=List.mem_map.1 hg
   refine⟨by rw[hgh];exact hpc u hu,?_⟩
   simp only[gh];split
   ·rename_i e
    intro b hb
    rw[e];exact hhs b hb
   ·intro b hb;simp at hb
  ·exact h.at_ g (List.mem_cons_of_mem _ hg)
 ·have hcase:g∈(v::l).map gh∨g∈rest:=by simpa [or_assoc] using hg
  rcases hcase with hg|hg
  ·obtain⟨u,_,rfl⟩:=List.mem_map.1 hg
   simp only[gh];split
   ·exact hch
   ·exact trivial
  ·exact h.chain g (List.mem_cons_of_mem _ hg)
 ·have hmap:(l.map gh++rest).map (·.e.w)=l++rest.map (·.e.w):=by
   rw[List.map_append,List.map_map]
   congr 1
   rw[show ((fun x:Ghost=>x.e.w) ∘ gh)=id from funext hgh,List.map_id]
  rw[hmap,hgh]
  by_cases hi:i < (v::l).length
  ·have hg':((v::l).map gh)[i]?=some g:=by
    rw[show gh v::(l.map gh++rest)=(v::l).map gh++rest from rfl,List.getElem?_append_left (by simpa using hi)]at hg
    exact hg
   obtain⟨u,_,rfl⟩:=List.mem_map.1 (List.mem_of_getElem? hg')
   rcases hghs u with ⟨e1,e2⟩|e1
   ·rw[e1]at hb
    obtain⟨E,S,d,m,r1,r2,r3⟩:=hre b hb
    exact⟨l++E,S,d,m,by rw[r1,List.append_assoc],by simp at hi ⊢;omega,r2,by rw[e2];exact r3⟩
   ·rw[e1]at hb;simp at hb
  ·rw[show gh v::(l.map gh++rest)=(v::l).map gh++rest from rfl,List.getElem?_append_right (by simp at hi ⊢;omega)]at hg
   simp only[List.length_map]at hg
   obtain⟨E,S,d,m,r1,r2,r3,r4⟩:=h.reach (i - (v::l).length+1) g (by simpa using hg) b hb
   refine⟨l++E,S,d,m+1,by rw[r1,List.append_assoc],?_,.on r3 hs1,r4⟩
   simp at hi r2 ⊢;omega
 ·simp only[List.map_cons,List.map_append,List.map_map,List.cons_append,List.cons.injEq]
  exact⟨hghe v,by congr 1;exact List.map_congr_left fun u _=>hghe u⟩
theorem Hist.pop {p:Prog1} {n outN:Nat} {t e:Ghost} {rest:List Ghost} (h:Hist p n outN t (e::rest)) {k:Nat} (hs:(stepW p t.e.w=.ways []∧k=0)∨(stepW p t.e.w=.done∧k=1)):Hist p n (outN+k) e rest:=by
 refine⟨fun g hg=>?_,fun g hg=>h.at_ g (List.mem_cons_of_mem _ hg),fun g hg=>(h.chain g (List.mem_cons_of_mem _ hg)).mono (by omega),fun i g hg b hb=>?_⟩
 ·have:=h.idle g (List.mem_cons_of_mem _ hg)
  exact⟨this.1,by omega⟩
 ·obtain⟨E,S,d,m,r1,r2,r3,r4⟩:=h.reach (i+1) g (by simpa using hg) b hb
  cases E with
  | nil=>simp at r2
  | cons x E=>
    simp only[List.map_cons,List.cons_append,List.cons.injEq]at r1
    obtain⟨rfl,r1⟩:=r1
    rcases hs with ⟨hs,rfl⟩|⟨hs,rfl⟩
    ·exact⟨E,S,d,m+1,r1,by simpa using r2,.pop r3 hs,r4⟩
    ·exact⟨E,S,d+1,m+1,r1,by simpa using r2,.found r3 hs,by omega⟩
theorem runI_hist {p:Prog1} {n:Nat} {most:Int} (hcl:∀ w l,w.pc < n→stepW p w=.ways l→∀ v∈l,v.pc < n):∀(fuel:Nat) (t:Ghost) (rest:List Ghost) (out:List Way),Hist p n out.length t rest →
 runI p n most fuel (t.e::rest.map (·.e)) out=runW p most fuel (t.e.w::rest.map (·.e.w)) out:=by
 intro fuel
 induction fuel with
 | zero=>
   intro t rest out h
   unfold runI runW
   simp only[]
 | succ fuel ih=>
   intro t rest out h
   by_cases ho:(out.length:Int)=most
   ·unfold runI runW
    simp only[ho,if_true]
   ·by_cases hc:n≤t.e.idle∧(most = -1∨t.e.found=out.length)
    ·have h1:=h.circle hc.1 hc.2 ho (fuel+1)
     rw[h1]
     unfold runI
     simp only[ho,hc,and_self,if_true,if_false]
    ·unfold runI runW
     simp only[ho,hc,if_false]
     have hid:=h.idle t (List.mem_cons_self ..)
     have pop:∀ out',(∀ e rest',rest=e::rest'→Hist p n out'.length e rest')→runI p n most fuel (rest.map (·.e)) out' = runW p most fuel (rest.map (·.e.w)) out':=by
      intro out' hp
      cases rest with
      | nil=>unfold runI runW;rfl
      | cons e rest'=>exact ih e rest' out' (hp e rest' rfl)
     cases hs:stepW p t.e.w with
     | done=>
       simp only[nextI]
       refine pop _ (fun e rest' he=>?_)
       subst he
       have:=h.pop (k:=1) (.inr ⟨hs,rfl⟩)
       simpa using this
     | ways l=>
       simp only[nextI]
       cases l with
       | nil=>
         refine pop out (fun e rest' he=>?_)
         subst he
         have:=h.pop (k:=0) (.inl ⟨hs,rfl⟩)
         simpa using this
       | cons v l=>
         obtain⟨t',rest',h1,h2⟩:=h.step hcl (hs:=if n≤t.e.idle then [t.e.w] else t.e.w::t.hs) (found:=if n≤t.e.idle then out.length else t.e.found)
          (by split
              ·exact .inr ⟨rfl,rfl⟩
              ·exact .inl ⟨rfl,rfl⟩) hs
         have h3:=ih t' rest' out h1
         have hl:(if n≤t.e.idle then [t.e.w] else t.e.w::t.hs).length=if n≤t.e.idle then 1 else t.e.idle+1:=by
          split
          ·rfl
          ·simp[hid.1]
         rw[h2,hl]at h3
         rw[h3]
         have h4:t'.e.w::rest'.map (·.e.w)=(t'.e::rest'.map (·.e)).map (·.w):=by simp
         rw[h4,h2,List.map_append,List.map_map,List.map_map]
         congr 1
         congr 1
         rw[← List.map_id (v::l)]
         rw[List.map_map]
         refine List.map_congr_left fun u _=>?_
         simp only[Function.comp]
         split<;>rfl
theorem runI_eq {p:Prog1} {n:Nat} (hcl:∀ w l,w.pc < n→stepW p w=.ways l→∀ v∈l,v.pc < n) (most:Int) (fuel:Nat) (w:Way) (hw:w.pc < n) :
 runI p n most fuel [⟨w,0,0⟩] []=runW p most fuel [w] []:=
 runI_hist hcl fuel ⟨⟨w,0,0⟩,[]⟩ [] [] ⟨fun g hg=>by simp at hg;subst hg;exact⟨rfl,Nat.zero_le _⟩,fun g hg=>by simp at hg;subst hg;exact⟨hw,fun _ h=>by simp at h⟩,fun g hg=>by simp at hg;subst hg;exact trivial,
  fun i g hg h hh=>by
   match i,hg with
   | 0,hg=>simp at hg;subst hg;simp at hh
   | i+1,hg=>simp at hg⟩
end Go.Ev
namespace Go.Ev
attribute [local go_sem] eq_self bindW_some bindW_map bindW_ite bindW_iteN W_seq W_region W_draw W_cond W_condK W_ret W_skip W_exit W_scope W_label W_block blockK_norm blockK_ret blockK_exit WO_nil WO_cons WO_guard WD_nil WD_cons WD_guard guardV guardW_boolT guardW_boolF guardW_tup fpL_some fpL_none footprint thenK_norm thenK_ret thenK_exit put_some put_none ev_tmp ev_con ev_func ofK_int ofK_bool ofK_str ofK_nil evOp evBuiltin evCall evLen evAppend getElem_16 getElem_4 List.length_cons List.length_nil List.cons_append List.nil_append List.append_nil if_false if_true Bool.false_eq_true Bool.true_eq_false Option.map_some Option.map_none List.map_cons List.map_nil evBinOp evBin evUn asB_bool splitB_decide splitB_true splitB_false splitB_beq splitB_bne splitB_not endK_ret endK_norm List.getElem?_cons_zero List.getElem?_cons_succ evResults evResult packRes retK_norm retK_ret cellsAt mkVal evFieldAddr evField evIndexAddr evPart evStore evBuild evBuildSlice fillC fillE evSlice evMakeSlice evConvert getRow AV.cells List.head?_cons List.drop_zero List.drop_succ_cons List.take_zero List.take_succ_cons List.drop_nil List.take_nil List.all_cons List.all_nil AV.ok Bool.and_self Bool.and_true Bool.true_and and_self and_true true_and Nat.zero_add Nat.add_zero setCells splice pairsOk pairsX altW_none altW_some cfg_al WI_nil WI_cons FP.apart heapEq_refl sameAt_refl Bool.or_true Bool.true_or Bool.or_false srcElems elemsOf mutDst indDst roundK_norm roundK_exit roundK_ret List.length_map List.getElem?_map Int.toNat_natCast decide_true decide_false Bool.not_true Bool.not_false List.set set_0 set_1 set_2 set_3 set_4 look_hit look lookD_hit lookD_cons lookD_nil ins_hit ins upd_hit upd rem1_hit rem1 dropT dropSt_eq initT cfg_dd cfg_bd cfg_ra actL_nil actL_cons act1 updT_hit updT frzB retE_norm retE_ret bndO bnd evEq eqCells not_false_eq_true not_true_eq_false toList_some Array.size_empty List.length_append List.map_append endE_norm endE_ret head_take1 List.contains_nil List.contains_cons Bool.or_self dlt_t dlt_f dle_t dle_f dgt_t dgt_f dge_t dge_f beq_t beq_f bne_t bne_f lt_T le_T nle_T nle_F Go.IntWalk.i64_in Go.IntWalk.i64_quo Go.IntWalk.rem_in ty0 ty3 ty4
section
attribute [local go_sem] ty23 ty33 ty35 ty36 ty86 ty104 ty124 ty175 ty178
open Go.Proofs Go.RowKit Go.IntWalk
set_option maxRecDepth 100000
set_option linter.unusedSimpArgs false
set_option linter.unusedVariables false
set_option maxHeartbeats 4000000
theorem f120 (g:Prg) (n:Int) (b:MB) (hl:g.ins.length≤1000000) :
 call Try.prog pol1 120 [.int .i64 n,.rf 0 1 0 0] [.row 3 [.agg [.sl false (g.ins.map insAV),I g.caps,.bool g.runes]] 0,b] =
  some (.bool (decide (0≤n∧n < g.ins.length)),[.row 3 [.agg [.sl false (g.ins.map insAV),I g.caps,.bool g.runes]] 0,b]):=by
 refine call_run2 Try.func120 rfl rfl rfl rfl (by rfl) ?_
 by_cases h:0≤n
 ·by_cases h2:n < g.ins.length
  all_goals
   simp +contextual (disch:=omega) only[Try.f120,dd120,go_sem,↓reduceIte,List.reduceReplicate,Nat.reduceAdd,Nat.reduceSub,reduceCtorEq,Nat.reduceLeDiff,Nat.reduceMul,Nat.reduceLT,Nat.reduceEqDiff,Int.reduceBNe,Int.reduceBEq,Int.reduceEq,Int.reduceLT,Int.reduceLE,Int.reduceGT,Int.reduceGE,mu120,Nat.reduceBEq,↓wrap_up,↓wrap_down,↓wrap_pred,↓wrap_sub_nat,Int.reduceToNat]
   refine(retPol_keep rfl rfl rfl ?_ rfl).trans ?_
   ·simp[keptOk,MB.beq_refl]
   ·simp[h,h2]
 ·simp +contextual (disch:=omega) only[Try.f120,dd120,go_sem,↓reduceIte,List.reduceReplicate,Nat.reduceAdd,Nat.reduceSub,reduceCtorEq,Nat.reduceLeDiff,Nat.reduceMul,Nat.reduceLT,Nat.reduceEqDiff,Int.reduceBNe,Int.reduceBEq,Int.reduceEq,Int.reduceLT,Int.reduceLE,Int.reduceGT,Int.reduceGE,mu120,Nat.reduceBEq,↓wrap_up,↓wrap_down,↓wrap_pred,↓wrap_sub_nat,Int.reduceToNat]
  refine(retPol_keep rfl rfl rfl ?_ rfl).trans ?_
  ·simp[keptOk,MB.beq_refl]
  ·simp[h]
theorem refSpans_last {l:List (Int×Int)} (h:refSpans l=0) {p:Int×Int} (hp:l[l.length - 1]?=some p):p.2≤1114111:=by
 have hl:l.length - 1 < l.length:=(List.getElem?_eq_some_iff.1 hp).1
 cases hb:badAt l (l.length - 1) with
 | true=>rw[refSpans_bad hl hb]at h;cases h
 | false=>
   simp only[badAt,hp,Bool.or_eq_false_iff,Bool.not_eq_false',decide_eq_true_eq]at hb
   exact hb.1.2.2
theorem f69 (g:Prg) (i:Ins) (hc:0≤g.caps∧g.caps≤9) (hl:g.ins.length≤1000000) (hs:i.set.length≤1000000) (H:List MB) :
 call Try.prog pol1 69 [.agg [.sl false (g.ins.map insAV),I g.caps,.bool g.runes],.pt [I i.op,I i.x,I i.y,I i.n,.sl false (i.set.map spanAV)]] H=some (.bool (okIns g.ins.length g.caps g.runes i),H):=by
 refine call_run Try.func69 rfl rfl rfl rfl rfl rfl (fun _=>rfl) (by simp[AV.plain,AV.plainL,plain_ints,plain_span,plain_ins,plain_prg]) (by simp[AV.plain,AV.plainL,plain_ints,plain_span,plain_ins,plain_prg]) ?_ H
 obtain⟨op,x,y,n,set⟩:=i
 simp only[]at hs
 by_cases h1:op=1
 ·subst h1
  rcases Nat.eq_zero_or_pos set.length with hz|hz
  ·obtain rfl:set=[]:=List.length_eq_zero_iff.1 hz
   have ht:=f121 [] (by simp)
   have e:refSpans []=0:=by decide
   rw[e,List.map_nil]at ht
   cases hr:g.runes
   all_goals
    simp +contextual (disch:=omega) only[Try.f69,dd69,go_sem,↓reduceIte,List.reduceReplicate,Nat.reduceAdd,Nat.reduceSub,reduceCtorEq,Nat.reduceLeDiff,Nat.reduceMul,Nat.reduceLT,Nat.reduceEqDiff,Int.reduceBNe,Int.reduceBEq,Int.reduceEq,Int.reduceLT,Int.reduceLE,Int.reduceGT,Int.reduceGE,mu69,Nat.reduceBEq,↓wrap_up,↓wrap_down,↓wrap_pred,↓wrap_sub_nat,Int.reduceToNat,prgAV,ht,hr]
    repeat' (first|intro _|apply And.intro|refine fzEq rfl (congrArg AV.bool ?_)|(unfold dOk;kernel_rfl)|(show (_ && _)=true;kernel_rfl)|(show (_ || _)=true;kernel_rfl))
    all_goals (try rw[Bool.eq_iff_iff];try simp_all [okIns,lastOk];try omega)
  ·obtain⟨p,hp⟩:∃ p,set[set.length - 1]?=some p:=⟨_,List.getElem?_eq_getElem (by omega)⟩
   have ht:=f121 set hs
   have hq:refSpans set=0→p.2≤1114111:=fun h=>refSpans_last h hp
   cases hr:g.runes
   all_goals
    simp +contextual (disch:=omega) only[Try.f69,dd69,go_sem,↓reduceIte,List.reduceReplicate,Nat.reduceAdd,Nat.reduceSub,reduceCtorEq,Nat.reduceLeDiff,Nat.reduceMul,Nat.reduceLT,Nat.reduceEqDiff,Int.reduceBNe,Int.reduceBEq,Int.reduceEq,Int.reduceLT,Int.reduceLE,Int.reduceGT,Int.reduceGE,mu69,Nat.reduceBEq,↓wrap_up,↓wrap_down,↓wrap_pred,↓wrap_sub_nat,Int.reduceToNat,prgAV,ht,hr,hp,spanAV]
    repeat' (first|intro _|apply And.intro|refine fzEq rfl (congrArg AV.bool ?_)|(unfold dOk;kernel_rfl)|(show (_ && _)=true;kernel_rfl)|(show (_ || _)=true;kernel_rfl))
    all_goals (try rw[Bool.eq_iff_iff];try simp_all [okIns,lastOk];try omega)
 by_cases h0:op=0
 ·subst h0
  simp +contextual (disch:=omega) only[Try.f69,dd69,go_sem,↓reduceIte,List.reduceReplicate,Nat.reduceAdd,Nat.reduceSub,reduceCtorEq,Nat.reduceLeDiff,Nat.reduceMul,Nat.reduceLT,Nat.reduceEqDiff,Int.reduceBNe,Int.reduceBEq,Int.reduceEq,Int.reduceLT,Int.reduceLE,Int.reduceGT,Int.reduceGE,mu69,Nat.reduceBEq,↓wrap_up,↓wrap_down,↓wrap_pred,↓wrap_sub_nat,Int.reduceToNat,prgAV]
  repeat' (first|intro _|apply And.intro|refine fzEq rfl (congrArg AV.bool ?_)|(unfold dOk;kernel_rfl)|(show (_ && _)=true;kernel_rfl)|(show (_ || _)=true;kernel_rfl))
  all_goals (try rw[Bool.eq_iff_iff];try simp_all [okIns,-List.length_eq_zero_iff];try omega)
 by_cases h2:op=2
 ·subst h2
  simp +contextual (disch:=omega) only[Try.f69,dd69,go_sem,↓reduceIte,List.reduceReplicate,Nat.reduceAdd,Nat.reduceSub,reduceCtorEq,Nat.reduceLeDiff,Nat.reduceMul,Nat.reduceLT,Nat.reduceEqDiff,Int.reduceBNe,Int.reduceBEq,Int.reduceEq,Int.reduceLT,Int.reduceLE,Int.reduceGT,Int.reduceGE,mu69,Nat.reduceBEq,↓wrap_up,↓wrap_down,↓wrap_pred,↓wrap_sub_nat,Int.reduceToNat,prgAV,f120,hl]
  repeat' (first|intro _|apply And.intro|refine fzEq rfl (congrArg AV.bool ?_)|(unfold dOk;kernel_rfl)|(show (_ && _)=true;kernel_rfl)|(show (_ || _)=true;kernel_rfl))
  all_goals (try rw[Bool.eq_iff_iff];try simp_all [okIns,-List.length_eq_zero_iff];try omega)
 by_cases h3:op=3
 ·subst h3
  simp +contextual (disch:=omega) only[Try.f69,dd69,go_sem,↓reduceIte,List.reduceReplicate,Nat.reduceAdd,Nat.reduceSub,reduceCtorEq,Nat.reduceLeDiff,Nat.reduceMul,Nat.reduceLT,Nat.reduceEqDiff,Int.reduceBNe,Int.reduceBEq,Int.reduceEq,Int.reduceLT,Int.reduceLE,Int.reduceGT,Int.reduceGE,mu69,Nat.reduceBEq,↓wrap_up,↓wrap_down,↓wrap_pred,↓wrap_sub_nat,Int.reduceToNat,prgAV,f120,hl]
  repeat' (first|intro _|apply And.intro|refine fzEq rfl (congrArg AV.bool ?_)|(unfold dOk;kernel_rfl)|(show (_ && _)=true;kernel_rfl)|(show (_ || _)=true;kernel_rfl))
  all_goals (try rw[Bool.eq_iff_iff];try simp_all [okIns,-List.length_eq_zero_iff];try omega)
 by_cases h4:op=4
 ·subst h4
  simp +contextual (disch:=omega) only[Try.f69,dd69,go_sem,↓reduceIte,List.reduceReplicate,Nat.reduceAdd,Nat.reduceSub,reduceCtorEq,Nat.reduceLeDiff,Nat.reduceMul,Nat.reduceLT,Nat.reduceEqDiff,Int.reduceBNe,Int.reduceBEq,Int.reduceEq,Int.reduceLT,Int.reduceLE,Int.reduceGT,Int.reduceGE,mu69,Nat.reduceBEq,↓wrap_up,↓wrap_down,↓wrap_pred,↓wrap_sub_nat,Int.reduceToNat,prgAV]
  repeat' (first|intro _|apply And.intro|refine fzEq rfl (congrArg AV.bool ?_)|(unfold dOk;kernel_rfl)|(show (_ && _)=true;kernel_rfl)|(show (_ || _)=true;kernel_rfl))
  all_goals (try rw[Bool.eq_iff_iff];try simp_all [okIns,-List.length_eq_zero_iff];try omega)
 by_cases h5:op=5
 ·subst h5
  simp +contextual (disch:=omega) only[Try.f69,dd69,go_sem,↓reduceIte,List.reduceReplicate,Nat.reduceAdd,Nat.reduceSub,reduceCtorEq,Nat.reduceLeDiff,Nat.reduceMul,Nat.reduceLT,Nat.reduceEqDiff,Int.reduceBNe,Int.reduceBEq,Int.reduceEq,Int.reduceLT,Int.reduceLE,Int.reduceGT,Int.reduceGE,mu69,Nat.reduceBEq,↓wrap_up,↓wrap_down,↓wrap_pred,↓wrap_sub_nat,Int.reduceToNat,prgAV]
  repeat' (first|intro _|apply And.intro|refine fzEq rfl (congrArg AV.bool ?_)|(unfold dOk;kernel_rfl)|(show (_ && _)=true;kernel_rfl)|(show (_ || _)=true;kernel_rfl))
  all_goals (try rw[Bool.eq_iff_iff];try simp_all [okIns,-List.length_eq_zero_iff];try omega)
 simp +contextual (disch:=omega) only[Try.f69,dd69,go_sem,↓reduceIte,List.reduceReplicate,Nat.reduceAdd,Nat.reduceSub,reduceCtorEq,Nat.reduceLeDiff,Nat.reduceMul,Nat.reduceLT,Nat.reduceEqDiff,Int.reduceBNe,Int.reduceBEq,Int.reduceEq,Int.reduceLT,Int.reduceLE,Int.reduceGT,Int.reduceGE,mu69,Nat.reduceBEq,↓wrap_up,↓wrap_down,↓wrap_pred,↓wrap_sub_nat,Int.reduceToNat,prgAV]
 repeat' (first|intro _|apply And.intro|refine fzEq rfl (congrArg AV.bool ?_)|(unfold dOk;kernel_rfl)|(show (_ && _)=true;kernel_rfl)|(show (_ || _)=true;kernel_rfl))
 all_goals (try rw[Bool.eq_iff_iff];try simp_all [okIns,-List.length_eq_zero_iff];try omega)
end
section
attribute [local go_sem] tySzE List.head?_drop Nat.mul_one sameAt_zero sameAt_two sameAt_three sameAt_four sameAt_five room_ok ty22 ty23 ty33 ty35 ty36 ty53 ty104 ty112 ty115 ty117 ty119 ty120 ty124
open Go.Proofs Go.RowKit Go.IntWalk
set_option maxRecDepth 100000
set_option linter.unusedSimpArgs false
set_option linter.unusedVariables false
set_option maxHeartbeats 4000000
theorem f30 (g:Prg) (hb:PrgB g) (H:List MB):call Try.prog pol1 30 [.agg [.sl false (g.ins.map insAV),I g.caps,.bool g.runes]] H=some (I (validG g),H):=by
 obtain⟨hl,hs⟩:=hb
 refine call_run Try.func30 rfl rfl rfl rfl rfl rfl (fun _=>rfl) (by simp[AV.plain,AV.plainL,plain_ints,plain_span,plain_ins,plain_prg]) (by simp[AV.plain,AV.plainL,plain_ints,plain_span,plain_ins,plain_prg]) ?_ H
 by_cases h1:8192 < g.ins.length
 ·have e:validG g=4:=by simp[validG,h1]
  rw[e]
  simp +contextual (disch:=omega) only[Try.f30,dd30,go_sem,↓reduceIte,List.reduceReplicate,Nat.reduceAdd,Nat.reduceSub,reduceCtorEq,Nat.reduceLeDiff,Nat.reduceMul,Nat.reduceLT,Nat.reduceEqDiff,Int.reduceBNe,Int.reduceBEq,Int.reduceEq,Int.reduceLT,Int.reduceLE,Int.reduceGT,Int.reduceGE,mu30,Nat.reduceBEq,↓wrap_up,↓wrap_down,↓wrap_pred,↓wrap_sub_nat,Int.reduceToNat]
  exact fzEq rfl rfl
 by_cases h2:g.ins.length=0∨g.caps < 0∨9 < g.caps
 ·have e:validG g=1:=by unfold validG;rw[if_neg h1,if_pos h2]
  rw[e]
  simp +contextual (disch:=omega) only[Try.f30,dd30,go_sem,↓reduceIte,List.reduceReplicate,Nat.reduceAdd,Nat.reduceSub,reduceCtorEq,Nat.reduceLeDiff,Nat.reduceMul,Nat.reduceLT,Nat.reduceEqDiff,Int.reduceBNe,Int.reduceBEq,Int.reduceEq,Int.reduceLT,Int.reduceLE,Int.reduceGT,Int.reduceGE,mu30,Nat.reduceBEq,↓wrap_up,↓wrap_down,↓wrap_pred,↓wrap_sub_nat,Int.reduceToNat]
  repeat' (first|intro _|apply And.intro|exact fzEq rfl rfl)
  all_goals (exfalso;omega)
 simp +contextual (disch:=omega) only[Try.f30,dd30,go_sem,↓reduceIte,List.reduceReplicate,Nat.reduceAdd,Nat.reduceSub,reduceCtorEq,Nat.reduceLeDiff,Nat.reduceMul,Nat.reduceLT,Nat.reduceEqDiff,Int.reduceBNe,Int.reduceBEq,Int.reduceEq,Int.reduceLT,Int.reduceLE,Int.reduceGT,Int.reduceGE,mu30,Nat.reduceBEq,↓wrap_up,↓wrap_down,↓wrap_pred,↓wrap_sub_nat,Int.reduceToNat]
 refine W_count (M:=(mskOf (pol1.mask 30) (pol1.gc 30) (pol1.acts 30) 0 6)) rfl g.ins.length (fun i=>(⟨49,[(25,I i),(24,I g.ins.length),(1,.rf 0 1 0 0)],[.row 3 [prgAV g] 0]⟩:St))
  (fun i=>∀ k p,k < i→g.ins[k]?=some p→okIns g.ins.length g.caps g.runes p=true) ?_ ?_ (fun k p h=>by omega) _ (by first|rfl|(refine prep_cut rfl (by rfl) (by rfl) (by rfl) ?_ ?_<;>simp[AV.underL,AV.under,MB.under,underL_plain,under_plain,plain_ints,plain_span,plain_ins,plain_prg,-List.map_take]))
 ·intro i hi hg
  obtain⟨p,hp⟩:∃ p,g.ins[i]?=some p:=⟨_,List.getElem?_eq_getElem hi⟩
  have hsp:=hs p (List.mem_of_getElem? hp)
  have hf:=f69 g p (by omega) hl hsp
  cases hok:okIns g.ins.length g.caps g.runes p
  ·rw[hok]at hf
   simp +contextual (disch:=omega) only[Try.f30,dd30,go_sem,↓reduceIte,List.reduceReplicate,Nat.reduceAdd,Nat.reduceSub,reduceCtorEq,Nat.reduceLeDiff,Nat.reduceMul,Nat.reduceLT,Nat.reduceEqDiff,Int.reduceBNe,Int.reduceBEq,Int.reduceEq,Int.reduceLT,Int.reduceLE,Int.reduceGT,Int.reduceGE,mu30,Nat.reduceBEq,↓wrap_up,↓wrap_down,↓wrap_pred,↓wrap_sub_nat,Int.reduceToNat,hp,hf]
   refine⟨by unfold dOk;kernel_rfl,fzEq rfl ?_⟩
   rw[validG_bad h1 hp hok]
  ·rw[hok]at hf
   simp +contextual (disch:=omega) only[Try.f30,dd30,go_sem,↓reduceIte,List.reduceReplicate,Nat.reduceAdd,Nat.reduceSub,reduceCtorEq,Nat.reduceLeDiff,Nat.reduceMul,Nat.reduceLT,Nat.reduceEqDiff,Int.reduceBNe,Int.reduceBEq,Int.reduceEq,Int.reduceLT,Int.reduceLE,Int.reduceGT,Int.reduceGE,mu30,Nat.reduceBEq,↓wrap_up,↓wrap_down,↓wrap_pred,↓wrap_sub_nat,Int.reduceToNat,hp,hf]
   refine⟨by unfold dOk;kernel_rfl,fun k q hk hq=>?_,(by first|rfl|(refine prep_cut rfl (by rfl) (by rfl) (by rfl) ?_ ?_<;>simp[AV.underL,AV.under,MB.under,underL_plain,under_plain,plain_ints,plain_span,plain_ins,plain_prg,-List.map_take]))⟩
   rcases Nat.lt_or_ge k i with h|h
   ·exact hg k q h hq
   ·obtain rfl:k=i:=by omega
    rw[hp]at hq
    obtain rfl:=Option.some.inj hq
    exact hok
 ·intro hg
  rw[validG_last h1 h2 (fun k p hk hp=>hg k p hk hp)]
  obtain⟨p,hp⟩:∃ p,g.ins[g.ins.length - 1]?=some p:=⟨_,List.getElem?_eq_getElem (by omega)⟩
  have e:lastGood g=(p.op == 0 || p.op == 2 || p.op == 3):=by simp[lastGood,hp]
  rw[e]
  simp +contextual (disch:=omega) only[Try.f30,dd30,go_sem,↓reduceIte,List.reduceReplicate,Nat.reduceAdd,Nat.reduceSub,reduceCtorEq,Nat.reduceLeDiff,Nat.reduceMul,Nat.reduceLT,Nat.reduceEqDiff,Int.reduceBNe,Int.reduceBEq,Int.reduceEq,Int.reduceLT,Int.reduceLE,Int.reduceGT,Int.reduceGE,mu30,Nat.reduceBEq,↓wrap_up,↓wrap_down,↓wrap_pred,↓wrap_sub_nat,Int.reduceToNat,hp]
  repeat' (first|intro _|apply And.intro|refine fzEq rfl ?_)
  all_goals (congr 1<;>simp<;>omega)
def checkG (g:Prg) (n:Nat) (pos most fuel:Int):Int:=
 if validG g≠0 then validG g
 else if 65536 < n then 4
 else if pos < 0∨(n:Int) < pos∨most < -1 then 5
 else if fuel < 0∨1099511627776 < fuel then 1 else 0
theorem f58 (g:Prg) (hb:PrgB g) (t:List Int) (ht:t.length≤1000000000) (pos most fuel:Int) (H:List MB) :
 call Try.prog pol1 58 [.agg [.sl false (g.ins.map insAV),I g.caps,.bool g.runes],.sl false (t.map I),I pos,I most,I fuel] H=some (I (checkG g t.length pos most fuel),H):=by
 refine call_run Try.func58 rfl rfl rfl rfl rfl rfl (fun _=>rfl) (by simp[AV.plain,AV.plainL,plain_ints,plain_span,plain_ins,plain_prg]) (by simp[AV.plain,AV.plainL,plain_ints,plain_span,plain_ins,plain_prg]) ?_ H
 have hv:=f30 g hb
 unfold checkG
 by_cases h1:validG g=0
 ·rw[h1]at hv
  rw[if_neg (by simp[h1])]
  simp +contextual (disch:=omega) only[Try.f58,dd58,go_sem,↓reduceIte,List.reduceReplicate,Nat.reduceAdd,Nat.reduceSub,reduceCtorEq,Nat.reduceLeDiff,Nat.reduceMul,Nat.reduceLT,Nat.reduceEqDiff,Int.reduceBNe,Int.reduceBEq,Int.reduceEq,Int.reduceLT,Int.reduceLE,Int.reduceGT,Int.reduceGE,mu58,Nat.reduceBEq,↓wrap_up,↓wrap_down,↓wrap_pred,↓wrap_sub_nat,Int.reduceToNat,hv]
  repeat' (first|intro _|apply And.intro|refine fzEq rfl (congrArg (AV.int .i64) ?_))
  all_goals (repeat' split)
  all_goals first|omega|(simp_all;done)|(simp_all;omega)
 ·rw[if_pos h1]
  simp +contextual (disch:=omega) only[Try.f58,dd58,go_sem,↓reduceIte,List.reduceReplicate,Nat.reduceAdd,Nat.reduceSub,reduceCtorEq,Nat.reduceLeDiff,Nat.reduceMul,Nat.reduceLT,Nat.reduceEqDiff,Int.reduceBNe,Int.reduceBEq,Int.reduceEq,Int.reduceLT,Int.reduceLE,Int.reduceGT,Int.reduceGE,mu58,Nat.reduceBEq,↓wrap_up,↓wrap_down,↓wrap_pred,↓wrap_sub_nat,Int.reduceToNat,hv]
  exact fzEq rfl rfl
theorem fz_prg (g:Prg):fz (.rf 0 1 0 0) [.row 3 [.agg [.sl false (g.ins.map insAV),I g.caps,.bool g.runes]] 0]=some (.pt [.sl false (g.ins.map insAV),I g.caps,.bool g.runes],[.row 3 [.agg [.sl false (g.ins.map insAV),I g.caps,.bool g.runes]] 1]):=by
 have hp:AV.plainL [AV.sl false (g.ins.map insAV),I g.caps,.bool g.runes]=true:=by simp[AV.plain,AV.plainL,plain_ins]
 exact fz_rf (x:=.agg [.sl false (g.ins.map insAV),I g.caps,.bool g.runes]) (k:=3) (z:=0) rfl rfl rfl hp
theorem f23e (g:Prg) (hb:PrgB g) (t:List Int) (ht:t.length≤1000000000) (pos most fuel:Int) (he:checkG g t.length pos most fuel≠0) (H:List MB) :
 call Try.prog pol1 23 [.agg [.sl false (g.ins.map insAV),I g.caps,.bool g.runes],.sl false (t.map I),I pos,I most,I fuel] H=some (.tup [.sl false [],I (checkG g t.length pos most fuel)],H):=by
 refine call_run Try.func23 rfl rfl rfl rfl rfl rfl (fun _=>rfl) (by simp[AV.plain,AV.plainL,plain_ints,plain_span,plain_ins,plain_prg]) (by simp[AV.plain,AV.plainL,plain_ints,plain_span,plain_ins,plain_prg]) ?_ H
 have hc:=f58 g hb t ht pos most fuel
 generalize checkG g t.length pos most fuel=c at *
 have hz:=fz_prg g
 simp +contextual (disch:=omega) only[Try.f23,dd23,go_sem,↓reduceIte,List.reduceReplicate,Nat.reduceAdd,Nat.reduceSub,reduceCtorEq,Nat.reduceLeDiff,Nat.reduceMul,Nat.reduceLT,Nat.reduceEqDiff,Int.reduceBNe,Int.reduceBEq,Int.reduceEq,Int.reduceLT,Int.reduceLE,Int.reduceGT,Int.reduceGE,mu23,Nat.reduceBEq,↓wrap_up,↓wrap_down,↓wrap_pred,↓wrap_sub_nat,Int.reduceToNat,hc,hz,lookD,look]
 exact⟨_,rfl⟩
end
section
attribute [local go_sem] ty22 ty36 ty41
open Go.Proofs Go.RowKit Go.IntWalk
set_option maxRecDepth 100000
set_option linter.unusedSimpArgs false
set_option linter.unusedVariables false
set_option maxHeartbeats 4000000
end
section
attribute [local go_sem] ty22
open Go.Proofs Go.RowKit Go.IntWalk
set_option maxRecDepth 100000
set_option linter.unusedSimpArgs false
set_option linter.unusedVariables false
set_option maxHeartbeats 4000000
def assertI (n:Int) (b a:Option Int):Bool:=
 let w:=fun(o:Option Int)=>match o with
  | some x=>wordI x
  | none=>false
 let e:=fun(o:Option Int)=>match o with
  | some x=>x == 10
  | none=>true
 if n=0 then b.isNone else if n=1 then a.isNone else if n=2 then e b else if n=3 then e a else if n=4 then w b != w a else if n=5 then w b == w a else false
def befS (t:List Int) (k:Nat):Option Int:=if k=0 then none else t[k - 1]?
end
section
attribute [local go_sem] ty22
open Go.Proofs Go.RowKit Go.IntWalk
set_option maxRecDepth 100000
set_option linter.unusedSimpArgs false
set_option linter.unusedVariables false
set_option maxHeartbeats 4000000
theorem f61 (n:Int) (t:List Int) (k:Nat) (hk:k≤t.length) (ht:t.length≤1000000000) (H:List MB):call Try.prog pol1 61 [I n,.sl false (t.map I),I k] H=some (.bool (assertI n (befS t k) t[k]?),H):=by
 refine call_run Try.func61 rfl rfl rfl rfl rfl rfl (fun _=>rfl) (by simp[AV.plain,AV.plainL,plain_ints,plain_span,plain_ins,plain_prg]) (by simp[AV.plain,AV.plainL,plain_ints,plain_span,plain_ins,plain_prg]) ?_ H
 rcases k with _|k
 ·rcases t with _|⟨x,t⟩
  ·simp +contextual (disch:=omega) only[Try.f61,dd61,go_sem,↓reduceIte,List.reduceReplicate,Nat.reduceAdd,Nat.reduceSub,reduceCtorEq,Nat.reduceLeDiff,Nat.reduceMul,Nat.reduceLT,Nat.reduceEqDiff,Int.reduceBNe,Int.reduceBEq,Int.reduceEq,Int.reduceLT,Int.reduceLE,Int.reduceGT,Int.reduceGE,mu61,Nat.reduceBEq,↓wrap_up,↓wrap_down,↓wrap_pred,↓wrap_sub_nat,Int.reduceToNat,f117]
   repeat' (first|intro _|apply And.intro|(unfold dOk;kernel_rfl)|(show (_ && _)=true;kernel_rfl)|(show (_ || _)=true;kernel_rfl)|refine fzEq rfl (congrArg AV.bool ?_))
   all_goals (simp_all [assertI,befS])
  ·simp +contextual (disch:=omega) only[Try.f61,dd61,go_sem,↓reduceIte,List.reduceReplicate,Nat.reduceAdd,Nat.reduceSub,reduceCtorEq,Nat.reduceLeDiff,Nat.reduceMul,Nat.reduceLT,Nat.reduceEqDiff,Int.reduceBNe,Int.reduceBEq,Int.reduceEq,Int.reduceLT,Int.reduceLE,Int.reduceGT,Int.reduceGE,mu61,Nat.reduceBEq,↓wrap_up,↓wrap_down,↓wrap_pred,↓wrap_sub_nat,Int.reduceToNat,f117]
   repeat' (first|intro _|apply And.intro|(unfold dOk;kernel_rfl)|(show (_ && _)=true;kernel_rfl)|(show (_ || _)=true;kernel_rfl)|refine fzEq rfl (congrArg AV.bool ?_))
   all_goals (simp_all [assertI,befS])
 ·obtain⟨p,hp⟩:∃ p,t[k]?=some p:=⟨_,List.getElem?_eq_getElem (by omega)⟩
  have hbf:befS t (k+1)=some p:=by simp[befS,hp]
  rw[hbf]
  by_cases he:k+1=t.length
  ·have hq:t[k+1]?=none:=List.getElem?_eq_none (by omega)
   rw[hq]
   simp +contextual (disch:=omega) only[Try.f61,dd61,go_sem,↓reduceIte,List.reduceReplicate,Nat.reduceAdd,Nat.reduceSub,reduceCtorEq,Nat.reduceLeDiff,Nat.reduceMul,Nat.reduceLT,Nat.reduceEqDiff,Int.reduceBNe,Int.reduceBEq,Int.reduceEq,Int.reduceLT,Int.reduceLE,Int.reduceGT,Int.reduceGE,mu61,Nat.reduceBEq,↓wrap_up,↓wrap_down,↓wrap_pred,↓wrap_sub_nat,Int.reduceToNat,f117,hp]
   repeat' (first|intro _|apply And.intro|(unfold dOk;kernel_rfl)|(show (_ && _)=true;kernel_rfl)|(show (_ || _)=true;kernel_rfl)|refine fzEq rfl (congrArg AV.bool ?_))
   all_goals (simp_all [assertI])
  ·obtain⟨q,hq⟩:∃ q,t[k+1]?=some q:=⟨_,List.getElem?_eq_getElem (by omega)⟩
   rw[hq]
   simp +contextual (disch:=omega) only[Try.f61,dd61,go_sem,↓reduceIte,List.reduceReplicate,Nat.reduceAdd,Nat.reduceSub,reduceCtorEq,Nat.reduceLeDiff,Nat.reduceMul,Nat.reduceLT,Nat.reduceEqDiff,Int.reduceBNe,Int.reduceBEq,Int.reduceEq,Int.reduceLT,Int.reduceLE,Int.reduceGT,Int.reduceGE,mu61,Nat.reduceBEq,↓wrap_up,↓wrap_down,↓wrap_pred,↓wrap_sub_nat,Int.reduceToNat,f117,hp,hq]
   repeat' (first|intro _|apply And.intro|(unfold dOk;kernel_rfl)|(show (_ && _)=true;kernel_rfl)|(show (_ || _)=true;kernel_rfl)|refine fzEq rfl (congrArg AV.bool ?_))
   all_goals first|(simp_all [assertI];done)|(simp_all [assertI];cases wordI p<;>cases wordI q<;>rfl)
end
section
attribute [local go_sem] tySzE List.head?_drop Nat.mul_one sameAt_zero sameAt_two sameAt_three sameAt_four sameAt_five room_ok ty53 ty110 ty112 ty174
open Go.Proofs Go.RowKit Go.IntWalk
set_option maxRecDepth 100000
set_option linter.unusedSimpArgs false
set_option linter.unusedVariables false
set_option maxHeartbeats 4000000
abbrev M3:=Int×Int×List (Int×Int)
abbrev mA (m:M3):AV:=matAV m.1 m.2.1 m.2.2
theorem plain_mats (l:List M3):AV.plainL (l.map mA)=true:=by
 induction l with
 | nil=>rfl
 | cons a l ih=>simp[AV.plainL,ih,plain_mat]
theorem f67 (a b:M3) (ha:a.2.2.length≤1000) (hb:b.2.2.length≤1000) (H:List MB):call Try.prog pol1 67 [mA a,mA b] H=some (.bool (decide (a=b)),H):=by
 obtain⟨s,e,c⟩:=a
 obtain⟨s',e',c'⟩:=b
 simp only at ha hb
 refine call_run Try.func67 rfl rfl rfl rfl rfl rfl (fun _=>rfl) (by simp[AV.plain,AV.plainL,plain_mat]) rfl ?_ H
 by_cases h:s=s'∧e=e'∧c.length=c'.length
 ·obtain⟨rfl,rfl,hl⟩:=h
  have hl':(c.length:Int)=(c'.length:Int):=by rw[hl]
  simp +contextual (disch:=omega) only[Try.f67,dd67,go_sem,↓reduceIte,List.reduceReplicate,Nat.reduceAdd,Nat.reduceSub,reduceCtorEq,Nat.reduceLeDiff,Nat.reduceMul,Nat.reduceLT,Nat.reduceEqDiff,Int.reduceBNe,Int.reduceBEq,Int.reduceEq,Int.reduceLT,Int.reduceLE,Int.reduceGT,Int.reduceGE,mu67,Nat.reduceBEq,↓wrap_up,↓wrap_down,↓wrap_pred,↓wrap_sub_nat,Int.reduceToNat,matAV,hl']
  refine W_count (M:=(mskOf (pol1.mask 67) (pol1.gc 67) (pol1.acts 67) 0 4)) rfl c.length (fun i=>(⟨45,[(5,I i),(3,.rf 1 1 0 0),(2,.rf 0 1 0 0)],[.row 3 [.agg [I s,I e,.sl false (c.map spanAV)]] 0,.row 3 [.agg [I s,I e,.sl false (c'.map spanAV)]] 0]⟩:St))
   (fun i=>∀ k,k < i→c[k]?=c'[k]?) ?_ ?_ (fun k h=>by omega) _ (by first|rfl|(simp[keepT,AV.underL,AV.under,MB.under,underL_plain,under_plain,underL_append,plain_ints,plain_span,plain_ins,plain_prg,-List.map_take,-List.map_replicate,-List.map_set];done))
  ·intro i hi hg
   obtain⟨p,hp⟩:∃ p,c[i]?=some p:=⟨_,List.getElem?_eq_getElem hi⟩
   obtain⟨q,hq⟩:∃ q,c'[i]?=some q:=⟨_,List.getElem?_eq_getElem (by omega)⟩
   by_cases hpq:p=q
   ·subst hpq
    simp +contextual (disch:=omega) only[Try.f67,dd67,go_sem,↓reduceIte,List.reduceReplicate,Nat.reduceAdd,Nat.reduceSub,reduceCtorEq,Nat.reduceLeDiff,Nat.reduceMul,Nat.reduceLT,Nat.reduceEqDiff,Int.reduceBNe,Int.reduceBEq,Int.reduceEq,Int.reduceLT,Int.reduceLE,Int.reduceGT,Int.reduceGE,mu67,Nat.reduceBEq,↓wrap_up,↓wrap_down,↓wrap_pred,↓wrap_sub_nat,Int.reduceToNat,hp,hq,spanAV]
    refine⟨by unfold dOk;kernel_rfl,fun k hk=>?_,(by first|rfl|(simp[keepT,AV.underL,AV.under,MB.under,underL_plain,under_plain,underL_append,plain_ints,plain_span,plain_ins,plain_prg,-List.map_take,-List.map_replicate,-List.map_set];done))⟩
    rcases Nat.lt_or_ge k i with h|h
    ·exact hg k h
    ·obtain rfl:k=i:=by omega
     rw[hp,hq]
   ·have hne:¬ ((s,e,c):M3)=(s,e,c'):=fun he=>hpq (by
     cases he
     rw[hp]at hq
     exact Option.some.inj hq)
    have hb2:(p.1 == q.1 && p.2 == q.2)=false:=by
     rw[Bool.eq_false_iff]
     intro he
     simp at he
     exact hpq (Prod.ext he.1 he.2)
    rw[decide_eq_false hne]
    simp +contextual (disch:=omega) only[Try.f67,dd67,go_sem,↓reduceIte,List.reduceReplicate,Nat.reduceAdd,Nat.reduceSub,reduceCtorEq,Nat.reduceLeDiff,Nat.reduceMul,Nat.reduceLT,Nat.reduceEqDiff,Int.reduceBNe,Int.reduceBEq,Int.reduceEq,Int.reduceLT,Int.reduceLE,Int.reduceGT,Int.reduceGE,mu67,Nat.reduceBEq,↓wrap_up,↓wrap_down,↓wrap_pred,↓wrap_sub_nat,Int.reduceToNat,hp,hq,spanAV,hb2]
    repeat' (first|intro _|apply And.intro|(unfold dOk;kernel_rfl)|exact St.beq_refl _|(show altO _ _ _ _=true;kernel_rfl)|(show (_ || _)=true;kernel_rfl)|(show (_ && _)=true;kernel_rfl))
    all_goals exact fzEq rfl rfl
  ·intro hg
   have hcc:c=c':=List.ext_getElem? fun k=>by
    rcases Nat.lt_or_ge k c.length with h|h
    ·exact hg k h
    ·rw[List.getElem?_eq_none h,List.getElem?_eq_none (by omega)]
   subst hcc
   simp +contextual (disch:=omega) only[Try.f67,dd67,go_sem,↓reduceIte,List.reduceReplicate,Nat.reduceAdd,Nat.reduceSub,reduceCtorEq,Nat.reduceLeDiff,Nat.reduceMul,Nat.reduceLT,Nat.reduceEqDiff,Int.reduceBNe,Int.reduceBEq,Int.reduceEq,Int.reduceLT,Int.reduceLE,Int.reduceGT,Int.reduceGE,mu67,Nat.reduceBEq,↓wrap_up,↓wrap_down,↓wrap_pred,↓wrap_sub_nat,Int.reduceToNat]
   exact fzEq rfl (by simp)
 ·rw[decide_eq_false (fun e=>h (by cases e;exact⟨rfl,rfl,rfl⟩))]
  simp +contextual (disch:=omega) only[Try.f67,dd67,go_sem,↓reduceIte,List.reduceReplicate,Nat.reduceAdd,Nat.reduceSub,reduceCtorEq,Nat.reduceLeDiff,Nat.reduceMul,Nat.reduceLT,Nat.reduceEqDiff,Int.reduceBNe,Int.reduceBEq,Int.reduceEq,Int.reduceLT,Int.reduceLE,Int.reduceGT,Int.reduceGE,mu67,Nat.reduceBEq,↓wrap_up,↓wrap_down,↓wrap_pred,↓wrap_sub_nat,Int.reduceToNat,matAV]
  repeat' (first|intro _|apply And.intro|(unfold dOk;kernel_rfl)|exact St.beq_refl _|(show altO _ _ _ _=true;kernel_rfl)|(show (_ || _)=true;kernel_rfl)|(show (_ && _)=true;kernel_rfl))
  all_goals exact fzEq rfl rfl
theorem f26 (a b:List M3) (ha:a.length≤2000000) (hb:b.length≤2000000) (hca:∀ m∈a,m.2.2.length≤1000) (hcb:∀ m∈b,m.2.2.length≤1000) (H:List MB) :
 call Try.prog pol1 26 [.sl false (a.map mA),.sl false (b.map mA)] H=some (.bool (decide (a=b)),H):=by
 refine call_run Try.func26 rfl rfl rfl rfl rfl rfl (fun _=>rfl) (by simp[AV.plain,AV.plainL,plain_mats]) rfl ?_ H
 by_cases hl:a.length=b.length
 ·have hl':(a.length:Int)=(b.length:Int):=by rw[hl]
  simp +contextual (disch:=omega) only[Try.f26,dd26,go_sem,↓reduceIte,List.reduceReplicate,Nat.reduceAdd,Nat.reduceSub,reduceCtorEq,Nat.reduceLeDiff,Nat.reduceMul,Nat.reduceLT,Nat.reduceEqDiff,Int.reduceBNe,Int.reduceBEq,Int.reduceEq,Int.reduceLT,Int.reduceLE,Int.reduceGT,Int.reduceGE,mu26,Nat.reduceBEq,↓wrap_up,↓wrap_down,↓wrap_pred,↓wrap_sub_nat,Int.reduceToNat,hl']
  refine W_count (M:=(mskOf (pol1.mask 26) (pol1.gc 26) (pol1.acts 26) 0 4)) rfl a.length (fun i=>(⟨27,[(5,I i),(1,.sl false (b.map mA)),(0,.sl false (a.map mA))],[]⟩:St))
   (fun i=>∀ k,k < i→a[k]?=b[k]?) ?_ ?_ (fun k h=>by omega) _ (by first|rfl|(simp[keepT,AV.underL,AV.under,MB.under,underL_plain,under_plain,underL_append,plain_ints,plain_span,plain_ins,plain_prg,-List.map_take,-List.map_replicate,-List.map_set];done))
  ·intro i hi hg
   obtain⟨p,hp⟩:∃ p,a[i]?=some p:=⟨_,List.getElem?_eq_getElem hi⟩
   obtain⟨q,hq⟩:∃ q,b[i]?=some q:=⟨_,List.getElem?_eq_getElem (by omega)⟩
   have h67:=f67 p q (hca p (List.mem_of_getElem? hp)) (hcb q (List.mem_of_getElem? hq))
   by_cases hpq:p=q
   ·subst hpq
    rw[decide_eq_true rfl]at h67
    have h67:=fun H=>h67 H
    simp only[mA,matAV]at h67
    simp +contextual (disch:=omega) only[Try.f26,dd26,go_sem,↓reduceIte,List.reduceReplicate,Nat.reduceAdd,Nat.reduceSub,reduceCtorEq,Nat.reduceLeDiff,Nat.reduceMul,Nat.reduceLT,Nat.reduceEqDiff,Int.reduceBNe,Int.reduceBEq,Int.reduceEq,Int.reduceLT,Int.reduceLE,Int.reduceGT,Int.reduceGE,mu26,Nat.reduceBEq,↓wrap_up,↓wrap_down,↓wrap_pred,↓wrap_sub_nat,Int.reduceToNat,hp,hq,h67,mA,matAV]
    refine⟨by unfold dOk;kernel_rfl,fun k hk=>?_,(by first|rfl|(simp[keepT,AV.underL,AV.under,MB.under,underL_plain,under_plain,underL_append,plain_ints,plain_span,plain_ins,plain_prg,-List.map_take,-List.map_replicate,-List.map_set];done))⟩
    rcases Nat.lt_or_ge k i with h|h
    ·exact hg k h
    ·obtain rfl:k=i:=by omega
     rw[hp,hq]
   ·have hne:¬ a=b:=fun he=>hpq (by
     rw[he,hq]at hp
     exact(Option.some.inj hp).symm)
    rw[decide_eq_false hne]
    rw[decide_eq_false hpq]at h67
    simp only[mA,matAV]at h67
    simp +contextual (disch:=omega) only[Try.f26,dd26,go_sem,↓reduceIte,List.reduceReplicate,Nat.reduceAdd,Nat.reduceSub,reduceCtorEq,Nat.reduceLeDiff,Nat.reduceMul,Nat.reduceLT,Nat.reduceEqDiff,Int.reduceBNe,Int.reduceBEq,Int.reduceEq,Int.reduceLT,Int.reduceLE,Int.reduceGT,Int.reduceGE,mu26,Nat.reduceBEq,↓wrap_up,↓wrap_down,↓wrap_pred,↓wrap_sub_nat,Int.reduceToNat,hp,hq,h67,mA,matAV]
    repeat' (first|intro _|apply And.intro|(unfold dOk;kernel_rfl)|exact St.beq_refl _|(show altO _ _ _ _=true;kernel_rfl)|(show (_ || _)=true;kernel_rfl)|(show (_ && _)=true;kernel_rfl))
    all_goals exact fzEq rfl rfl
  ·intro hg
   have hcc:a=b:=List.ext_getElem? fun k=>by
    rcases Nat.lt_or_ge k a.length with h|h
    ·exact hg k h
    ·rw[List.getElem?_eq_none h,List.getElem?_eq_none (by omega)]
   subst hcc
   simp +contextual (disch:=omega) only[Try.f26,dd26,go_sem,↓reduceIte,List.reduceReplicate,Nat.reduceAdd,Nat.reduceSub,reduceCtorEq,Nat.reduceLeDiff,Nat.reduceMul,Nat.reduceLT,Nat.reduceEqDiff,Int.reduceBNe,Int.reduceBEq,Int.reduceEq,Int.reduceLT,Int.reduceLE,Int.reduceGT,Int.reduceGE,mu26,Nat.reduceBEq,↓wrap_up,↓wrap_down,↓wrap_pred,↓wrap_sub_nat,Int.reduceToNat]
   exact fzEq rfl (by simp)
 ·rw[decide_eq_false (fun e=>hl (by rw[e]))]
  simp +contextual (disch:=omega) only[Try.f26,dd26,go_sem,↓reduceIte,List.reduceReplicate,Nat.reduceAdd,Nat.reduceSub,reduceCtorEq,Nat.reduceLeDiff,Nat.reduceMul,Nat.reduceLT,Nat.reduceEqDiff,Int.reduceBNe,Int.reduceBEq,Int.reduceEq,Int.reduceLT,Int.reduceLE,Int.reduceGT,Int.reduceGE,mu26,Nat.reduceBEq,↓wrap_up,↓wrap_down,↓wrap_pred,↓wrap_sub_nat,Int.reduceToNat]
  repeat' (first|intro _|apply And.intro|(unfold dOk;kernel_rfl)|exact St.beq_refl _|(show altO _ _ _ _=true;kernel_rfl)|(show (_ || _)=true;kernel_rfl)|(show (_ && _)=true;kernel_rfl))
  all_goals first|exact fzEq rfl rfl|omega
end
end Go.Ev
namespace Go.Ev
open Go.Proofs Go.RowKit Go.IntWalk
set_option maxRecDepth 100000
set_option linter.unusedSimpArgs false
set_option linter.unusedVariables false
set_option maxHeartbeats 4000000
def progOf (g:Prg) (t:List Int):Prog1:=⟨fun pc=>g.ins[pc]?,fun s k=>match t[k]? with
 | some x=>hasSpan s x
 | none=>false,fun n k=>assertI n (befS t k) t[k]?⟩
structure Okay (g:Prg):Prop where
 len:1≤g.ins.length∧g.ins.length≤8192
 caps:0≤g.caps∧g.caps≤9
 ok:∀ i∈g.ins,okIns g.ins.length g.caps g.runes i=true
 last:lastGood g=true
theorem okay_of {g:Prg} (h:validG g=0):Okay g:=by
 unfold validG at h
 split at h
 ·cases h
 ·split at h
  ·cases h
  ·split at h
   ·rename_i h1 h2 h3
    simp only[Bool.and_eq_true,List.all_eq_true]at h3
    exact⟨by omega,by omega,h3.1,h3.2⟩
   ·cases h
theorem ok_facts {n:Nat} {c:Int} {r:Bool} {i:Ins} (h:okIns n c r i=true) :
 (i.op=2→(0≤i.x∧i.x < n)∧0≤i.y∧i.y < n)∧(i.op=3→0≤i.x∧i.x < n)∧(i.op=4→0≤i.n∧i.n < 2 * c):=by
 simp only[okIns,Bool.and_eq_true,Bool.or_eq_true,beq_iff_eq,decide_eq_true_eq]at h
 refine⟨fun e=>?_,fun e=>?_,fun e=>?_⟩<;>simp[e]at h<;>omega
theorem Okay.next {g:Prg} (h:Okay g) {pc:Nat} {i:Ins} (hi:g.ins[pc]?=some i) (ho:¬ (i.op=0∨i.op=2∨i.op=3)):pc+1 < g.ins.length:=by
 have hlt:=(List.getElem?_eq_some_iff.1 hi).1
 rcases Nat.lt_or_ge (pc+1) g.ins.length with hh|hh
 ·exact hh
 ·have hl:=h.last
  have:g.ins.length - 1=pc:=by omega
  simp only[lastGood,this,hi]at hl
  simp at hl
  omega
structure WayOk (g:Prg) (t:List Int) (N:Nat) (w:Way):Prop where
 pc:w.pc < g.ins.length
 at_:w.at_≤t.length
 regs:w.regs.length=N
theorem step_ok {g:Prg} (h:Okay g) {t:List Int} {N:Nat} {w:Way} (hw:WayOk g t N w) {l:List Way} (hs:stepW (progOf g t) w=.ways l):∀ v∈l,WayOk g t N v:=by
 obtain⟨h1,h2,h3⟩:=hw
 obtain⟨i,hi⟩:∃ i,g.ins[w.pc]?=some i:=⟨_,List.getElem?_eq_getElem h1⟩
 have hok:=h.ok i (List.mem_of_getElem? hi)
 have hf:=ok_facts hok
 have hop:=okIns_op hok
 have hp:(progOf g t).ins w.pc=some i:=hi
 simp only[stepW,hp]at hs
 split at hs
 ·cases hs
 ·rename_i n0
  split at hs
  ·rename_i e1
   split at hs
   ·rename_i hhas
    cases hs
    intro v hv
    rw[List.mem_singleton.1 hv]
    refine⟨h.next hi (by omega),?_,h3⟩
    simp only[progOf]at hhas
    cases ht:t[w.at_]? with
    | none=>rw[ht]at hhas;simp at hhas
    | some x=>
      have:=(List.getElem?_eq_some_iff.1 ht).1
      show w.at_+1≤t.length
      omega
   ·cases hs;intro v hv;simp at hv
  ·split at hs
   ·rename_i e2
    cases hs
    have:=hf.1 e2
    intro v hv
    rcases List.mem_cons.1 hv with e|e
    ·rw[e];exact⟨by show i.x.toNat < _;omega,h2,h3⟩
    ·rw[List.mem_singleton.1 e];exact⟨by show i.y.toNat < _;omega,h2,h3⟩
   ·split at hs
    ·rename_i e3
     cases hs
     have:=hf.2.1 e3
     intro v hv
     rw[List.mem_singleton.1 hv];exact⟨by show i.x.toNat < _;omega,h2,h3⟩
    ·split at hs
     ·rename_i e4
      cases hs
      intro v hv
      rw[List.mem_singleton.1 hv];exact⟨h.next hi (by omega),h2,by simp[h3]⟩
     ·split at hs
      ·cases hs
       intro v hv
       rw[List.mem_singleton.1 hv];exact⟨h.next hi (by omega),h2,h3⟩
      ·cases hs;intro v hv;simp at hv
def matOf (pos:Int) (n:Nat) (w:Way):M3:=(pos,w.at_,capsN w.regs n)
def resA (pos:Int) (n:Nat):Option (List Way)→AV
 | some out=>.tup [.sl false (out.map fun w=>mA (matOf pos n w)),I 0]
 | none=>.tup [.sl false [],I 11]
theorem plain_matOf (pos:Int) (n:Nat) (l:List Way):AV.plainL (l.map fun w=>mA (matOf pos n w))=true:=by
 rw[show (l.map fun w=>mA (matOf pos n w))=(l.map (matOf pos n)).map mA by simp]
 exact plain_mats _
theorem plain_matOf2 (pos:Int) (n:Nat) (l:List Way):AV.plainL (l.map fun w=>AV.agg [I pos,I w.at_,.sl false ((capsN w.regs n).map spanAV)])=true:=plain_matOf pos n l
theorem plain_resA (pos:Int) (n:Nat) (o:Option (List Way)):AV.plain (resA pos n o)=true:=by
 cases o with
 | none=>rfl
 | some out=>simp[resA,AV.plain,AV.plainL,plain_matOf]
theorem runW_nil {p:Prog1} {most:Int} {fuel:Nat} {out:List Way}:runW p most fuel [] out=some out:=by unfold runW;rfl
theorem runW_full {p:Prog1} {most:Int} {fuel:Nat} {w:Way} {rest out:List Way} (h:(out.length:Int)=most):runW p most fuel (w::rest) out=some out:=by
 unfold runW
 simp only[h,if_true]
def stA {α:Type} (f:α→AV) (l:List α):List AV:=l.reverse.map f
theorem stA_len {α:Type} (f:α→AV) (l:List α):(stA f l).length=l.length:=by simp[stA]
theorem stA_cons {α:Type} (f:α→AV) (w:α) (l:List α) (j:List AV):stA f (w::l)++j=stA f l++(f w::j):=by simp[stA]
theorem stA_one {α:Type} (f:α→AV) (w:α) (l:List α):stA f (w::l)=stA f l++[f w]:=by simp[stA]
theorem get_top {A:List AV} {k:Nat} (h:A.length=k) (x:AV) (B:List AV):(A++(x::B))[k]?=some x:=by
 subst h;simp
theorem take_top {A:List AV} {k:Nat} (h:A.length=k) (B:List AV):(A++B).take k=A:=by
 subst h;simp
theorem drop_top {A:List AV} {k:Nat} (h:A.length=k) (x:AV) (B:List AV):(A++(x::B)).drop (k+1)=B:=by
 subst h;simp[List.drop_append]
theorem drop_top2 {A:List AV} {k:Nat} (h:A.length=k) (x y:AV) (B:List AV):(A++(x::y::B)).drop (k+2)=B:=by
 subst h;simp[List.drop_append]
end Go.Ev
namespace Go.Ev
attribute [local go_sem] eq_self bindW_some bindW_map bindW_ite bindW_iteN W_seq W_region W_draw W_cond W_condK W_ret W_skip W_exit W_scope W_label W_block blockK_norm blockK_ret blockK_exit WO_nil WO_cons WO_guard WD_nil WD_cons WD_guard guardV guardW_boolT guardW_boolF guardW_tup fpL_some fpL_none footprint thenK_norm thenK_ret thenK_exit put_some put_none ev_tmp ev_con ev_func ofK_int ofK_bool ofK_str ofK_nil evOp evBuiltin evCall evLen evAppend getElem_16 getElem_4 List.length_cons List.length_nil List.cons_append List.nil_append List.append_nil if_false if_true Bool.false_eq_true Bool.true_eq_false Option.map_some Option.map_none List.map_cons List.map_nil evBinOp evBin evUn asB_bool splitB_decide splitB_true splitB_false splitB_beq splitB_bne splitB_not endK_ret endK_norm List.getElem?_cons_zero List.getElem?_cons_succ evResults evResult packRes retK_norm retK_ret cellsAt mkVal evFieldAddr evField evIndexAddr evPart evStore evBuild evBuildSlice fillC fillE evSlice evMakeSlice evConvert getRow AV.cells List.head?_cons List.drop_zero List.drop_succ_cons List.take_zero List.take_succ_cons List.drop_nil List.take_nil List.all_cons List.all_nil AV.ok Bool.and_self Bool.and_true Bool.true_and and_self and_true true_and Nat.zero_add Nat.add_zero setCells splice pairsOk pairsX altW_none altW_some cfg_al WI_nil WI_cons FP.apart heapEq_refl sameAt_refl Bool.or_true Bool.true_or Bool.or_false srcElems elemsOf mutDst indDst roundK_norm roundK_exit roundK_ret List.length_map List.getElem?_map Int.toNat_natCast decide_true decide_false Bool.not_true Bool.not_false List.set set_0 set_1 set_2 set_3 set_4 look_hit look lookD_hit lookD_cons lookD_nil ins_hit ins upd_hit upd rem1_hit rem1 dropT dropSt_eq initT cfg_dd cfg_bd cfg_ra actL_nil actL_cons act1 updT_hit updT frzB retE_norm retE_ret bndO bnd evEq eqCells not_false_eq_true not_true_eq_false toList_some Array.size_empty List.length_append List.map_append endE_norm endE_ret head_take1 List.contains_nil List.contains_cons Bool.or_self dlt_t dlt_f dle_t dle_f dgt_t dgt_f dge_t dge_f beq_t beq_f bne_t bne_f lt_T le_T nle_T nle_F Go.IntWalk.i64_in Go.IntWalk.i64_quo Go.IntWalk.rem_in ty0 ty3 ty4
section
attribute [local go_sem] tySzE List.head?_drop Nat.mul_one sameAt_zero sameAt_two sameAt_three sameAt_four sameAt_five room_ok ty22 ty23 ty36 ty39 ty41 ty53 ty108 ty112 ty129 ty130
open Go.Proofs Go.RowKit Go.IntWalk
set_option maxRecDepth 100000
set_option linter.unusedSimpArgs false
set_option linter.unusedVariables false
set_option maxHeartbeats 8000000
end
end Go.Ev
