/- The plain law on paths, continued: a walk that stops where a way goes in a circle finds what the plain walk finds. No program in sight. -/
import Derived.Test.YtjgmfjneajcbmaaGreatF19
import Derived.Test.YtjgmfjneajcbmaaGreatF06
import Derived.Test.YtjgmfjneajcbmaaGreatF13
set_option linter.unusedVariables false
set_option linter.unusedSimpArgs false
namespace Go.Ev
structure WayI where
 w:Way
 idle:Nat
 found:Nat
theorem runW_none_len {p:Prog1} {most:Int}:∀(fuel:Nat) (todo out out':List Way),out.length=out'.length→runW p most fuel todo out=none→runW p most fuel todo out' = none
 | fuel,[],out,out',_,h=>by unfold runW at h;simp at h
 | 0,w::todo,out,out',hl,h=>by
   by_cases ho:(out.length:Int)=most
   ·unfold runW at h;simp only[ho,if_true]at h;cases h
   ·exact runW_zero (by rw[← hl];exact ho)
 | fuel+1,w::todo,out,out',hl,h=>by
   by_cases ho:(out.length:Int)=most
   ·unfold runW at h;simp only[ho,if_true]at h;cases h
   ·rw[runW_step ho]at h
    rw[runW_step (by rw[← hl];exact ho)]
    cases hs:stepW p w with
    | done=>rw[hs]at h;exact runW_none_len fuel todo _ _ (by simp[hl]) h
    | ways l=>rw[hs]at h;exact runW_none_len fuel _ _ _ hl h
structure Ghost where
 e:WayI
 hs:List Way
def Chain (p:Prog1) (found outN:Nat):List Way→Prop
 | []=>True
 | a::l=>(∀ b∈l,∃ E d m,Reach p b a E d (m+1)∧found+d≤outN)∧Chain p found outN l
theorem Chain.mono {p:Prog1} {f n n':Nat} (h:n≤n'):∀ {l:List Way},Chain p f n l→Chain p f n' l
 | [],_=>trivial
 | a::l,⟨h1,h2⟩=>⟨fun b hb=>by
    obtain⟨E,d,m,r,hd⟩:=h1 b hb
    exact⟨E,d,m,r,by omega⟩,Chain.mono h h2⟩
structure Hist (p:Prog1) (n outN:Nat) (t:Ghost) (rest:List Ghost):Prop where
 idle:∀ g∈t::rest,g.hs.length=g.e.idle∧g.e.found≤outN
 at_:∀ g∈t::rest,g.e.w.pc < n∧∀ h∈g.hs,h.at_=g.e.w.at_∧h.pc < n
 chain:∀ g∈t::rest,Chain p g.e.found outN g.hs
 reach:∀ i g,(t::rest)[i]?=some g→∀ h∈g.hs,∃ E S d m,rest.map (·.e.w)=E++S∧i≤E.length∧Reach p h t.e.w E d (m+1)∧g.e.found+d≤outN
theorem nodup_lt:∀(n:Nat) (L:List Nat),(∀ x∈L,x < n)→L.Nodup→L.length≤n
 | 0,[],_,_=>Nat.le_refl _
 | 0,x::_,h,_=>absurd (h x (List.mem_cons_self ..)) (Nat.not_lt_zero _)
 | n+1,L,h,hd=>by
   have h1:(L.erase n).length≤n:=nodup_lt n (L.erase n) (fun x hx=>by
    have h2:=(List.Nodup.mem_erase_iff hd).1 hx
    have h3:=h x h2.2
    have h4:=h2.1
    omega) (hd.erase n)
   rw[List.length_erase]at h1
   split at h1<;>omega
theorem chain_dup {p:Prog1} {f N:Nat}:∀(L:List Way),Chain p f N L→¬ (L.map (·.pc)).Nodup→∃ a∈L,∃ b∈L,b.pc=a.pc∧∃ E d m,Reach p b a E d (m+1)∧f+d≤N
 | [],_,h=>absurd List.nodup_nil h
 | a::l,⟨h1,h2⟩,h=>by
   by_cases hb:∃ b∈l,b.pc=a.pc
   ·obtain⟨b,b1,b2⟩:=hb
    exact⟨a,List.mem_cons_self ..,b,List.mem_cons_of_mem _ b1,b2,h1 b b1⟩
   ·have:¬ (l.map (·.pc)).Nodup:=fun hn=>h (by
     rw[List.map_cons,List.nodup_cons]
     refine⟨fun hm=>?_,hn⟩
     obtain⟨b,b1,b2⟩:=List.mem_map.1 hm
     exact hb ⟨b,b1,b2⟩)
    obtain⟨x,x1,y,y1,r⟩:=chain_dup l h2 this
    exact⟨x,List.mem_cons_of_mem _ x1,y,List.mem_cons_of_mem _ y1,r⟩
theorem Hist.now {p:Prog1} {n outN:Nat} {t:Ghost} {rest:List Ghost} (h:Hist p n outN t rest):Chain p t.e.found outN (t.e.w::t.hs):=
 ⟨fun b hb=>by
   obtain⟨E,S,d,m,_,_,r,hd⟩:=h.reach 0 t rfl b hb
   exact⟨E,d,m,r,hd⟩,h.chain t (List.mem_cons_self ..)⟩
theorem Hist.circle {p:Prog1} {n:Nat} {t:Ghost} {rest:List Ghost} {out:List Way} (h:Hist p n out.length t rest) (hn:n≤t.e.idle) {most:Int} (hm:most = -1∨t.e.found=out.length) (ho:¬ (out.length:Int)=most) (fuel:Nat) :
  runW p most fuel (t.e.w::rest.map (·.e.w)) out=none:=by
 have h0:=h.now
 have hat:=h.at_ t (List.mem_cons_self ..)
 have hid:=h.idle t (List.mem_cons_self ..)
 have hlen:¬ ((t.e.w::t.hs).map (·.pc)).Nodup:=fun hd=>by
  have:=nodup_lt n _ (fun x hx=>by
   obtain⟨b,b1,rfl⟩:=List.mem_map.1 hx
   rcases List.mem_cons.1 b1 with e|e
   ·rw[e];exact hat.1
   ·exact(hat.2 b e).2) hd
  rw[List.length_map,List.length_cons,hid.1]at this
  omega
 obtain⟨a,a1,b,b1,hpc,E,d,m,r,hd⟩:=chain_dup _ h0 hlen
 have hlike:b.like a:=by
  refine⟨hpc,?_⟩
  have:∀ c∈t.e.w::t.hs,c.at_=t.e.w.at_:=fun c hc=>by
   rcases List.mem_cons.1 hc with e|e
   ·rw[e]
   ·exact(hat.2 c e).1
  rw[this b b1,this a a1]
 have hd0:most = -1∨d=0:=by
  rcases hm with h|h
  ·exact .inl h
  ·exact .inr (by omega)
 rcases List.mem_cons.1 a1 with e|e
 ·subst e
  refine Go.Ev.circle r hlike fuel t.e.w _ out hlike ?_
  rcases hd0 with h|h
  ·exact .inl h
  ·exact .inr ⟨h,ho⟩
 ·obtain⟨E2,S2,d2,m2,hr,_,r2,hd2⟩:=h.reach 0 t rfl a e
  have hlen0:(out.take (out.length - d2)).length+d2=out.length:=by simp;omega
  have hq:most = -1∨(d2=0∧¬ ((out.take (out.length - d2)).length:Int)=most):=by
   rcases hm with h|h
   ·exact .inl h
   ·refine .inr ⟨by omega,?_⟩
    have:d2=0:=by omega
    subst this
    simpa using ho
  obtain⟨out',o1,o2⟩:=r2.run S2 (out.take (out.length - d2)) hq fuel
  have hn:=Go.Ev.circle r hlike (m2+1+fuel) a S2 (out.take (out.length - d2)) hlike (by
   rcases hd0 with h|h
   ·exact .inl h
   ·rcases hq with g|g
    ·exact .inl g
    ·exact .inr ⟨h,g.2⟩)
  rw[hn]at o2
  rw[hr]
  exact runW_none_len fuel _ out' out (by omega) o2.symm
theorem Hist.step {p:Prog1} {n outN:Nat} {t:Ghost} {rest:List Ghost} (h:Hist p n outN t rest) (hcl:∀ w l,w.pc < n→stepW p w=.ways l→∀ v∈l,v.pc < n)
  {hs:List Way} {found:Nat} (hh:(hs=t.e.w::t.hs∧found=t.e.found)∨(hs=[t.e.w]∧found=outN)) {v:Way} {l:List Way} (hs1:stepW p t.e.w=.ways (v::l)) :
  ∃ t' rest',Hist p n outN t' rest'∧t'.e::rest'.map (·.e)=(v::l).map (fun v=>if v.at_=t.e.w.at_ then⟨v,hs.length,found⟩ else⟨v,0,outN⟩)++rest.map (·.e):=by
 have hat:=h.at_ t (List.mem_cons_self ..)
 have hid:=h.idle t (List.mem_cons_self ..)
 have hf:found≤outN:=by rcases hh with ⟨_,h⟩|⟨_,h⟩<;>omega
 have hhs:∀ b∈hs,b.at_=t.e.w.at_∧b.pc < n:=fun b hb=>by
  rcases hh with ⟨e,_⟩|⟨e,_⟩
  ·rw[e]at hb
   rcases List.mem_cons.1 hb with e|e
   ·rw[e];exact⟨rfl,hat.1⟩
   ·exact hat.2 b e
  ·rw[e]at hb
   rw[List.mem_singleton.1 hb];exact⟨rfl,hat.1⟩
 have hch:Chain p found outN hs:=by
  rcases hh with ⟨e,e'⟩|⟨e,e'⟩
  ·rw[e,e'];exact h.now
  ·rw[e];exact⟨fun b hb=>by simp at hb,trivial⟩
 have hre:∀ b∈hs,∃ E S d m,rest.map (·.e.w)=E++S∧Reach p b v (l++E) d (m+1)∧found+d≤outN:=fun b hb=>by
  have self:∃ E S d m,rest.map (·.e.w)=E++S∧Reach p t.e.w v (l++E) d (m+1)∧found+d≤outN:=⟨[],_,0,0,rfl,.on (.refl _) hs1,by omega⟩
  rcases hh with ⟨e,e'⟩|⟨e,_⟩
  ·rw[e]at hb
   rcases List.mem_cons.1 hb with e|e
   ·rw[e];exact self
   ·obtain⟨E,S,d,m,r1,r2,r3,r4⟩:=h.reach 0 t rfl b e
    exact⟨E,S,d,m+1,r1,.on r3 hs1,by omega⟩
  ·rw[e]at hb
   rw[List.mem_singleton.1 hb];exact self
 let gh:Way→Ghost:=fun v=>if v.at_=t.e.w.at_ then⟨⟨v,hs.length,found⟩,hs⟩ else⟨⟨v,0,outN⟩,[]⟩
 have hgh:∀ v,(gh v).e.w=v:=fun v=>by simp only[gh];split<;>rfl
 have hghe:∀ v,(gh v).e=if v.at_=t.e.w.at_ then⟨v,hs.length,found⟩ else⟨v,0,outN⟩:=fun v=>by simp only[gh];split<;>rfl
 have hghs:∀ v,(gh v).hs=hs∧(gh v).e.found=found∨(gh v).hs=[]:=fun v=>by
  simp only[gh];split
  ·exact .inl ⟨rfl,rfl⟩
  ·exact .inr rfl
 have hpc:=hcl t.e.w (v::l) hat.1 hs1
 refine⟨gh v,l.map gh++rest,⟨fun g hg=>?_,fun g hg=>?_,fun g hg=>?_,fun i g hg b hb=>?_⟩,?_⟩
 ·have hcase:g∈(v::l).map gh∨g∈rest:=by simpa [or_assoc] using hg
  rcases hcase with hg|hg
  ·obtain⟨u,_,rfl⟩:=List.mem_map.1 hg
   simp only[gh];split
   ·exact⟨rfl,hf⟩
   ·exact⟨rfl,Nat.le_refl _⟩
  ·exact h.idle g (List.mem_cons_of_mem _ hg)
 ·have hcase:g∈(v::l).map gh∨g∈rest:=by simpa [or_assoc] using hg
  rcases hcase with hg|hg
  ·obtain⟨u,hu,rfl⟩:=List.mem_map.1 hg
   refine⟨by rw[hgh];exact hpc u hu,?_⟩
   simp only[gh];split
   ·rename_i e
    intro b hb
    rw[e];exact hhs b hb
   ·intro b hb;simp at hb
  ·exact h.at_ g (List.mem_cons_of_mem _ hg)
 ·have hcase:g∈(v::l).map gh∨g∈rest:=by simpa [or_assoc] using hg
  rcases hcase with hg|hg
  ·obtain⟨u,_,rfl⟩:=List.mem_map.1 hg
   simp only[gh];split
   ·exact hch
   ·exact trivial
  ·exact h.chain g (List.mem_cons_of_mem _ hg)
 ·have hmap:(l.map gh++rest).map (·.e.w)=l++rest.map (·.e.w):=by
   rw[List.map_append,List.map_map]
   congr 1
   rw[show ((fun x:Ghost=>x.e.w) ∘ gh)=id from funext hgh,List.map_id]
  rw[hmap,hgh]
  by_cases hi:i < (v::l).length
  ·have hg':((v::l).map gh)[i]?=some g:=by
    rw[show gh v::(l.map gh++rest)=(v::l).map gh++rest from rfl,List.getElem?_append_left (by simpa using hi)]at hg
    exact hg
   obtain⟨u,_,rfl⟩:=List.mem_map.1 (List.mem_of_getElem? hg')
   rcases hghs u with ⟨e1,e2⟩|e1
   ·rw[e1]at hb
    obtain⟨E,S,d,m,r1,r2,r3⟩:=hre b hb
    exact⟨l++E,S,d,m,by rw[r1,List.append_assoc],by simp at hi ⊢;omega,r2,by rw[e2];exact r3⟩
   ·rw[e1]at hb;simp at hb
  ·rw[show gh v::(l.map gh++rest)=(v::l).map gh++rest from rfl,List.getElem?_append_right (by simp at hi ⊢;omega)]at hg
   simp only[List.length_map]at hg
   obtain⟨E,S,d,m,r1,r2,r3,r4⟩:=h.reach (i - (v::l).length+1) g (by simpa using hg) b hb
   refine⟨l++E,S,d,m+1,by rw[r1,List.append_assoc],?_,.on r3 hs1,r4⟩
   simp at hi r2 ⊢;omega
 ·simp only[List.map_cons,List.map_append,List.map_map,List.cons_append,List.cons.injEq]
  exact⟨hghe v,by congr 1;exact List.map_congr_left fun u _=>hghe u⟩
theorem Hist.pop {p:Prog1} {n outN:Nat} {t e:Ghost} {rest:List Ghost} (h:Hist p n outN t (e::rest)) {k:Nat} (hs:(stepW p t.e.w=.ways []∧k=0)∨(stepW p t.e.w=.done∧k=1)):Hist p n (outN+k) e rest:=by
 refine⟨fun g hg=>?_,fun g hg=>h.at_ g (List.mem_cons_of_mem _ hg),fun g hg=>(h.chain g (List.mem_cons_of_mem _ hg)).mono (by omega),fun i g hg b hb=>?_⟩
 ·have:=h.idle g (List.mem_cons_of_mem _ hg)
  exact⟨this.1,by omega⟩
 ·obtain⟨E,S,d,m,r1,r2,r3,r4⟩:=h.reach (i+1) g (by simpa using hg) b hb
  cases E with
  | nil=>simp at r2
  | cons x E=>
    simp only[List.map_cons,List.cons_append,List.cons.injEq]at r1
    obtain⟨rfl,r1⟩:=r1
    rcases hs with ⟨hs,rfl⟩|⟨hs,rfl⟩
    ·exact⟨E,S,d,m+1,r1,by simpa using r2,.pop r3 hs,r4⟩
    ·exact⟨E,S,d+1,m+1,r1,by simpa using r2,.found r3 hs,by omega⟩
end Go.Ev
namespace Go.Ev
attribute [local go_sem] W_block evBin AV.cells frzB List.length_append List.map_append
end Go.Ev
namespace Go.Ev
open Go.Proofs Go.RowKit Go.IntWalk
set_option maxRecDepth 100000
set_option maxHeartbeats 4000000
structure Okay (g:Prg):Prop where
 len:1≤g.ins.length∧g.ins.length≤8192
 caps:0≤g.caps∧g.caps≤9
 ok:∀ i∈g.ins,okIns g.ins.length g.caps g.runes i=true
 last:lastGood g=true
theorem Okay.next {g:Prg} (h:Okay g) {pc:Nat} {i:Ins} (hi:g.ins[pc]?=some i) (ho:¬ (i.op=0∨i.op=2∨i.op=3)):pc+1 < g.ins.length:=by
 have hlt:=(List.getElem?_eq_some_iff.1 hi).1
 rcases Nat.lt_or_ge (pc+1) g.ins.length with hh|hh
 ·exact hh
 ·have hl:=h.last
  have:g.ins.length - 1=pc:=by omega
  simp only[lastGood,this,hi]at hl
  simp at hl
  omega
end Go.Ev
namespace Go.Ev
attribute [local go_sem] W_block evBin AV.cells frzB List.length_append List.map_append
section
attribute [local go_sem] evAppend tySzE List.head?_drop Nat.mul_one sameAt_zero sameAt_two sameAt_three sameAt_four sameAt_five room_ok
open Go.Proofs Go.RowKit Go.IntWalk
set_option maxRecDepth 100000
set_option maxHeartbeats 8000000
theorem call_frz {P:Program} {pol:Pol} {f:Nat} {args l:List AV} {H H1:List MB} (hp:pol.pure f=true) (h:frzArgs pol f 0 args H=some (l,H1)) (ha:AV.plainL l=true) :
  call P pol f args H=call P pol f l H1:=by
 have hf:∀(l:List AV) (i:Nat),AV.plainL l=true→frzArgs pol f i l H1=some (l,H1):=by
  intro l
  induction l with
  | nil=>intro i _;rfl
  | cons x l ih=>
    intro i h
    simp only[AV.plainL,Bool.and_eq_true]at h
    simp only[frzArgs,fz_plain H1 h.1,ih (i+1) h.2]
    split<;>simp_all
 rw[call_eq,call_eq]
 unfold evStep
 simp only[hp,if_true,h,hf l 0 ha]
end
section
attribute [local go_sem] evAppend tySzE List.head?_drop Nat.mul_one sameAt_zero sameAt_two sameAt_three sameAt_four sameAt_five room_ok
open Go.Proofs Go.RowKit Go.IntWalk
set_option maxRecDepth 100000
set_option maxHeartbeats 8000000
theorem compL_iff (ins:List Int):∀ l:List Re,compL ins l=true↔∀ k∈l,compG ins k=true
 | []=>by simp[compL]
 | k::ks=>by simp[compL,compL_iff ins ks]
theorem compL_false {ins:List Int} {l:List Re} {k:Re} (h:k∈l) (hk:compG ins k=false):compL ins l=false:=by
 rw[Bool.eq_false_iff]
 intro hw
 rw[compL_iff]at hw
 rw[hw k h]at hk;cases hk
theorem compL_true {ins:List Int} {l:List Re} (h:∀(i:Nat) (k:Re),i < l.length→l[i]?=some k→compG ins k=true):compL ins l=true:=by
 rw[compL_iff]
 intro k hk
 obtain⟨i,hi,e⟩:=List.getElem_of_mem hk
 exact h i k hi (by rw[← e];exact List.getElem?_eq_getElem hi)
theorem f115 (l:List Int) (x:Int) (hl:l.length≤10000000) (H:List MB):call Tryz.prog pol1 60 [.sl false (l.map I),I x] H=some (.bool (decide (x∈l)),H):=by
 refine call_run Tryz.func60 rfl rfl rfl rfl rfl rfl (fun _=>rfl) (by simp[AV.plain,AV.plainL,plain_ints]) rfl ?_ H
 simp +contextual (disch:=omega) only[Tryz.f60,dd60,go_sem,simprocAttr,mu60,↓wrap_up,↓wrap_down,↓wrap_pred,↓wrap_sub_nat]
 refine W_count (M:=(mskOf (pol1.mask 60) (pol1.gc 60) (pol1.acts 60) 0 2)) rfl l.length (fun i=>(⟨18,[(5,I i),(1,I x),(0,.sl false (l.map I))],[]⟩:St)) (fun i=>∀ k p,k < i→l[k]?=some p→p≠x) ?_ ?_ (fun k p h=>by omega) _ (by first|rfl|(simp[keepT,AV.underL,AV.under,MB.under,underL_plain,under_plain,underL_append,plain_ints,plain_span,plain_ins,plain_prg,-List.map_take,-List.map_replicate,-List.map_set];done))
 ·intro i hi hg
  obtain⟨p,hp⟩:∃ p,l[i]?=some p:=⟨_,List.getElem?_eq_getElem hi⟩
  by_cases hpx:p=x
  ·subst hpx
   rw[decide_eq_true (List.mem_of_getElem? hp)]
   simp +contextual (disch:=omega) only[Tryz.f60,dd60,go_sem,simprocAttr,mu60,↓wrap_up,↓wrap_down,↓wrap_pred,↓wrap_sub_nat,hp]
   exact fzEq rfl rfl
  ·simp +contextual (disch:=omega) only[Tryz.f60,dd60,go_sem,simprocAttr,mu60,↓wrap_up,↓wrap_down,↓wrap_pred,↓wrap_sub_nat,hp]
   refine⟨fun k q hk hq=>?_,(by first|rfl|(simp[keepT,AV.underL,AV.under,MB.under,underL_plain,under_plain,underL_append,plain_ints,plain_span,plain_ins,plain_prg,-List.map_take,-List.map_replicate,-List.map_set];done))⟩
   rcases Nat.lt_or_ge k i with h|h
   ·exact hg k q h hq
   ·obtain rfl:k=i:=by omega
    rw[hp]at hq;obtain rfl:=Option.some.inj hq
    exact hpx
 ·intro hg
  have:¬ x∈l:=fun hm=>by
   obtain⟨i,hi,e⟩:=List.getElem_of_mem hm
   exact hg i x hi (by rw[← e];exact List.getElem?_eq_getElem hi) rfl
  rw[decide_eq_false this]
  simp +contextual (disch:=omega) only[Tryz.f60,dd60,go_sem,simprocAttr,mu60,↓wrap_up,↓wrap_down,↓wrap_pred,↓wrap_sub_nat]
  exact fzEq rfl rfl
def zi (m:Nat):Nat→Nat
 | 0=>0
 | _+1=>m
theorem zi_max (m i:Nat):max (zi m i) m=m:=by cases i<;>simp[zi]
theorem f53 (caps top:Int):∀(N:Nat) (r:Re) (ins:List Int),r.wt≤N→r.wt≤1000000→ins.length+r.wt≤2000000→wholeG caps top r=true→∀ H,call Tryz.prog pol1 28 [reAV r,.sl false (ins.map I)] H=some (.bool (compG ins r),H)
 | 0,r,_,h,_,_,_=>by have:=r.wt_pos;omega
 | N+1,.mk op set kids mn mx md n neg,ins,h,hN,hI,hw=>by
   intro H
   have hkl:=Re.wtL_len kids
   have hwt:1+set.length+Re.wtL kids=(Re.mk op set kids mn mx md n neg).wt:=by simp[Re.wt]
   obtain⟨hwk,hkd,hrp,_,ho1,ho2⟩:=whole_facts hw
   have ih:=fun k (hk:k∈kids) (ins':List Int) (hi:ins'.length≤ins.length+1)=>f53 caps top N k ins' (by have:=Re.wtL_mem hk;omega) (by have:=Re.wtL_mem hk;omega) (by have:=Re.wtL_mem hk;omega) (hwk k hk)
   have h20:=fun k (hk:k∈kids)=>f20 k.wt k (Nat.le_refl _) (by have:=Re.wtL_mem hk;omega)
   have h115:=f115 ins n (by omega)
   rw[show reAV (.mk op set kids mn mx md n neg)=.agg (nodeL op set kids mn mx md n neg) from congrArg AV.agg reC_mk]
   refine call_run Tryz.func28 rfl rfl rfl rfl rfl rfl (fun _=>rfl) (by simp[AV.plain,AV.plainL,plain_span,plain_kids,plain_ints]) rfl ?_ H
   rw[compG]
   by_cases h4:op=4∧(md=2∨nullHd kids=true)
   ·rw[if_pos h4]
    obtain⟨rfl,h4⟩:=h4
    by_cases hmd:md=2
    ·simp +contextual (disch:=omega) only[Tryz.f28,dd28,go_sem,simprocAttr,mu28,↓wrap_up,↓wrap_down,↓wrap_pred,↓wrap_sub_nat]
     exact fzEq rfl rfl
    ·have hnl:nullHd kids=true:=by rcases h4 with h|h;exact absurd h hmd;exact h
     cases kids with
     | nil=>simp[nullHd]at hnl
     | cons k ks=>
       have h20k:=h20 k (List.mem_cons_self ..)
       rw[show nullG k=true from hnl]at h20k
       have hl8:=reC_len k
       have ht8:=reC_take k
       simp only[List.length_cons]at hkl
       simp +contextual (disch:=omega) only[Tryz.f28,dd28,go_sem,simprocAttr,mu28,↓wrap_up,↓wrap_down,↓wrap_pred,↓wrap_sub_nat,h20k,hl8,ht8]
       exact fzEq rfl rfl
   rw[if_neg h4]
   by_cases h5:op=5
   ·subst h5
    rw[if_pos rfl]
    by_cases hm:n∈ins
    ·rw[if_pos hm]
     rw[decide_eq_true hm]at h115
     simp +contextual (disch:=omega) only[Tryz.f28,dd28,go_sem,simprocAttr,mu28,↓wrap_up,↓wrap_down,↓wrap_pred,↓wrap_sub_nat,h115]
     exact fzEq rfl rfl
    ·rw[if_neg hm]
     rw[decide_eq_false hm]at h115
     have hcall:∀(b0:MB) (z:Nat) (k:Re),k∈kids→call Tryz.prog pol1 28 [reAV k,.ms 1 1 (ins.length+1) 0 (ins.length+1)] [b0,.row 1 ((ins++[n]).map I) z]=some (.bool (compG (ins++[n]) k),[b0,.row 1 ((ins++[n]).map I) (max z (ins.length+1))]):=fun b0 z k hk=>by
      have h1:frzArgs pol1 28 0 [reAV k,.ms 1 1 (ins.length+1) 0 (ins.length+1)] [b0,.row 1 ((ins++[n]).map I) z]=some ([reAV k,.sl false ((ins++[n]).map I)],[b0,.row 1 ((ins++[n]).map I) (max z (ins.length+1))]):=by
       have h2:fz (.ms 1 1 (ins.length+1) 0 (ins.length+1)) [b0,.row 1 ((ins++[n]).map I) z]=some (.sl false ((ins++[n]).map I),[b0,.row 1 ((ins++[n]).map I) (max z (ins.length+1))]):=
        fz_row (k:=1) (z:=z) rfl (by simp) (plain_ints _)
       have hby:∀ i,pol1.byref 28 i=false:=fun i=>rfl
       simp only[frzArgs,hby,Bool.false_eq_true,if_false,fz_plain _ (show AV.plain (reAV k)=true from plain_reC k),h2]
      rw[call_frz rfl h1 (by simp[AV.plainL,AV.plain,plain_reC,plain_ints,-List.map_append])]
      exact ih k hk (ins++[n]) (by simp) _
     have hmm:∀ z,z=0∨z=ins.length+1→max z (ins.length+1)=ins.length+1:=fun z hz=>by omega
     have hinl:ins.length≤2000000:=by omega
     cases ins with
     | nil=>
       simp only[List.map_nil,List.map_cons,List.nil_append,List.length_nil,Nat.zero_add]at h115 hcall
       simp +contextual (disch:=omega) only[Tryz.f28,dd28,go_sem,simprocAttr,mu28,↓wrap_up,↓wrap_down,↓wrap_pred,↓wrap_sub_nat,h115]
       repeat' (first|intro _|apply And.intro|(unfold dOk;kernel_rfl)|exact St.beq_refl _|(show altO _ _ _ _=true;kernel_rfl)|(show (_ || _)=true;kernel_rfl)|(show (_ && _)=true;kernel_rfl))
       refine W_count (M:=(mskOf (pol1.mask 28) (pol1.gc 28) (pol1.acts 28) 0 12)) rfl kids.length (fun i=>(⟨61,[(7,I i),(2,.rf 0 1 0 0),(1,.ms 1 1 (1) 0 (1))],[.row 8 [.agg (nodeL 5 set kids mn mx md n neg)] 0,.row 1 ([I n]) (zi (1) i)]⟩:St)) (fun i=>∀ j k,j < i→kids[j]?=some k→compG ([n]) k=true) ?_ ?_ (fun j k h=>by omega) _ (by first|rfl|(refine prep_to (n:=2) (m:=⟨some [7,2,1],some 2,[]⟩) rfl rfl ?_ ?_ ?_<;>first|rfl|(simp[keepT,AV.underL,AV.under,MB.under,underL_plain,under_plain,underL_append,plain_ints,plain_span,plain_ins,plain_prg,-List.map_take,-List.map_replicate,-List.map_set,plain_kids,zi];done)|(simp[keepT,AV.underL,AV.under,MB.under,underL_plain,under_plain,underL_append,plain_ints,plain_span,plain_ins,plain_prg,-List.map_take,-List.map_replicate,-List.map_set,plain_kids,zi];omega)))
       ·intro i hi hg
        obtain⟨k,hk⟩:∃ k,kids[i]?=some k:=⟨_,List.getElem?_eq_getElem hi⟩
        have ihk:=fun b0 z=>hcall b0 z k (List.mem_of_getElem? hk)
        have hl8:=reC_len k
        have ht8:=reC_take k
        have hz:=zi_max (1) i
        cases hn:compG ([n]) k with
        | false=>
          rw[hn]at ihk
          rw[show compL [n] kids=false from compL_false (List.mem_of_getElem? hk) hn]
          simp +contextual (disch:=omega) only[Tryz.f28,dd28,go_sem,simprocAttr,mu28,↓wrap_up,↓wrap_down,↓wrap_pred,↓wrap_sub_nat,hk,ihk,hl8,ht8]
          exact fzEq rfl rfl
        | true=>
          rw[hn]at ihk
          simp +contextual (disch:=omega) only[Tryz.f28,dd28,go_sem,simprocAttr,mu28,↓wrap_up,↓wrap_down,↓wrap_pred,↓wrap_sub_nat,hk,ihk,hl8,ht8,hz]
          refine⟨fun j q hj hq=>?_,(by first|rfl|(refine prep_to (n:=2) (m:=⟨some [7,2,1],some 2,[]⟩) rfl rfl ?_ ?_ ?_<;>first|rfl|(simp[keepT,AV.underL,AV.under,MB.under,underL_plain,under_plain,underL_append,plain_ints,plain_span,plain_ins,plain_prg,-List.map_take,-List.map_replicate,-List.map_set,plain_kids,plain_ints];done)|(simp[keepT,AV.underL,AV.under,MB.under,underL_plain,under_plain,underL_append,plain_ints,plain_span,plain_ins,plain_prg,-List.map_take,-List.map_replicate,-List.map_set,plain_kids,plain_ints];omega)))⟩
          rcases Nat.lt_or_ge j i with h|h
          ·exact hg j q h hq
          ·obtain rfl:j=i:=by omega
           rw[hk]at hq;obtain rfl:=Option.some.inj hq
           exact hn
       ·intro hg
        rw[show compL [n] kids=true from compL_true fun j k hj hk=>hg j k hj hk]
        simp +contextual (disch:=omega) only[Tryz.f28,dd28,go_sem,simprocAttr,mu28,↓wrap_up,↓wrap_down,↓wrap_pred,↓wrap_sub_nat]
        exact fzEq rfl rfl
     | cons x xs=>
       simp only[List.map_nil,List.map_cons,List.map_append,List.cons_append,List.length_cons]at h115 hcall hinl
       have hto:List.take (xs.length+1) (I x::List.map I xs)=I x::List.map I xs:=by rw[List.take_succ_cons];rw[take_map_len rfl]
       have hsn:x::(xs++[n])=(x::xs)++[n]:=rfl
       have hal:=all_int1 (x::xs)
       simp +contextual (disch:=omega) only[Tryz.f28,dd28,go_sem,simprocAttr,mu28,↓wrap_up,↓wrap_down,↓wrap_pred,↓wrap_sub_nat,h115,hto]
       repeat' (first|intro _|apply And.intro|(unfold dOk;kernel_rfl)|exact St.beq_refl _|(show altO _ _ _ _=true;kernel_rfl)|(show (_ || _)=true;kernel_rfl)|(show (_ && _)=true;kernel_rfl))
       ·exact all_int1 xs
       refine W_count (M:=(mskOf (pol1.mask 28) (pol1.gc 28) (pol1.acts 28) 0 12)) rfl kids.length (fun i=>(⟨61,[(7,I i),(2,.rf 0 1 0 0),(1,.ms 1 1 (xs.length+1+1) 0 (xs.length+1+1))],[.row 8 [.agg (nodeL 5 set kids mn mx md n neg)] 0,.row 1 (I x::(List.map I xs++[I n])) (zi (xs.length+1+1) i)]⟩:St)) (fun i=>∀ j k,j < i→kids[j]?=some k→compG (x::(xs++[n])) k=true) ?_ ?_ (fun j k h=>by omega) _ (by first|rfl|(refine prep_to (n:=2) (m:=⟨some [7,2,1],some 2,[]⟩) rfl rfl ?_ ?_ ?_<;>first|rfl|(simp[keepT,AV.underL,AV.under,MB.under,underL_plain,under_plain,underL_append,plain_ints,plain_span,plain_ins,plain_prg,-List.map_take,-List.map_replicate,-List.map_set,plain_kids,zi];done)|(simp[keepT,AV.underL,AV.under,MB.under,underL_plain,under_plain,underL_append,plain_ints,plain_span,plain_ins,plain_prg,-List.map_take,-List.map_replicate,-List.map_set,plain_kids,zi];omega)))
       ·intro i hi hg
        obtain⟨k,hk⟩:∃ k,kids[i]?=some k:=⟨_,List.getElem?_eq_getElem hi⟩
        have ihk:=fun b0 z=>hcall b0 z k (List.mem_of_getElem? hk)
        have hl8:=reC_len k
        have ht8:=reC_take k
        have hz:=zi_max (xs.length+1+1) i
        cases hn:compG (x::(xs++[n])) k with
        | false=>
          rw[hn]at ihk
          rw[show compL (x::(xs++[n])) kids=false from compL_false (List.mem_of_getElem? hk) hn]
          simp +contextual (disch:=omega) only[Tryz.f28,dd28,go_sem,simprocAttr,mu28,↓wrap_up,↓wrap_down,↓wrap_pred,↓wrap_sub_nat,hk,ihk,hl8,ht8]
          exact fzEq rfl rfl
        | true=>
          rw[hn]at ihk
          simp +contextual (disch:=omega) only[Tryz.f28,dd28,go_sem,simprocAttr,mu28,↓wrap_up,↓wrap_down,↓wrap_pred,↓wrap_sub_nat,hk,ihk,hl8,ht8,hz]
          refine⟨fun j q hj hq=>?_,(by first|rfl|(refine prep_to (n:=2) (m:=⟨some [7,2,1],some 2,[]⟩) rfl rfl ?_ ?_ ?_<;>first|rfl|(simp[keepT,AV.underL,AV.under,MB.under,underL_plain,under_plain,underL_append,plain_ints,plain_span,plain_ins,plain_prg,-List.map_take,-List.map_replicate,-List.map_set,plain_kids,plain_ints];done)|(simp[keepT,AV.underL,AV.under,MB.under,underL_plain,under_plain,underL_append,plain_ints,plain_span,plain_ins,plain_prg,-List.map_take,-List.map_replicate,-List.map_set,plain_kids,plain_ints];omega)))⟩
          rcases Nat.lt_or_ge j i with h|h
          ·exact hg j q h hq
          ·obtain rfl:j=i:=by omega
           rw[hk]at hq;obtain rfl:=Option.some.inj hq
           exact hn
       ·intro hg
        rw[show compL (x::(xs++[n])) kids=true from compL_true fun j k hj hk=>hg j k hj hk]
        simp +contextual (disch:=omega) only[Tryz.f28,dd28,go_sem,simprocAttr,mu28,↓wrap_up,↓wrap_down,↓wrap_pred,↓wrap_sub_nat]
        exact fzEq rfl rfl
   rw[if_neg h5]
   by_cases h6:5 < op∧op≠11
   ·rw[if_pos h6]
    have hnl:op=4→¬ nullHd kids=true:=fun h=>by omega
    simp +contextual (disch:=omega) only[Tryz.f28,dd28,go_sem,simprocAttr,mu28,↓wrap_up,↓wrap_down,↓wrap_pred,↓wrap_sub_nat]
    exact fzEq rfl rfl
   rw[if_neg h6]
   have hfrz:∀ k (H:List MB),k∈kids→call Tryz.prog pol1 28 [reAV k,.sl false (ins.map I)] H=some (.bool (compG ins k),H):=fun k H hk=>ih k hk ins (by omega) H
   have hmain:∀ k',kids.head?=some k'→op=4→∀ H,call Tryz.prog pol1 59 [reAV k'] H=some (.bool false,H):=fun k' hk' hop4=>by
    cases kids with
    | nil=>cases hk'
    | cons k ks=>
      have e:k=k':=by simpa using hk'
      subst e
      have h1:=h20 k (List.mem_cons_self ..)
      have:nullG k=false:=by
       cases hn:nullG k with
       | false=>rfl
       | true=>exact absurd ⟨hop4,.inr hn⟩ h4
      rw[this]at h1;exact h1
   have hloop:∀ r,r=compL ins kids→op≠5→True:=fun _ _ _=>trivial
   have hone:op=4→kids.length=1:=fun h=>by subst h;simpa [kidsG] using hkd
   by_cases ho4:op=4
   ·subst ho4
    have hmd:¬ md=2:=fun h=>h4 ⟨rfl,.inl h⟩
    have hk1:=hone rfl
    match kids,hk1 with
    | [k],_=>
      have h20k:=hmain k rfl rfl
      have hl8:=reC_len k
      have ht8:=reC_take k
      have hf:=fun H=>hfrz k H (List.mem_cons_self ..)
      generalize hks:([k]:List Re)=kids at *
      have hkk:kids.map reAV=[reAV k]:=by rw[← hks];rfl
      have hget:(kids.map reAV)[0]?=some (reAV k):=by rw[hkk];rfl
      have hget':kids[0]?=some k:=by rw[← hks];rfl
      have hlen1:kids.length=1:=by rw[← hks];rfl
      clear hmain hloop hone
      simp +contextual (disch:=omega) only[Tryz.f28,dd28,go_sem,simprocAttr,mu28,↓wrap_up,↓wrap_down,↓wrap_pred,↓wrap_sub_nat,h20k,hl8,ht8,hget']
      refine W_count (M:=(mskOf (pol1.mask 28) (pol1.gc 28) (pol1.acts 28) 0 12)) rfl (kids).length (fun i=>(⟨61,[(7,I i),(2,.rf 0 1 0 0),(1,.sl false (ins.map I))],[.row 8 [.agg (nodeL _ set (kids) mn mx md n neg)] 0]⟩:St)) (fun i=>∀ j k,j < i→(kids)[j]?=some k→compG ins k=true) ?_ ?_ (fun j k h=>by omega) _ (by first|rfl|(refine prep_to (n:=2) (m:=⟨some [7,2,1],some 2,[]⟩) rfl rfl ?_ ?_ ?_<;>first|rfl|(simp[keepT,AV.underL,AV.under,MB.under,underL_plain,under_plain,underL_append,plain_ints,plain_span,plain_ins,plain_prg,-List.map_take,-List.map_replicate,-List.map_set,plain_kids,plain_reC];done)|(simp[keepT,AV.underL,AV.under,MB.under,underL_plain,under_plain,underL_append,plain_ints,plain_span,plain_ins,plain_prg,-List.map_take,-List.map_replicate,-List.map_set,plain_kids,plain_reC];omega)))
      ·intro i hi hg
       obtain⟨k,hk⟩:∃ k,(kids)[i]?=some k:=⟨_,List.getElem?_eq_getElem hi⟩
       have ihk:=fun H=>hfrz k H (List.mem_of_getElem? hk)
       have hl8:=reC_len k
       have ht8:=reC_take k
       cases hn:compG ins k with
       | false=>
         rw[hn]at ihk
         rw[show compL ins (kids)=false from compL_false (List.mem_of_getElem? hk) hn]
         simp +contextual (disch:=omega) only[Tryz.f28,dd28,go_sem,simprocAttr,mu28,↓wrap_up,↓wrap_down,↓wrap_pred,↓wrap_sub_nat,hk,ihk,hl8,ht8]
         exact fzEq rfl rfl
       | true=>
         rw[hn]at ihk
         simp +contextual (disch:=omega) only[Tryz.f28,dd28,go_sem,simprocAttr,mu28,↓wrap_up,↓wrap_down,↓wrap_pred,↓wrap_sub_nat,hk,ihk,hl8,ht8]
         refine⟨fun j q hj hq=>?_,(by first|rfl|(refine prep_to (n:=2) (m:=⟨some [7,2,1],some 2,[]⟩) rfl rfl ?_ ?_ ?_<;>first|rfl|(simp[keepT,AV.underL,AV.under,MB.under,underL_plain,under_plain,underL_append,plain_ints,plain_span,plain_ins,plain_prg,-List.map_take,-List.map_replicate,-List.map_set,plain_kids,plain_reC];done)|(simp[keepT,AV.underL,AV.under,MB.under,underL_plain,under_plain,underL_append,plain_ints,plain_span,plain_ins,plain_prg,-List.map_take,-List.map_replicate,-List.map_set,plain_kids,plain_reC];omega)))⟩
         rcases Nat.lt_or_ge j i with h|h
         ·exact hg j q h hq
         ·obtain rfl:j=i:=by omega
          rw[hk]at hq;obtain rfl:=Option.some.inj hq
          exact hn
      ·intro hg
       rw[show compL ins (kids)=true from compL_true fun j k hj hk=>hg j k hj hk]
       simp +contextual (disch:=omega) only[Tryz.f28,dd28,go_sem,simprocAttr,mu28,↓wrap_up,↓wrap_down,↓wrap_pred,↓wrap_sub_nat]
       exact fzEq rfl rfl
   ·have hop:op=0∨op=1∨op=2∨op=3∨op=11:=by omega
    clear hmain hloop hone h4
    rcases hop with rfl|rfl|rfl|rfl|rfl
    all_goals (
     simp +contextual (disch:=omega) only[Tryz.f28,dd28,go_sem,simprocAttr,mu28,↓wrap_up,↓wrap_down,↓wrap_pred,↓wrap_sub_nat]
     refine W_count (M:=(mskOf (pol1.mask 28) (pol1.gc 28) (pol1.acts 28) 0 12)) rfl (kids).length (fun i=>(⟨61,[(7,I i),(2,.rf 0 1 0 0),(1,.sl false (ins.map I))],[.row 8 [.agg (nodeL _ set (kids) mn mx md n neg)] 0]⟩:St)) (fun i=>∀ j k,j < i→(kids)[j]?=some k→compG ins k=true) ?_ ?_ (fun j k h=>by omega) _ (by first|rfl|(refine prep_to (n:=2) (m:=⟨some [7,2,1],some 2,[]⟩) rfl rfl ?_ ?_ ?_<;>first|rfl|(simp[keepT,AV.underL,AV.under,MB.under,underL_plain,under_plain,underL_append,plain_ints,plain_span,plain_ins,plain_prg,-List.map_take,-List.map_replicate,-List.map_set,plain_kids,plain_reC];done)|(simp[keepT,AV.underL,AV.under,MB.under,underL_plain,under_plain,underL_append,plain_ints,plain_span,plain_ins,plain_prg,-List.map_take,-List.map_replicate,-List.map_set,plain_kids,plain_reC];omega)))
     ·intro i hi hg
      obtain⟨k,hk⟩:∃ k,(kids)[i]?=some k:=⟨_,List.getElem?_eq_getElem hi⟩
      have ihk:=fun H=>hfrz k H (List.mem_of_getElem? hk)
      have hl8:=reC_len k
      have ht8:=reC_take k
      cases hn:compG ins k with
      | false=>
        rw[hn]at ihk
        rw[show compL ins (kids)=false from compL_false (List.mem_of_getElem? hk) hn]
        simp +contextual (disch:=omega) only[Tryz.f28,dd28,go_sem,simprocAttr,mu28,↓wrap_up,↓wrap_down,↓wrap_pred,↓wrap_sub_nat,hk,ihk,hl8,ht8]
        exact fzEq rfl rfl
      | true=>
        rw[hn]at ihk
        simp +contextual (disch:=omega) only[Tryz.f28,dd28,go_sem,simprocAttr,mu28,↓wrap_up,↓wrap_down,↓wrap_pred,↓wrap_sub_nat,hk,ihk,hl8,ht8]
        refine⟨fun j q hj hq=>?_,(by first|rfl|(refine prep_to (n:=2) (m:=⟨some [7,2,1],some 2,[]⟩) rfl rfl ?_ ?_ ?_<;>first|rfl|(simp[keepT,AV.underL,AV.under,MB.under,underL_plain,under_plain,underL_append,plain_ints,plain_span,plain_ins,plain_prg,-List.map_take,-List.map_replicate,-List.map_set,plain_kids,plain_reC];done)|(simp[keepT,AV.underL,AV.under,MB.under,underL_plain,under_plain,underL_append,plain_ints,plain_span,plain_ins,plain_prg,-List.map_take,-List.map_replicate,-List.map_set,plain_kids,plain_reC];omega)))⟩
        rcases Nat.lt_or_ge j i with h|h
        ·exact hg j q h hq
        ·obtain rfl:j=i:=by omega
         rw[hk]at hq;obtain rfl:=Option.some.inj hq
         exact hn
     ·intro hg
      rw[show compL ins (kids)=true from compL_true fun j k hj hk=>hg j k hj hk]
      simp +contextual (disch:=omega) only[Tryz.f28,dd28,go_sem,simprocAttr,mu28,↓wrap_up,↓wrap_down,↓wrap_pred,↓wrap_sub_nat]
      exact fzEq rfl rfl)
end
section
attribute [local go_sem] evAppend tySzE List.head?_drop Nat.mul_one sameAt_zero sameAt_two sameAt_three sameAt_four sameAt_five room_ok
open Go.Proofs Go.RowKit Go.IntWalk
set_option maxRecDepth 100000
set_option maxHeartbeats 8000000
def insSplit (md next other:Int):Ins:=if md=1 then⟨2,other,next,0,[]⟩ else⟨2,next,other,0,[]⟩
mutual
def codeG:Re→Nat→List Ins
 | .mk op set kids mn mx md n neg,f=>
   if op=1 then [⟨1,0,0,0,set⟩] else if op=11 then [⟨5,0,0,n,[]⟩] else if op=2 then codeCat kids f else if op=3 then codeAlt kids f
   else if op=5 then⟨4,0,0,2 * n - 2,[]⟩::(codeHd kids (f+1)++[⟨4,0,0,2 * n - 1,[]⟩])
   else if op=4 then
    let L:=lenL kids
    let copies:=(List.range mn.toNat).flatMap fun i=>codeHd kids (f+i * L)
    let p:=f+mn.toNat * L
    if mx = -1 then copies++(insSplit md ((p+1:Nat):Int) ((p+L+2:Nat):Int)::(codeHd kids (p+1)++[⟨3,(p:Int),0,0,[]⟩]))
    else copies++(List.range (mx.toNat - mn.toNat)).flatMap fun j=>insSplit md ((p+j * (L+1)+1:Nat):Int) ((f+mx.toNat * L+(mx.toNat - mn.toNat):Nat):Int)::codeHd kids (p+j * (L+1)+1)
   else []
def codeCat:List Re→Nat→List Ins
 | [],_=>[]
 | k::ks,f=>codeG k f++codeCat ks (f+lenG k)
def codeAlt:List Re→Nat→List Ins
 | [],_=>[]
 | k::ks,f=>if ks.length=0 then codeG k f else
    ⟨2,((f+1:Nat):Int),((f+lenG k+2:Nat):Int),0,[]⟩::(codeG k (f+1)++(⟨3,((f+lenL (k::ks)+2 * ks.length:Nat):Int),0,0,[]⟩::codeAlt ks (f+lenG k+2)))
def codeHd:List Re→Nat→List Ins
 | [],_=>[]
 | k::_,f=>codeG k f
end
mutual
def codable:Re→Bool
 | .mk op set kids mn mx md n neg=>(decide (op≤5) || op == 11) && codableL kids
def codableL:List Re→Bool
 | []=>true
 | k::ks=>codable k && codableL ks
end
theorem codableL_iff:∀ l:List Re,codableL l=true↔∀ k∈l,codable k=true
 | []=>by simp[codableL]
 | k::ks=>by simp[codableL,codableL_iff ks]
mutual
theorem codable_of:∀(r:Re) (ins:List Int),compG ins r=true→codable r=true
 | .mk op set kids mn mx md n neg,ins,h=>by
   rw[compG]at h
   rw[codable,Bool.and_eq_true,Bool.or_eq_true,decide_eq_true_eq,beq_iff_eq]
   split at h
   ·cases h
   ·split at h
    ·split at h
     ·cases h
     ·exact⟨.inl (by omega),codableL_of kids _ h⟩
    ·split at h
     ·cases h
     ·exact⟨by omega,codableL_of kids _ h⟩
theorem codableL_of:∀(l:List Re) (ins:List Int),compL ins l=true→codableL l=true
 | [],_,_=>rfl
 | k::ks,ins,h=>by
   rw[compL,Bool.and_eq_true]at h
   rw[codableL,codable_of k ins h.1,codableL_of ks ins h.2];rfl
end
structure GoodC (caps top:Int) (r:Re):Prop where
 whole:wholeG caps top r=true
 cod:codable r=true
theorem GoodC.kids {caps top op:Int} {set:List (Int×Int)} {kids:List Re} {mn mx md n:Int} {neg:Bool} (h:GoodC caps top (.mk op set kids mn mx md n neg)):∀ k∈kids,GoodC caps top k:=by
 intro k hk
 have h2:=h.cod
 rw[codable,Bool.and_eq_true,codableL_iff]at h2
 exact⟨(whole_facts h.whole).1 k hk,h2.2 k hk⟩
theorem GoodC.op {caps top op:Int} {set:List (Int×Int)} {kids:List Re} {mn mx md n:Int} {neg:Bool} (h:GoodC caps top (.mk op set kids mn mx md n neg)):op=0∨op=1∨op=2∨op=3∨op=4∨op=5∨op=11:=by
 have h2:=h.cod
 rw[codable,Bool.and_eq_true,Bool.or_eq_true,decide_eq_true_eq,beq_iff_eq]at h2
 have h3:=(whole_facts h.whole).2.2.2.2
 omega
theorem flat_len {α:Type} (g:Nat→List α) (L:Nat):∀ m,(∀ i,i < m→(g i).length=L)→((List.range m).flatMap g).length=m * L
 | 0,_=>by simp
 | m+1,h=>by
   rw[List.range_succ,List.flatMap_append,List.length_append,flat_len g L m (fun i hi=>h i (by omega))]
   simp only[List.flatMap_cons,List.flatMap_nil,List.append_nil,h m (by omega),Nat.succ_mul]
mutual
theorem codeG_len (caps top:Int):∀(r:Re) (f:Nat),GoodC caps top r→(codeG r f).length=lenG r
 | .mk op set kids mn mx md n neg,f,hw=>by
   have hop:=hw.op
   obtain⟨_,hkd,hrp,_,ho1,ho2⟩:=whole_facts hw.whole
   have hwk:=hw.kids
   have hcat:=codeCat_len caps top kids f hwk
   have halt:=codeAlt_len caps top kids f hwk
   have hhd:=fun f=>codeHd_len caps top kids f hwk
   rw[codeG,lenG]
   by_cases h1:op=1
   ·rw[if_pos h1,if_pos (.inl h1)];rfl
   rw[if_neg h1]
   by_cases h11:op=11
   ·rw[if_pos h11,if_pos (.inr h11)];rfl
   rw[if_neg h11,if_neg (show ¬ (op=1∨op=11) by omega)]
   by_cases h2:op=2
   ·rw[if_pos h2,if_neg (show ¬ op=3 by omega),if_neg (show ¬ op=5 by omega),if_neg (show ¬ op=4 by omega)];exact hcat
   rw[if_neg h2]
   by_cases h3:op=3
   ·subst h3
    rw[if_pos rfl,if_pos rfl]
    have:2≤kids.length:=by simpa [kidsG] using hkd
    exact halt (by omega)
   rw[if_neg h3,if_neg h3]
   have hone:op=4∨op=5→kids.length=1:=fun e=>by rcases e with rfl|rfl<;>simpa [kidsG] using hkd
   by_cases h5:op=5
   ·rw[if_pos h5,if_pos h5]
    simp[hhd _ (hone (.inr h5))]
   rw[if_neg h5,if_neg h5]
   by_cases h4:op=4
   ·rw[if_pos h4,if_pos h4]
    have hh:=fun f=>hhd f (hone (.inl h4))
    have hr:=hrp h4
    simp only[repG,Bool.and_eq_true,Bool.or_eq_true,decide_eq_true_eq,beq_iff_eq]at hr
    by_cases hm:mx = -1
    ·simp only[if_pos hm,List.length_append,List.length_cons,List.length_nil]
     rw[flat_len _ (lenL kids) _ (fun i _=>hh _),hh,Nat.succ_mul]
     omega
    ·simp only[if_neg hm,List.length_append]
     rw[flat_len _ (lenL kids) _ (fun i _=>hh _),flat_len _ (lenL kids+1) _ (fun i _=>by simp[hh])]
     obtain⟨e,he⟩:∃ e,mx.toNat=mn.toNat+e:=⟨mx.toNat - mn.toNat,by omega⟩
     rw[he,Nat.add_sub_cancel_left,Nat.add_mul,Nat.mul_add]
     omega
   rw[if_neg h4,if_neg h4]
   have hk0:kids=[]:=by
    have:op=0:=by omega
    subst this
    exact List.length_eq_zero_iff.1 (by simpa [kidsG] using hkd)
   rw[hk0];rfl
theorem codeCat_len (caps top:Int):∀(l:List Re) (f:Nat),(∀ k∈l,GoodC caps top k)→(codeCat l f).length=lenL l
 | [],f,_=>rfl
 | k::ks,f,h=>by
   rw[codeCat,lenL,List.length_append,codeG_len caps top k f (h k (List.mem_cons_self ..)),codeCat_len caps top ks _ (fun k hk=>h k (List.mem_cons_of_mem _ hk))]
theorem codeAlt_len (caps top:Int):∀(l:List Re) (f:Nat),(∀ k∈l,GoodC caps top k)→1≤l.length→(codeAlt l f).length=lenL l+2 * (l.length - 1)
 | [],f,_,h=>by simp at h
 | k::ks,f,h,_=>by
   have hk:=fun f=>codeG_len caps top k f (h k (List.mem_cons_self ..))
   rw[codeAlt]
   split
   ·rename_i h0
    have:ks=[]:=List.length_eq_zero_iff.1 h0
    subst this
    simp[hk,lenL]
   ·rename_i h0
    have:=codeAlt_len caps top ks (f+lenG k+2) (fun k hk=>h k (List.mem_cons_of_mem _ hk)) (by omega)
    simp only[List.length_cons,List.length_append,hk,this,lenL]
    omega
theorem codeHd_len (caps top:Int):∀(l:List Re) (f:Nat),(∀ k∈l,GoodC caps top k)→l.length=1→(codeHd l f).length=lenL l
 | [],f,_,h=>by simp at h
 | k::ks,f,h,hl=>by
   have:ks=[]:=List.length_eq_zero_iff.1 (by simpa using hl)
   subst this
   rw[codeHd,codeG_len caps top k f (h k (List.mem_cons_self ..))]
   simp[lenL]
end
end
mutual
def noPoss:Re→Bool
 | .mk op set kids mn mx md n neg=>decide (md≠2) && noPossL kids
def noPossL:List Re→Bool
 | []=>true
 | k::ks=>noPoss k && noPossL ks
end
theorem noPossL_iff:∀ l:List Re,noPossL l=true↔∀ k∈l,noPoss k=true
 | []=>by simp[noPossL]
 | k::ks=>by simp[noPossL,noPossL_iff ks]
structure RGood (caps top:Int) (r:Re):Prop where
 good:GoodC caps top r
 np:noPoss r=true
 sz:r.size≤256
theorem Re.sizeL_mem:∀ {l:List Re} {k:Re},k∈l→k.size≤Re.sizeL l
 | x::l,k,h=>by
   rcases List.mem_cons.1 h with e|e
   ·rw[e];simp[Re.sizeL]
   ·have:=Re.sizeL_mem e
    simp[Re.sizeL];omega
theorem Re.sizeL_len:∀ l:List Re,l.length≤Re.sizeL l
 | []=>Nat.le_refl _
 | k::ks=>by
   have:=Re.size_pos k
   have:=Re.sizeL_len ks
   simp[Re.sizeL];omega
theorem RGood.kids {caps top:Int} {r:Re} (h:RGood caps top r):∀ k∈r.kids,RGood caps top k:=by
 obtain⟨op,set,kids,mn,mx,md,n,neg⟩:=r
 intro k hk
 have h1:=h.np
 have h2:=h.sz
 rw[noPoss,Bool.and_eq_true,noPossL_iff]at h1
 have:=Re.sizeL_mem hk
 simp only[Re.size,Re.kids]at h2 this
 exact⟨h.good.kids k hk,h1.2 k hk,by omega⟩
theorem RGood.len {caps top:Int} {r:Re} (h:RGood caps top r):r.kids.length≤255:=by
 obtain⟨op,set,kids,mn,mx,md,n,neg⟩:=r
 have h2:=h.sz
 have:=Re.sizeL_len kids
 simp only[Re.size,Re.kids]at h2 ⊢
 omega
theorem RGood.md {caps top:Int} {r:Re} (h:RGood caps top r):r.md≠2:=by
 obtain⟨op,set,kids,mn,mx,md,n,neg⟩:=r
 have h1:=h.np
 rw[noPoss,Bool.and_eq_true,decide_eq_true_eq]at h1
 exact h1.1
def GG (caps top:Int) (L:Int) (steps:Int):Goal→Prop
 | .nil=>True
 | .mk kind re k fr next=>RGood caps top re∧(kind=0∨(kind=1∧re.op=4∧0≤k∧k≤steps)∨(kind=2∧re.op=4∧0≤k∧k < steps)∨(kind=3∧re.op=5))∧(0≤fr∧fr≤L)∧GG caps top L steps next
theorem GG.mono {caps top L a b:Int} (hab:a≤b):∀ {g:Goal},GG caps top L a g→GG caps top L b g
 | .nil,_=>trivial
 | .mk kind re k fr next,h=>⟨h.1,by rcases h.2.1 with h|h|h|h<;>omega,h.2.2.1,h.2.2.2.mono hab⟩
theorem GG.cat {caps top L a:Int} (hL:0≤L) {next:Goal} (hn:GG caps top L a next):∀ {l:List Re},(∀ k∈l,RGood caps top k)→GG caps top L a (catG next l)
 | [],_=>hn
 | k::ks,h=>⟨h k (by simp),.inl rfl,⟨Int.le_refl _,hL⟩,GG.cat hL hn (fun q hq=>h q (by simp[hq]))⟩
structure SPre (fuel:Int) (s:SS):Prop where
 ne:s.empty=false
 st:0≤s.steps∧s.steps≤fuel
 cl:s.caps.length=s.ends.length
 el:(s.ends.length:Int)≤256 * s.steps
structure SPost (fuel:Int) (s:SS) (b:Bool) (s':SS):Prop where
 st:s.steps≤s'.steps
 eb:b=s'.empty
 fu:b=false→s'.steps≤fuel
 cl:s'.caps.length=s'.ends.length
 el:(s'.ends.length:Int)≤s.ends.length+1+256 * (s'.steps - s.steps)
def RunP (caps top:Int) (t:List Int) (fuel:Int) (R:RunT):Prop:=
 ∀(g:Goal) (i:Int) (c:Caps) (s:SS) (b:Bool) (s':SS),GG caps top t.length s.steps g→0≤i→i≤t.length→c.length≤1000→SPre fuel s→R g i c s=some (b,s')→SPost fuel s b s'
variable {caps top:Int} {t:List Int} {fuel:Int}
theorem SPost.none {s:SS} (h:SPre fuel s):SPost fuel s false s:=⟨Int.le_refl _,h.ne.symm,fun _=>h.st.2,h.cl,by omega⟩
theorem step_false {s:SS} (h:SPre fuel s) (he:(stepS fuel s).empty=false):SPre fuel (stepS fuel s)∧((stepS fuel s).ends.length:Int)≤256 * (stepS fuel s).steps - 256:=by
 have h1:=h.st
 have h2:=h.el
 simp only[stepS,h.ne,Bool.false_or,decide_eq_false_iff_not]at he
 exact⟨⟨by simp[stepS,h.ne];omega,⟨by simp only[stepS];omega,by simp only[stepS];omega⟩,h.cl,by simp only[stepS];omega⟩,by simp only[stepS];omega⟩
theorem step_true {s:SS} (h:SPre fuel s) (he:(stepS fuel s).empty=true):SPost fuel s true (stepS fuel s):=
 ⟨by simp only[stepS];omega,he.symm,fun e=>(by cases e),h.cl,by simp only[stepS];omega⟩
theorem SPost.after {s s1 s':SS} {b:Bool} (h1:s1=stepS fuel s) (h:SPost fuel s1 b s'):SPost fuel s b s':=by
 subst h1
 have a:=h.st
 have e:=h.el
 simp only[stepS]at a e
 exact⟨by omega,h.eb,h.fu,h.cl,by omega⟩
theorem SPost.pre {s s2:SS} (hp:SPre fuel s) (hx:(s.ends.length:Int)≤256 * s.steps - 256) (h:SPost fuel s false s2):SPre fuel s2:=by
 have a:=h.st
 have e:=h.el
 have f:=h.fu rfl
 have p:=hp.st
 exact⟨h.eb.symm,⟨by omega,f⟩,h.cl,by omega⟩
theorem SPost.trans {s s2 s':SS} {b:Bool} (h1:SPost fuel s false s2) (h2:SPost fuel s2 b s'):s.steps≤s'.steps∧b=s'.empty∧(b=false→s'.steps≤fuel)∧s'.caps.length=s'.ends.length∧(s'.ends.length:Int)≤s.ends.length+2+256 * (s'.steps - s.steps):=by
 have a:=h1.st
 have b':=h2.st
 have c:=h1.el
 have d:=h2.el
 exact⟨by omega,h2.eb,h2.fu,h2.cl,by omega⟩
theorem rep_kid {re:Re} (h:RGood caps top re) (ho:re.op=4):∃ kid,re.kids=[kid]∧RGood caps top kid:=by
 obtain⟨op,set,kids,mn,mx,md,n,neg⟩:=re
 simp only[Re.op]at ho
 subst ho
 have hk:=(whole_facts h.good.whole).2.1
 obtain⟨k,rfl⟩:∃ k,kids=[k]:=List.length_eq_one_iff.1 (by simpa [kidsG] using hk)
 exact⟨k,rfl,h.kids k (by simp[Re.kids])⟩
theorem cap_kid {re:Re} (h:RGood caps top re) (ho:re.op=5):∃ kid,re.kids=[kid]∧RGood caps top kid:=by
 obtain⟨op,set,kids,mn,mx,md,n,neg⟩:=re
 simp only[Re.op]at ho
 subst ho
 have hk:=(whole_facts h.good.whole).2.1
 obtain⟨k,rfl⟩:∃ k,kids=[k]:=List.length_eq_one_iff.1 (by simpa [kidsG] using hk)
 exact⟨k,rfl,h.kids k (by simp[Re.kids])⟩
theorem once_good {re kid:Re} {next:Goal} {k i L steps:Int} (h:RGood caps top re) (hk:RGood caps top kid) (ho:re.op=4) (h0:0≤k∧k < steps) (hi:0≤i∧i≤L) (hn:GG caps top L steps next) :
 GG caps top L steps (.mk 0 kid 0 0 (.mk 2 re k i next)):=⟨hk,.inl rfl,⟨Int.le_refl _,by omega⟩,h,.inr (.inr (.inl ⟨rfl,ho,h0.1,h0.2⟩)),hi,hn⟩
theorem rep_post {R:RunT} (hR:RunP caps top t fuel R) {re:Re} {k i:Int} {next:Goal} {c:Caps} {s s':SS} {b:Bool} (h:RGood caps top re) (ho:re.op=4) (hk:0≤k∧k≤s.steps) (hi:0≤i∧i≤t.length)
  (hn:GG caps top t.length s.steps next) (hc:c.length≤1000) (hs:SPre fuel s) (he:repR fuel R re k next i c s=some (b,s')):SPost fuel s b s':=by
 unfold repR at he
 simp only at he
 by_cases h1:(stepS fuel s).empty=true
 ·rw[if_pos h1]at he
  simp only[Option.some.injEq,Prod.mk.injEq]at he
  obtain⟨rfl,rfl⟩:=he
  exact step_true hs h1
 ·rw[if_neg h1]at he
  have h1':(stepS fuel s).empty=false:=by simpa using h1
  obtain⟨p1,p2⟩:=step_false hs h1'
  obtain⟨kid,hkid,hgk⟩:=rep_kid h ho
  rw[hkid]at he
  simp only at he
  have hst:(stepS fuel s).steps=s.steps+1:=rfl
  have hen:(stepS fuel s).ends.length=s.ends.length:=rfl
  have hn1:=hn.mono (show s.steps≤(stepS fuel s).steps by omega)
  have hon:=once_good (next:=next) (i:=i) (L:=t.length) (steps:=(stepS fuel s).steps) h hgk ho (k:=k) ⟨hk.1,by omega⟩ hi hn1
  have A:∀ b s',R (.mk 0 kid 0 0 (.mk 2 re k i next)) i c (stepS fuel s)=some (b,s')→SPost fuel (stepS fuel s) b s':=fun b s' e=>hR _ _ _ _ _ _ hon hi.1 hi.2 hc p1 e
  have B:∀ b s',R next i c (stepS fuel s)=some (b,s')→SPost fuel (stepS fuel s) b s':=fun b s' e=>hR _ _ _ _ _ _ hn1 hi.1 hi.2 hc p1 e
  have two:∀(g:Goal) (s2:SS) (b:Bool) (s':SS),GG caps top t.length (stepS fuel s).steps g→SPost fuel (stepS fuel s) false s2→R g i c s2=some (b,s')→SPost fuel s b s':=by
   intro g s2 b s' hg q e
   have p3:=q.pre p1 p2
   have q2:=hR _ _ _ _ _ _ (hg.mono q.st) hi.1 hi.2 hc p3 e
   obtain⟨a1,a2,a3,a4,a5⟩:=q.trans q2
   exact⟨by omega,a2,a3,a4,by omega⟩
  split at he
  ·exact(A _ _ he).after rfl
  ·split at he
   ·unfold orR at he
    split at he
    ·cases he
    ·rename_i s2 e2
     simp only[Option.some.injEq,Prod.mk.injEq]at he
     obtain⟨rfl,rfl⟩:=he
     exact(B _ _ e2).after rfl
    ·rename_i s2 e2
     split at he
     ·exact two _ _ _ _ hon (B _ _ e2) he
     ·simp only[Option.some.injEq,Prod.mk.injEq]at he
      obtain⟨rfl,rfl⟩:=he
      exact(B _ _ e2).after rfl
   ·unfold orR at he
    split at he
    ·cases he
    ·rename_i s2 e2
     simp only[Option.some.injEq,Prod.mk.injEq]at he
     obtain⟨rfl,rfl⟩:=he
     split at e2
     ·exact(A _ _ e2).after rfl
     ·cases e2
    ·rename_i s2 e2
     split at e2
     ·exact two _ _ _ _ hn1 (A _ _ e2) he
     ·simp only[Option.some.injEq,Prod.mk.injEq,true_and]at e2
      subst e2
      exact(B _ _ he).after rfl
theorem alt_post {R:RunT} (hR:RunP caps top t fuel R) {next:Goal} {i:Int} {c:Caps} (hi:0≤i∧i≤t.length) (hc:c.length≤1000) :
  ∀(l:List Re) (s s':SS) (b:Bool),(∀ k∈l,RGood caps top k)→GG caps top t.length s.steps next→SPre fuel s→(s.ends.length:Int)+l.length≤256 * s.steps→altR R next i c l s=some (b,s') →
   s.steps≤s'.steps∧b=s'.empty∧(b=false→s'.steps≤fuel)∧s'.caps.length=s'.ends.length∧(s'.ends.length:Int)≤s.ends.length+l.length+256 * (s'.steps - s.steps)
 | [],s,s',b,_,_,hs,_,he=>by
   simp only[altR,Option.some.injEq,Prod.mk.injEq]at he
   obtain⟨rfl,rfl⟩:=he
   exact⟨Int.le_refl _,hs.ne.symm,fun _=>hs.st.2,hs.cl,by simp⟩
 | k::ks,s,s',b,hg,hn,hs,hx,he=>by
   simp only[altR]at he
   unfold orR at he
   have A:∀ b s',R (.mk 0 k 0 0 next) i c s=some (b,s')→SPost fuel s b s':=fun b s' e=>
    hR (.mk 0 k 0 0 next) _ _ _ _ _ ⟨hg k (by simp),.inl rfl,⟨Int.le_refl _,by omega⟩,hn⟩ hi.1 hi.2 hc hs e
   simp only[List.length_cons]at hx ⊢
   split at he
   ·cases he
   ·rename_i s2 e2
    simp only[Option.some.injEq,Prod.mk.injEq]at he
    obtain⟨rfl,rfl⟩:=he
    have q:=A _ _ e2
    have a:=q.el
    exact⟨q.st,q.eb,q.fu,q.cl,by omega⟩
   ·rename_i s2 e2
    have q:=A _ _ e2
    have a:=q.el
    have b1:=q.st
    have f:=q.fu rfl
    have p0:=hs.st
    obtain⟨r1,r2,r3,r4,r5⟩:=alt_post hR hi hc ks s2 s' b (fun x hx=>hg x (by simp[hx])) (hn.mono b1) ⟨q.eb.symm,⟨by omega,f⟩,q.cl,by omega⟩ (by omega) he
    exact⟨by omega,r2,r3,r4,by omega⟩
theorem node_post {R:RunT} (hR:RunP caps top t fuel R) {re:Re} {i:Int} {next:Goal} {c:Caps} {s s':SS} {b:Bool} (h:RGood caps top re) (hi:0≤i∧i≤t.length)
  (hn:GG caps top t.length s.steps next) (hc:c.length≤1000) (hs:SPre fuel s) (he:nodeR t fuel R re next i c s=some (b,s')):SPost fuel s b s':=by
 unfold nodeR at he
 split at he
 ·rename_i ho
  exact rep_post hR h ho ⟨Int.le_refl _,hs.st.1⟩ hi hn hc hs he
 ·simp only at he
  by_cases h1:(stepS fuel s).empty=true
  ·rw[if_pos h1]at he
   simp only[Option.some.injEq,Prod.mk.injEq]at he
   obtain⟨rfl,rfl⟩:=he
   exact step_true hs h1
  ·rw[if_neg h1]at he
   have h1':(stepS fuel s).empty=false:=by simpa using h1
   obtain⟨p1,p2⟩:=step_false hs h1'
   have hst:(stepS fuel s).steps=s.steps+1:=rfl
   have hn1:=hn.mono (show s.steps≤(stepS fuel s).steps by omega)
   have B:∀ b s',R next i c (stepS fuel s)=some (b,s')→SPost fuel (stepS fuel s) b s':=fun b s' e=>hR _ _ _ _ _ _ hn1 hi.1 hi.2 hc p1 e
   have Z:∀ b s',some (false,stepS fuel s)=some (b,s')→SPost fuel (stepS fuel s) b s':=fun b s' e=>by
    simp only[Option.some.injEq,Prod.mk.injEq]at e
    obtain⟨rfl,rfl⟩:=e
    exact SPost.none p1
   split at he
   ·split at he
    ·rename_i x hx
     have hlt:=(List.getElem?_eq_some_iff.1 hx).1
     split at he
     ·exact(hR _ _ _ _ _ _ hn1 (by omega) (by omega) hc p1 he).after rfl
     ·exact(Z _ _ he).after rfl
    ·exact(Z _ _ he).after rfl
   ·split at he
    ·exact(hR _ _ _ _ _ _ (GG.cat (by omega) hn1 h.kids) hi.1 hi.2 hc p1 he).after rfl
    ·split at he
     ·have hl:=h.len
      obtain⟨r1,r2,r3,r4,r5⟩:=alt_post hR hi hc _ _ _ _ h.kids hn1 p1 (by omega) he
      have hen:(stepS fuel s).ends.length=s.ends.length:=rfl
      exact⟨by omega,r2,r3,r4,by omega⟩
     ·split at he
      ·rename_i ho
       obtain⟨kid,hkid,hgk⟩:=cap_kid h ho
       rw[hkid]at he
       simp only at he
       exact(hR (.mk 0 kid 0 0 (.mk 3 re 0 i next)) _ _ _ _ _ ⟨hgk,.inl rfl,⟨Int.le_refl _,by omega⟩,h,.inr (.inr (.inr ⟨rfl,ho⟩)),hi,hn1⟩ hi.1 hi.2 hc p1 he).after rfl
      ·split at he
       ·split at he
        ·exact(B _ _ he).after rfl
        ·exact(Z _ _ he).after rfl
       ·exact(B _ _ he).after rfl
theorem with_len (c:Caps) (n a b:Int):(withI c n a b).length=c.length:=by
 unfold withI;split<;>simp
theorem runG_post (caps top:Int) (t:List Int) (fuel:Int):∀ d,RunP caps top t fuel (runG t fuel d)
 | 0=>fun g i c s b s' _ _ _ _ _ e=>by cases g<;>simp[runG]at e
 | d+1=>fun g i c s b s' hg h0 hL hc hs e=>by
   have ih:=runG_post caps top t fuel d
   cases g with
   | nil=>
     simp only[runG,Option.some.injEq,Prod.mk.injEq]at e
     obtain⟨rfl,rfl⟩:=e
     exact⟨Int.le_refl _,hs.ne.symm,fun _=>hs.st.2,by simp[hs.cl],by simp⟩
   | mk kind re k fr next=>
     obtain⟨g1,g2,g3,g4⟩:=hg
     simp only[runG]at e
     rcases g2 with rfl|⟨rfl,g2⟩|⟨rfl,g2⟩|⟨rfl,g2⟩
     ·rw[if_neg (by omega),if_neg (by omega),if_neg (by omega)]at e
      exact node_post ih g1 ⟨h0,hL⟩ g4 hc hs e
     ·rw[if_pos rfl]at e
      exact rep_post ih g1 g2.1 g2.2 ⟨h0,hL⟩ g4 hc hs e
     ·rw[if_neg (by omega),if_pos rfl]at e
      split at e
      ·simp only[Option.some.injEq,Prod.mk.injEq]at e
       obtain⟨rfl,rfl⟩:=e
       exact SPost.none hs
      ·exact ih (.mk 1 re (k+1) 0 next) _ _ _ _ _ ⟨g1,.inr (.inl ⟨rfl,g2.1,by omega,by omega⟩),⟨Int.le_refl _,by omega⟩,g4⟩ h0 hL hc hs e
     ·rw[if_neg (by omega),if_neg (by omega),if_pos rfl]at e
      exact ih _ _ _ _ _ _ g4 h0 hL (by rw[with_len];exact hc) hs e
end Go.Ev
namespace Go.Ev
attribute [local go_sem] W_block evBin AV.cells frzB List.length_append List.map_append
section
attribute [local go_sem] tySzE List.head?_drop Nat.mul_one sameAt_zero sameAt_two sameAt_three sameAt_four sameAt_five room_ok
open Go.Proofs Go.RowKit Go.IntWalk
set_option maxRecDepth 100000
set_option maxHeartbeats 8000000
theorem ins_cells (l:List Ins):(l.map insAV).all (fun y=>decide (y.cells.length=5) && y.cells.all AV.ok)=true:=by
 rw[List.all_eq_true]
 intro x hx
 obtain⟨i,_,rfl⟩:=List.mem_map.1 hx
 rfl
theorem app_row {H:List MB} {i j n m z z2:Nat} {els:List AV} {l:List Ins} (hi:getRow H i=some (5,els,z)) (hj:getRow H j=some (5,l.map insAV,z2)) (hn:els.length=n) (hm:l.length=m) (hz:z≤n) (hr:n+m≤4000000000) :
  evAppend Tryz.prog H 31 31 (.ms i 5 n 0 n) (.ms j 5 m 0 m)=some (.ms i 5 (n+m) 0 (n+m),H.set i (.row 5 (els++l.map insAV) z)):=by
 have hl:(l.map insAV).length=m:=by simp[hm]
 have hs:srcElems Tryz.prog H 87 (.ms j 5 m 0 m)=some (l.map insAV):=by
  simp only[srcElems,elemsOf,hj,hl,Nat.zero_add,Nat.le_refl,and_self,if_true,List.drop_zero]
  rw[List.take_of_length_le (by omega)]
 rw[evAppend_end (e:=87) (by kernel_rfl) (by kernel_rfl) (k:=5) (by kernel_rfl) (by_:=56) (by kernel_rfl) (ze:=.agg [I 0,I 0,I 0,I 0,.sl true []]) (by kernel_rfl) rfl (by omega) hs (ins_cells l) hi hn hz (by rw[hl];exact room_ok hr (by omega)),hl]
theorem app_one {H:List MB} {i n z:Nat} {els:List AV} {y:AV} {t:Bool} (hi:getRow H i=some (5,els,z)) (hn:els.length=n) (hy:(decide (y.cells.length=5) && y.cells.all AV.ok)=true) (hz:z≤n) (hr:n+1≤4000000000) :
  evAppend Tryz.prog H 31 31 (.ms i 5 n 0 n) (.sl t [y])=some (.ms i 5 (n+1) 0 (n+1),H.set i (.row 5 (els++[y]) z)):=by
 have hs:srcElems Tryz.prog H 87 (.sl t [y])=some [y]:=rfl
 rw[evAppend_end (e:=87) (by kernel_rfl) (by kernel_rfl) (k:=5) (by kernel_rfl) (by_:=56) (by kernel_rfl) (ze:=.agg [I 0,I 0,I 0,I 0,.sl true []]) (by kernel_rfl) rfl (by omega) hs (by simp only[List.all_cons,List.all_nil,hy,Bool.and_true]) hi hn hz (room_ok hr (by omega))]
 rfl
theorem keep_ins {j:List AV→List MB→Option (List AV×List MB)} (l:List Ins):KeepL j (l.map insAV) (l.map insAV):=KeepL.plain (plain_ins l)
theorem f54' (caps top:Int) (r:Re) (hN:r.wt≤1000000) (hw:wholeG caps top r=true) (hl:lenG r≤8192) (H:List MB):call Tryz.prog pol1 30 [reAV r] H=some (I (lenG r:Nat),H):=by
 rw[f54 caps top r.wt r (Nat.le_refl _) hN hw H,Nat.min_eq_left (by omega)]
theorem own_ins {f id n:Nat} {els:List AV} {c:List Ins} {H:List MB} (hk:pol1.keep f=false) (ho:pol1.own f=true) (hr:getRow H id=some (5,els,0)) (hn:c.length=n) (hK:∀ j,KeepL j els (c.map insAV)) :
  retPol pol1 f [] (.ms id 5 n 0 n) H=some (.ms 0 5 n 0 n,[.row 5 (c.map insAV) 0]):=by
 have hl:=(hK (fun _ _=>none)).len
 rw[List.length_map]at hl
 exact retPol_own (els:=els) hk ho hr (by omega) ((hK _).fz H) hr (plain_ins c) (by simp[hn])
theorem own_end {f id n:Nat} {els xs:List AV} {c:List Ins} {H:List MB} (hk:pol1.keep f=false) (ho:pol1.own f=true) (hr:getRow H id=some (5,els,0)) (hn:c.length=n) (hx:xs=c.map insAV) (hK:∀ j,KeepL j els (c.map insAV)) :
 retPol pol1 f [] (.ms id 5 n 0 n) H=some (.ms 0 5 n 0 n,[.row 5 xs 0]):=hx ▸ own_ins hk ho hr hn hK
def Does55 (r:Re):Prop:=lenG r≤8192→∀ f:Nat,f+lenG r≤100000→∀ H,call Tryz.prog pol1 31 [reAV r,I f] H=some (.ms H.length 5 (lenG r) 0 (lenG r),H++[.row 5 ((codeG r f).map insAV) 0])
def copiesG (k:Re) (f i:Nat):List Ins:=(List.range i).flatMap fun i=>codeG k (f+i * lenG k)
theorem copies_succ (k:Re) (f i:Nat):copiesG k f (i+1)=copiesG k f i++codeG k (f+i * lenG k):=by
 simp[copiesG,List.range_succ,List.flatMap_append]
theorem copies_len {caps top:Int} {k:Re} (h:GoodC caps top k) (f i:Nat):(copiesG k f i).length=i * lenG k:=flat_len _ _ _ (fun i _=>codeG_len caps top k _ h)
def optsG (md:Int) (k:Re) (p e i:Nat):List Ins:=(List.range i).flatMap fun j=>insSplit md ((p+j * (lenG k+1)+1:Nat):Int) (e:Nat)::codeG k (p+j * (lenG k+1)+1)
theorem opts_succ (md:Int) (k:Re) (p e i:Nat):optsG md k p e (i+1)=optsG md k p e i++insSplit md ((p+i * (lenG k+1)+1:Nat):Int) (e:Nat)::codeG k (p+i * (lenG k+1)+1):=by
 simp[optsG,List.range_succ,List.flatMap_append]
theorem opts_len {caps top:Int} {k:Re} (h:GoodC caps top k) (md:Int) (p e i:Nat):(optsG md k p e i).length=i * (lenG k+1):=flat_len _ _ _ (fun i _=>by simp[codeG_len caps top k _ h])
def restG (md:Int) (k:Re) (f m e i:Nat):List Ins:=copiesG k f m++optsG md k (f+m * lenG k) e i
theorem rest_zero (md:Int) (k:Re) (f m e:Nat):restG md k f m e 0=copiesG k f m:=by simp[restG,optsG]
theorem rest_succ (md:Int) (k:Re) (f m e i:Nat):restG md k f m e (i+1)=restG md k f m e i++insSplit md ((f+m * lenG k+i * (lenG k+1)+1:Nat):Int) (e:Nat)::codeG k (f+m * lenG k+i * (lenG k+1)+1):=by
 rw[restG,opts_succ,← List.append_assoc];rfl
theorem rest_len {caps top:Int} {k:Re} (h:GoodC caps top k) (md:Int) (f m e i:Nat):(restG md k f m e i).length=m * lenG k+i * (lenG k+1):=by
 rw[restG,List.length_append,copies_len h,opts_len h]
theorem f116 (caps top:Int) (set:List (Int×Int)) (k:Re) (mn mx md n:Int) (neg:Bool) (hw:GoodC caps top (.mk 4 set [k] mn mx md n neg)) (hN:(Re.mk 4 set [k] mn mx md n neg).wt≤1000000) (ih:Does55 k)
  (hl:lenG (.mk 4 set [k] mn mx md n neg)≤8192) (f:Nat) (hf:f+lenG (.mk 4 set [k] mn mx md n neg)≤100000) (H:List MB) :
  call Tryz.prog pol1 64 [reAV (.mk 4 set [k] mn mx md n neg),I f] H=some (.ms H.length 5 (lenG (.mk 4 set [k] mn mx md n neg)) 0 (lenG (.mk 4 set [k] mn mx md n neg)),H++[.row 5 ((codeG (.mk 4 set [k] mn mx md n neg) f).map insAV) 0]):=by
 have hlen:=codeG_len caps top _ f hw
 have h54:=f54' caps top _ hN hw.whole hl
 have hgk:GoodC caps top k:=hw.kids k (List.mem_singleton.2 rfl)
 have hr:=(whole_facts hw.whole).2.2.1 rfl
 simp only[repG,Bool.and_eq_true,Bool.or_eq_true,decide_eq_true_eq,beq_iff_eq]at hr
 obtain⟨mn',rfl⟩:∃ m:Nat,mn=m:=⟨mn.toNat,by omega⟩
 have hmn:mn'≤32:=by omega
 have hll:lenL [k]=lenG k:=by simp[lenL]
 have hlr:mn' * lenG k≤lenG (.mk 4 set [k] mn' mx md n neg)∧(1≤mn'∨mx = -1∨(mn':Int) < mx→lenG k≤lenG (.mk 4 set [k] mn' mx md n neg)):=by
  rw[lenG,if_neg (by omega),if_neg (by omega),if_neg (by omega),if_pos rfl,hll,Int.toNat_natCast]
  split
  ·rw[Nat.succ_mul];omega
  ·obtain⟨e,he⟩:∃ e:Nat,mx=(mn' + e:Nat):=⟨(mx - mn').toNat,by omega⟩
   subst he
   rw[Int.toNat_natCast,Nat.add_mul]
   have:1≤mn'→lenG k≤mn' * lenG k:=fun h=>Nat.le_mul_of_pos_left _ h
   have:1≤e→lenG k≤e * lenG k:=fun h=>Nat.le_mul_of_pos_left _ h
   omega
 have e0:reAV (.mk 4 set [k] mn' mx md n neg)=.agg (nodeL 4 set [k] mn' mx md n neg):=congrArg AV.agg reC_mk
 rw[e0]at h54 ⊢
 have hcl:=fun i=>copies_len hgk f i
 have hl8:=reC_len k
 have ht8:=reC_take k
 refine call_runO (k:=5) (els:=(codeG (.mk 4 set [k] mn' mx md n neg) f).map insAV) Tryz.func64 rfl rfl rfl rfl (fun _=>rfl) (by simp[AV.plain,AV.plainL,plain_span,plain_kids,plain_reC]) (plain_ins _) ?_ H
 simp +contextual (disch:=omega) only[Tryz.f64,dd64,go_sem,simprocAttr,evAppend,mu64,↓wrap_up,↓wrap_down,↓wrap_pred,↓wrap_sub_nat]
 refine W_count (M:=(mskOf (pol1.mask 64) (pol1.gc 64) (pol1.acts 64) 0 3)) rfl mn' (fun i=>(⟨112,[(6,I i),(5,.ms 1 5 (i * lenG k) 0 (i * lenG k)),(2,.rf 0 1 0 0),(1,I f)],[.row 8 [.agg (nodeL 4 set [k] mn' mx md n neg)] 0,.row 5 ((copiesG k f i).map insAV) 0]⟩:St)) (fun _=>True) ?_ ?_ trivial _ ?_
 ·intro i hi _
  have e1:=copies_succ k f i
  have e3:(i+1) * lenG k=i * lenG k+lenG k:=Nat.succ_mul ..
  have e4:(i+1) * lenG k≤mn' * lenG k:=Nat.mul_le_mul_right _ hi
  have ihk:=ih (by omega) (f+i * lenG k) (by omega)
  have e2:=hcl i
  have hk5:=codeG_len caps top k (f+i * lenG k) hgk
  have hadd:(f:Int)+((i * lenG k:Nat):Int)=((f+i * lenG k:Nat):Int):=by omega
  have happ:=fun b0=>app_row (H:=[b0,.row 5 ((copiesG k f i).map insAV) 0,.row 5 ((codeG k (f+i * lenG k)).map insAV) 0]) (i:=1) (j:=2) (n:=i * lenG k) (m:=lenG k) rfl rfl (by rw[List.length_map];exact e2) hk5 (Nat.zero_le _) (by omega)
  simp +contextual (disch:=omega) only[Tryz.f64,dd64,go_sem,simprocAttr,mu64,↓wrap_up,↓wrap_down,↓wrap_pred,↓wrap_sub_nat,ihk,hadd,happ,hl8,ht8]
  rw[e1,e3,List.map_append]
  exact(by first|rfl|(refine prep_to (n:=2) (m:=⟨some [6,5,2,1],some 2,[]⟩) rfl rfl ?_ ?_ ?_<;>first|rfl|(simp[keepT,AV.underL,AV.under,MB.under,underL_plain,under_plain,underL_append,plain_ints,plain_span,plain_ins,plain_prg,-List.map_take,-List.map_replicate,-List.map_set,plain_kids,plain_reC];done)|(simp[keepT,AV.underL,AV.under,MB.under,underL_plain,under_plain,underL_append,plain_ints,plain_span,plain_ins,plain_prg,-List.map_take,-List.map_replicate,-List.map_set,plain_kids,plain_reC];omega)))
 ·intro _
  have e2:=hcl mn'
  have hadd:(f:Int)+((mn' * lenG k:Nat):Int)=((f+mn' * lenG k:Nat):Int):=by omega
  by_cases hmx:mx = -1
  ·subst hmx
   have hcode:codeG (.mk 4 set [k] mn' (-1) md n neg) f=copiesG k f mn'++insSplit md ((f+mn' * lenG k+1:Nat):Int) ((f+mn' * lenG k+lenG k+2:Nat):Int)::(codeG k (f+mn' * lenG k+1)++[⟨3,(f+mn' * lenG k:Nat),0,0,[]⟩]):=by
    rw[codeG]
    simp only[copiesG,hll,codeHd,Int.toNat_natCast,if_true]
    rfl
   have hL:lenG (.mk 4 set [k] mn' (-1) md n neg)=mn' * lenG k+1+lenG k+1:=by
    rw[lenG,if_neg (by omega),if_neg (by omega),if_neg (by omega),if_pos rfl,if_pos rfl,hll,Int.toNat_natCast,Nat.succ_mul]
    omega
   rw[hcode]at hlen ⊢
   rw[hL]at hlen hl hf ⊢
   have hk5:=codeG_len caps top k (f+mn' * lenG k+1) hgk
   have ihk:=ih (by omega) (f+mn' * lenG k+1) (by omega)
   generalize hC:copiesG k f mn' = C at *
   generalize hA:mn' * lenG k=a at *
   generalize hB:codeG k (f+a+1)=B at *
   have hadd2:((f+a:Nat):Int)+(lenG k:Int)=((f+a+lenG k:Nat):Int):=by omega
   have hap1:=fun b0 X x y=>app_one (H:=[b0,.row 5 (C.map insAV) 0,.row 5 (B.map insAV) 0,X]) (i:=1) (n:=a) (t:=true) (y:=.agg [I 2,I x,I y,I 0,.sl true []]) rfl (by rw[List.length_map];exact e2) rfl (Nat.zero_le _) (by omega)
   have hap2:=fun b0 X y=>app_row (H:=[b0,.row 5 (C.map insAV++[y]) 0,.row 5 (B.map insAV) 0,X]) (i:=1) (j:=2) (n:=a+1) (m:=lenG k) rfl rfl (by simp[e2]) hk5 (Nat.zero_le _) (by omega)
   have hap3:=fun b0 X y w=>app_one (H:=[b0,.row 5 (C.map insAV++[y]++B.map insAV) 0,.row 5 (B.map insAV) 0,X]) (i:=1) (n:=a+1+lenG k) (t:=true) (y:=.agg [I 3,I w,I 0,I 0,.sl true []]) rfl (by simp[e2,hk5];omega) rfl (Nat.zero_le _) (by omega)
   by_cases hmd:md=1
   ·subst hmd
    simp +contextual (disch:=omega) only[Tryz.f64,dd64,go_sem,simprocAttr,mu64,↓wrap_up,↓wrap_down,↓wrap_pred,↓wrap_sub_nat,ihk,hadd,hadd2,hap1,hap2,hap3,hl8,ht8]
    refine own_end (c:=C++insSplit 1 ((f+a+1:Nat):Int) ((f+a+lenG k+2:Nat):Int)::(B++[⟨3,(f+a:Nat),0,0,[]⟩])) rfl rfl rfl (by simpa using hlen) (by simp only[List.map_append,List.map_cons,List.map_nil]) (fun j=>?_)
    simp only[List.map_append,List.map_cons,List.map_nil,List.append_assoc,List.cons_append,List.nil_append,insSplit,if_true]
    exact(keep_ins C).append (.cons (fun H=>rfl) ((keep_ins B).append (.one fun H=>rfl)))
   ·simp +contextual (disch:=omega) only[Tryz.f64,dd64,go_sem,simprocAttr,mu64,↓wrap_up,↓wrap_down,↓wrap_pred,↓wrap_sub_nat,ihk,hadd,hadd2,hap1,hap2,hap3,hl8,ht8]
    refine own_end (c:=C++insSplit md ((f+a+1:Nat):Int) ((f+a+lenG k+2:Nat):Int)::(B++[⟨3,(f+a:Nat),0,0,[]⟩])) rfl rfl rfl (by simpa using hlen) (by simp only[List.map_append,List.map_cons,List.map_nil]) (fun j=>?_)
    simp only[List.map_append,List.map_cons,List.map_nil,List.append_assoc,List.cons_append,List.nil_append,insSplit,hmd,if_false]
    exact(keep_ins C).append (.cons (fun H=>rfl) ((keep_ins B).append (.one fun H=>rfl)))
  ·obtain⟨e,rfl⟩:∃ e:Nat,mx=(mn' + e:Nat):=⟨(mx - mn').toNat,by omega⟩
   have hnn:mn' + e - mn' = e:=by omega
   have hL:lenG (.mk 4 set [k] mn' (mn' + e:Nat) md n neg)=mn' * lenG k+e * (lenG k+1):=by
    rw[lenG,if_neg (by omega),if_neg (by omega),if_neg (by omega),if_pos rfl,if_neg hmx,hll,Int.toNat_natCast,Int.toNat_natCast,hnn,Nat.add_mul,Nat.mul_succ]
    omega
   have hcode:codeG (.mk 4 set [k] mn' (mn' + e:Nat) md n neg) f=restG md k f mn' (f+lenG (.mk 4 set [k] mn' (mn' + e:Nat) md n neg)) e:=by
    rw[codeG,if_neg (by omega),if_neg (by omega),if_neg (by omega),if_neg (by omega),if_neg (by omega),if_pos rfl,if_neg hmx]
    simp only[hll,Int.toNat_natCast,hnn,restG,optsG,copiesG,codeHd]
    have:f+(mn' + e) * lenG k+e=f+lenG (.mk 4 set [k] mn' (mn' + e:Nat) md n neg):=by
     rw[hL,Nat.add_mul,Nat.mul_succ];omega
    rw[this]
   generalize hLL:lenG (.mk 4 set [k] mn' (mn' + e:Nat) md n neg)=LL at *
   rw[hcode]at hlen ⊢
   have hrl:=fun i=>rest_len hgk md f mn' (f+LL) i
   have hadL:(f:Int)+(LL:Int)=((f+LL:Nat):Int):=by omega
   have h54':∀ H,call Tryz.prog pol1 30 [.agg [I 4,.sl false (set.map spanAV),.sl false [reAV k],I mn',I (mn' + e:Nat),I md,I n,.bool neg]] H=some (I (LL:Nat),H):=h54
   simp +contextual (disch:=omega) only[Tryz.f64,dd64,go_sem,simprocAttr,mu64,↓wrap_up,↓wrap_down,↓wrap_pred,↓wrap_sub_nat,h54',hadL]
   refine W_count (M:=(mskOf (pol1.mask 64) (pol1.gc 64) (pol1.acts 64) 0 17)) rfl e (fun i=>(⟨112,[(12,I (mn' + i:Nat)),(11,I (f+LL:Nat)),(5,.ms 1 5 (mn' * lenG k+i * (lenG k+1)) 0 (mn' * lenG k+i * (lenG k+1))),(2,.rf 0 1 0 0),(1,I f)],[.row 8 [.agg (nodeL 4 set [k] mn' (mn' + e:Nat) md n neg)] 0,.row 5 ((restG md k f mn' (f+LL) i).map insAV) 0]⟩:St)) (fun _=>True) ?_ ?_ trivial _ ?_
   ·intro i hi _
    have e1:=rest_succ md k f mn' (f+LL) i
    have e3:(i+1) * (lenG k+1)=i * (lenG k+1)+lenG k+1:=by rw[Nat.succ_mul];omega
    have e4:(i+1) * (lenG k+1)≤e * (lenG k+1):=Nat.mul_le_mul_right _ hi
    have e5:((mn' + i+1:Nat):Int)=((mn' + (i+1):Nat):Int):=by omega
    have hrli:=hrl i
    have e6:mn' * lenG k+i * (lenG k+1)+1+lenG k=mn' * lenG k+(i+1) * (lenG k+1):=by omega
    have ihk:=ih (by omega) (f+mn' * lenG k+i * (lenG k+1)+1) (by omega)
    have hk5:=codeG_len caps top k (f+mn' * lenG k+i * (lenG k+1)+1) hgk
    have had2:(f:Int)+((mn' * lenG k+i * (lenG k+1):Nat):Int)=((f+mn' * lenG k+i * (lenG k+1):Nat):Int):=by omega
    have hap1:=fun b0 X x y=>app_one (H:=[b0,.row 5 ((restG md k f mn' (f+LL) i).map insAV) 0,X]) (i:=1) (n:=mn' * lenG k+i * (lenG k+1)) (t:=true) (y:=.agg [I 2,I x,I y,I 0,.sl true []]) rfl (by rw[List.length_map];exact hrli) rfl (Nat.zero_le _) (by omega)
    have hz:=fun(x y:Int) (H:List MB)=>KeepL.fz (j:=fzJ 6) ((keep_ins (restG md k f mn' (f+LL) i)).append (KeepL.one (x:=.agg [I 2,I x,I y,I 0,.sl true []]) (y:=.agg [I 2,I x,I y,I 0,.sl false []]) (fun H=>rfl))) H
    have hz2:∀(x y:Int) (H:List MB),fzs ((restG md k f mn' (f+LL) i).map insAV++[.agg [I 2,I x,I y,I 0,.sl true []]]) H=some ((restG md k f mn' (f+LL) i).map insAV++[.agg [I 2,I x,I y,I 0,.sl false []]],H):=hz
    have hap2:=fun b0 X y=>app_row (H:=[b0,.row 5 ((restG md k f mn' (f+LL) i).map insAV++[y]) 0,X,.row 5 ((codeG k (f+mn' * lenG k+i * (lenG k+1)+1)).map insAV) 0]) (i:=1) (j:=3) (n:=mn' * lenG k+i * (lenG k+1)+1) (m:=lenG k) rfl rfl (by simp[hrli]) hk5 (Nat.zero_le _) (by omega)
    by_cases hmd:md=1
    ·subst hmd
     simp +contextual (disch:=omega) only[Tryz.f64,dd64,go_sem,simprocAttr,mu64,↓wrap_up,↓wrap_down,↓wrap_pred,↓wrap_sub_nat,ihk,had2,hap1,hz2,hap2,hl8,ht8,AV.beqL_refl]
     have er:(restG 1 k f mn' (f+LL) (i+1)).map insAV=(restG 1 k f mn' (f+LL) i).map insAV++[.agg [I 2,I (f+LL:Nat),I (f+mn' * lenG k+i * (lenG k+1)+1:Nat),I 0,.sl false []]]++(codeG k (f+mn' * lenG k+i * (lenG k+1)+1)).map insAV:=by
      rw[e1,List.map_append,List.map_cons,List.append_assoc,List.singleton_append,insSplit,if_pos rfl]
      rfl
     rw[er,← e6,← e5]
     exact(by first|rfl|(refine prep_to (n:=2) (m:=⟨some [12,11,5,2,1],some 2,[]⟩) rfl rfl ?_ ?_ ?_<;>first|rfl|(simp[keepT,AV.underL,AV.under,MB.under,underL_plain,under_plain,underL_append,plain_ints,plain_span,plain_ins,plain_prg,-List.map_take,-List.map_replicate,-List.map_set,plain_kids,plain_reC];done)|(simp[keepT,AV.underL,AV.under,MB.under,underL_plain,under_plain,underL_append,plain_ints,plain_span,plain_ins,plain_prg,-List.map_take,-List.map_replicate,-List.map_set,plain_kids,plain_reC];omega)))
    ·simp +contextual (disch:=omega) only[Tryz.f64,dd64,go_sem,simprocAttr,mu64,↓wrap_up,↓wrap_down,↓wrap_pred,↓wrap_sub_nat,ihk,had2,hap1,hz2,hap2,hl8,ht8,AV.beqL_refl]
     have er:(restG md k f mn' (f+LL) (i+1)).map insAV=(restG md k f mn' (f+LL) i).map insAV++[.agg [I 2,I (f+mn' * lenG k+i * (lenG k+1)+1:Nat),I (f+LL:Nat),I 0,.sl false []]]++(codeG k (f+mn' * lenG k+i * (lenG k+1)+1)).map insAV:=by
      rw[e1,List.map_append,List.map_cons,List.append_assoc,List.singleton_append,insSplit,if_neg hmd]
      rfl
     rw[er,← e6,← e5]
     exact(by first|rfl|(refine prep_to (n:=2) (m:=⟨some [12,11,5,2,1],some 2,[]⟩) rfl rfl ?_ ?_ ?_<;>first|rfl|(simp[keepT,AV.underL,AV.under,MB.under,underL_plain,under_plain,underL_append,plain_ints,plain_span,plain_ins,plain_prg,-List.map_take,-List.map_replicate,-List.map_set,plain_kids,plain_reC];done)|(simp[keepT,AV.underL,AV.under,MB.under,underL_plain,under_plain,underL_append,plain_ints,plain_span,plain_ins,plain_prg,-List.map_take,-List.map_replicate,-List.map_set,plain_kids,plain_reC];omega)))
   ·intro _
    have hre:=hrl e
    simp +contextual (disch:=omega) only[Tryz.f64,dd64,go_sem,simprocAttr,mu64,↓wrap_up,↓wrap_down,↓wrap_pred,↓wrap_sub_nat,hl8,ht8]
    rw[hL]at hlen ⊢
    exact own_end rfl rfl rfl hlen rfl (fun j=>keep_ins _)
   ·exact(by first|rfl|(refine prep_to (n:=2) (m:=⟨some [12,11,5,2,1],some 2,[]⟩) rfl rfl ?_ ?_ ?_<;>first|rfl|(simp[keepT,AV.underL,AV.under,MB.under,underL_plain,under_plain,underL_append,plain_ints,plain_span,plain_ins,plain_prg,-List.map_take,-List.map_replicate,-List.map_set,plain_kids,plain_reC,rest_zero];done)|(simp[keepT,AV.underL,AV.under,MB.under,underL_plain,under_plain,underL_append,plain_ints,plain_span,plain_ins,plain_prg,-List.map_take,-List.map_replicate,-List.map_set,plain_kids,plain_reC,rest_zero];omega)))
 ·exact(by first|rfl|(refine prep_to (n:=2) (m:=⟨some [6,5,2,1],some 2,[]⟩) rfl rfl ?_ ?_ ?_<;>first|rfl|(simp[keepT,AV.underL,AV.under,MB.under,underL_plain,under_plain,underL_append,plain_ints,plain_span,plain_ins,plain_prg,-List.map_take,-List.map_replicate,-List.map_set,plain_kids,plain_reC,copiesG];done)|(simp[keepT,AV.underL,AV.under,MB.under,underL_plain,under_plain,underL_append,plain_ints,plain_span,plain_ins,plain_prg,-List.map_take,-List.map_replicate,-List.map_set,plain_kids,plain_reC,copiesG];omega)))
end
end Go.Ev
