/- Functions of the program, each with what it computes; no further conditions. -/
import Derived.Test.YtmfpcondongbjaaDoorR07
import Derived.Test.YtmfpcondongbjaaDoorR16
import Derived.Test.YtmfpcondongbjaaDoorR15
import Derived.Test.YtmfpcondongbjaaDoorR13
set_option linter.unusedVariables false
set_option linter.unusedSimpArgs false
namespace Go.Ev
attribute [local go_sem] evBuild splice
structure WayI where
 w:Way
 idle:Nat
 found:Nat
theorem zCb {p:Prog1} {most:Int}:∀(fuel:Nat) (todo out out':List Way),out.length=out'.length→runW p most fuel todo out=none→runW p most fuel todo out' = none
 | fuel,[],out,out',_,h=>by unfold runW at h;simp at h
 | 0,w::todo,out,out',hl,h=>by
   by_cases ho:(out.length:Int)=most
   ·unfold runW at h;simp only[ho,if_true]at h;cases h
   ·exact zDj (by rw[← hl];exact ho)
 | fuel+1,w::todo,out,out',hl,h=>by
   by_cases ho:(out.length:Int)=most
   ·unfold runW at h;simp only[ho,if_true]at h;cases h
   ·rw[zBv ho]at h
    rw[zBv (by rw[← hl];exact ho)]
    cases hs:stepW p w with
    | done=>rw[hs]at h;exact zCb fuel todo _ _ (by simp[hl]) h
    | ways l=>rw[hs]at h;exact zCb fuel _ _ _ hl h
structure Ghost where
 e:WayI
 hs:List Way
def Chain (p:Prog1) (found outN:Nat):List Way→Prop
 | []=>True
 | a::l=>(∀ b∈l,∃ E d m,Reach p b a E d (m+1)∧found+d≤outN)∧Chain p found outN l
theorem Chain.mono {p:Prog1} {f n n':Nat} (h:n≤n'):∀ {l:List Way},Chain p f n l→Chain p f n' l
 | [],_=>trivial
 | a::l,⟨h1,h2⟩=>⟨fun b hb=>by
    obtain⟨E,d,m,r,hd⟩:=h1 b hb
    exact⟨E,d,m,r,by omega⟩,Chain.mono h h2⟩
structure Hist (p:Prog1) (n outN:Nat) (t:Ghost) (rest:List Ghost):Prop where
 idle:∀ g∈t::rest,g.hs.length=g.e.idle∧g.e.found≤outN
 at_:∀ g∈t::rest,g.e.w.pc < n∧∀ h∈g.hs,h.at_=g.e.w.at_∧h.pc < n
 chain:∀ g∈t::rest,Chain p g.e.found outN g.hs
 reach:∀ i g,(t::rest)[i]?=some g→∀ h∈g.hs,∃ E S d m,rest.map (·.e.w)=E++S∧i≤E.length∧Reach p h t.e.w E d (m+1)∧g.e.found+d≤outN
theorem zIn:∀(n:Nat) (L:List Nat),(∀ x∈L,x < n)→L.Nodup→L.length≤n
 | 0,[],_,_=>Nat.le_refl _
 | 0,x::_,h,_=>absurd (h x (List.mem_cons_self ..)) (Nat.not_lt_zero _)
 | n+1,L,h,hd=>by
   have h1:(L.erase n).length≤n:=zIn n (L.erase n) (fun x hx=>by
    have h2:=(List.Nodup.mem_erase_iff hd).1 hx
    have h3:=h x h2.2
    have h4:=h2.1
    omega) (hd.erase n)
   rw[List.length_erase]at h1
   split at h1<;>omega
theorem zHo {p:Prog1} {f N:Nat}:∀(L:List Way),Chain p f N L→¬ (L.map (·.pc)).Nodup→∃ a∈L,∃ b∈L,b.pc=a.pc∧∃ E d m,Reach p b a E d (m+1)∧f+d≤N
 | [],_,h=>absurd List.nodup_nil h
 | a::l,⟨h1,h2⟩,h=>by
   by_cases hb:∃ b∈l,b.pc=a.pc
   ·obtain⟨b,b1,b2⟩:=hb
    exact⟨a,List.mem_cons_self ..,b,List.mem_cons_of_mem _ b1,b2,h1 b b1⟩
   ·have:¬ (l.map (·.pc)).Nodup:=fun hn=>h (by
     rw[List.map_cons,List.nodup_cons]
     refine⟨fun hm=>?_,hn⟩
     obtain⟨b,b1,b2⟩:=List.mem_map.1 hm
     exact hb ⟨b,b1,b2⟩)
    obtain⟨x,x1,y,y1,r⟩:=zHo l h2 this
    exact⟨x,List.mem_cons_of_mem _ x1,y,List.mem_cons_of_mem _ y1,r⟩
theorem Hist.now {p:Prog1} {n outN:Nat} {t:Ghost} {rest:List Ghost} (h:Hist p n outN t rest):Chain p t.e.found outN (t.e.w::t.hs):=
 ⟨fun b hb=>by
   obtain⟨E,S,d,m,_,_,r,hd⟩:=h.reach 0 t rfl b hb
   exact⟨E,d,m,r,hd⟩,h.chain t (List.mem_cons_self ..)⟩
theorem Hist.circle {p:Prog1} {n:Nat} {t:Ghost} {rest:List Ghost} {out:List Way} (h:Hist p n out.length t rest) (hn:n≤t.e.idle) {most:Int} (hm:most = -1∨t.e.found=out.length) (ho:¬ (out.length:Int)=most) (fuel:Nat) :
  runW p most fuel (t.e.w::rest.map (·.e.w)) out=none:=by
 have h0:=h.now
 have hat:=h.at_ t (List.mem_cons_self ..)
 have hid:=h.idle t (List.mem_cons_self ..)
 have hlen:¬ ((t.e.w::t.hs).map (·.pc)).Nodup:=fun hd=>by
  have:=zIn n _ (fun x hx=>by
   obtain⟨b,b1,rfl⟩:=List.mem_map.1 hx
   rcases List.mem_cons.1 b1 with e|e
   ·rw[e];exact hat.1
   ·exact(hat.2 b e).2) hd
  rw[List.length_map,List.length_cons,hid.1]at this
  omega
 obtain⟨a,a1,b,b1,hpc,E,d,m,r,hd⟩:=zHo _ h0 hlen
 have hlike:b.like a:=by
  refine⟨hpc,?_⟩
  have:∀ c∈t.e.w::t.hs,c.at_=t.e.w.at_:=fun c hc=>by
   rcases List.mem_cons.1 hc with e|e
   ·rw[e]
   ·exact(hat.2 c e).1
  rw[this b b1,this a a1]
 have hd0:most = -1∨d=0:=by
  rcases hm with h|h
  ·exact .inl h
  ·exact .inr (by omega)
 rcases List.mem_cons.1 a1 with e|e
 ·subst e
  refine Go.Ev.circle r hlike fuel t.e.w _ out hlike ?_
  rcases hd0 with h|h
  ·exact .inl h
  ·exact .inr ⟨h,ho⟩
 ·obtain⟨E2,S2,d2,m2,hr,_,r2,hd2⟩:=h.reach 0 t rfl a e
  have hlen0:(out.take (out.length - d2)).length+d2=out.length:=by simp;omega
  have hq:most = -1∨(d2=0∧¬ ((out.take (out.length - d2)).length:Int)=most):=by
   rcases hm with h|h
   ·exact .inl h
   ·refine .inr ⟨by omega,?_⟩
    have:d2=0:=by omega
    subst this
    simpa using ho
  obtain⟨out',o1,o2⟩:=r2.run S2 (out.take (out.length - d2)) hq fuel
  have hn:=Go.Ev.circle r hlike (m2+1+fuel) a S2 (out.take (out.length - d2)) hlike (by
   rcases hd0 with h|h
   ·exact .inl h
   ·rcases hq with g|g
    ·exact .inl g
    ·exact .inr ⟨h,g.2⟩)
  rw[hn]at o2
  rw[hr]
  exact zCb fuel _ out' out (by omega) o2.symm
theorem Hist.step {p:Prog1} {n outN:Nat} {t:Ghost} {rest:List Ghost} (h:Hist p n outN t rest) (hcl:∀ w l,w.pc < n→stepW p w=.ways l→∀ v∈l,v.pc < n)
  {hs:List Way} {found:Nat} (hh:(hs=t.e.w::t.hs∧found=t.e.found)∨(hs=[t.e.w]∧found=outN)) {v:Way} {l:List Way} (hs1:stepW p t.e.w=.ways (v::l)) :
  ∃ t' rest',Hist p n outN t' rest'∧t'.e::rest'.map (·.e)=(v::l).map (fun v=>if v.at_=t.e.w.at_ then⟨v,hs.length,found⟩ else⟨v,0,outN⟩)++rest.map (·.e):=by
 have hat:=h.at_ t (List.mem_cons_self ..)
 have hid:=h.idle t (List.mem_cons_self ..)
 have hf:found≤outN:=by rcases hh with ⟨_,h⟩|⟨_,h⟩<;>omega
 have hhs:∀ b∈hs,b.at_=t.e.w.at_∧b.pc < n:=fun b hb=>by
  rcases hh with ⟨e,_⟩|⟨e,_⟩
  ·rw[e]at hb
   rcases List.mem_cons.1 hb with e|e
   ·rw[e];exact⟨rfl,hat.1⟩
   ·exact hat.2 b e
  ·rw[e]at hb
   rw[List.mem_singleton.1 hb];exact⟨rfl,hat.1⟩
 have hch:Chain p found outN hs:=by
  rcases hh with ⟨e,e'⟩|⟨e,e'⟩
  ·rw[e,e'];exact h.now
  ·rw[e];exact⟨fun b hb=>by simp at hb,trivial⟩
 have hre:∀ b∈hs,∃ E S d m,rest.map (·.e.w)=E++S∧Reach p b v (l++E) d (m+1)∧found+d≤outN:=fun b hb=>by
  have self:∃ E S d m,rest.map (·.e.w)=E++S∧Reach p t.e.w v (l++E) d (m+1)∧found+d≤outN:=⟨[],_,0,0,rfl,.on (.refl _) hs1,by omega⟩
  rcases hh with ⟨e,e'⟩|⟨e,_⟩
  ·rw[e]at hb
   rcases List.mem_cons.1 hb with e|e
   ·rw[e];exact self
   ·obtain⟨E,S,d,m,r1,r2,r3,r4⟩:=h.reach 0 t rfl b e
    exact⟨E,S,d,m+1,r1,.on r3 hs1,by omega⟩
  ·rw[e]at hb
   rw[List.mem_singleton.1 hb];exact self
 let gh:Way→Ghost:=fun v=>if v.at_=t.e.w.at_ then⟨⟨v,hs.length,found⟩,hs⟩ else⟨⟨v,0,outN⟩,[]⟩
 have hgh:∀ v,(gh v).e.w=v:=fun v=>by simp only[gh];split<;>rfl
 have hghe:∀ v,(gh v).e=if v.at_=t.e.w.at_ then⟨v,hs.length,found⟩ else⟨v,0,outN⟩:=fun v=>by simp only[gh];split<;>rfl
 have hghs:∀ v,(gh v).hs=hs∧(gh v).e.found=found∨(gh v).hs=[]:=fun v=>by
  simp only[gh];split
  ·exact .inl ⟨rfl,rfl⟩
  ·exact .inr rfl
 have hpc:=hcl t.e.w (v::l) hat.1 hs1
 refine⟨gh v,l.map gh++rest,⟨fun g hg=>?_,fun g hg=>?_,fun g hg=>?_,fun i g hg b hb=>?_⟩,?_⟩
 ·have hcase:g∈(v::l).map gh∨g∈rest:=by simpa [or_assoc] using hg
  rcases hcase with hg|hg
  ·obtain⟨u,_,rfl⟩:=List.mem_map.1 hg
   simp only[gh];split
   ·exact⟨rfl,hf⟩
   ·exact⟨rfl,Nat.le_refl _⟩
  ·exact h.idle g (List.mem_cons_of_mem _ hg)
 ·have hcase:g∈(v::l).map gh∨g∈rest:=by simpa [or_assoc] using hg
  rcases hcase with hg|hg
  ·obtain⟨u,hu,rfl⟩:=List.mem_map.1 hg
   refine⟨by rw[hgh];exact hpc u hu,?_⟩
   simp only[gh];split
   ·rename_i e
    intro b hb
    rw[e];exact hhs b hb
   ·intro b hb;simp at hb
  ·exact h.at_ g (List.mem_cons_of_mem _ hg)
 ·have hcase:g∈(v::l).map gh∨g∈rest:=by simpa [or_assoc] using hg
  rcases hcase with hg|hg
  ·obtain⟨u,_,rfl⟩:=List.mem_map.1 hg
   simp only[gh];split
   ·exact hch
   ·exact trivial
  ·exact h.chain g (List.mem_cons_of_mem _ hg)
 ·have hmap:(l.map gh++rest).map (·.e.w)=l++rest.map (·.e.w):=by
   rw[List.map_append,List.map_map]
   congr 1
   rw[show ((fun x:Ghost=>x.e.w) ∘ gh)=id from funext hgh,List.map_id]
  rw[hmap,hgh]
  by_cases hi:i < (v::l).length
  ·have hg':((v::l).map gh)[i]?=some g:=by
    rw[show gh v::(l.map gh++rest)=(v::l).map gh++rest from rfl,List.getElem?_append_left (by simpa using hi)]at hg
    exact hg
   obtain⟨u,_,rfl⟩:=List.mem_map.1 (List.mem_of_getElem? hg')
   rcases hghs u with ⟨e1,e2⟩|e1
   ·rw[e1]at hb
    obtain⟨E,S,d,m,r1,r2,r3⟩:=hre b hb
    exact⟨l++E,S,d,m,by rw[r1,List.append_assoc],by simp at hi ⊢;omega,r2,by rw[e2];exact r3⟩
   ·rw[e1]at hb;simp at hb
  ·rw[show gh v::(l.map gh++rest)=(v::l).map gh++rest from rfl,List.getElem?_append_right (by simp at hi ⊢;omega)]at hg
   simp only[List.length_map]at hg
   obtain⟨E,S,d,m,r1,r2,r3,r4⟩:=h.reach (i - (v::l).length+1) g (by simpa using hg) b hb
   refine⟨l++E,S,d,m+1,by rw[r1,List.append_assoc],?_,.on r3 hs1,r4⟩
   simp at hi r2 ⊢;omega
 ·simp only[List.map_cons,List.map_append,List.map_map,List.cons_append,List.cons.injEq]
  exact⟨hghe v,by congr 1;exact List.map_congr_left fun u _=>hghe u⟩
theorem Hist.pop {p:Prog1} {n outN:Nat} {t e:Ghost} {rest:List Ghost} (h:Hist p n outN t (e::rest)) {k:Nat} (hs:(stepW p t.e.w=.ways []∧k=0)∨(stepW p t.e.w=.done∧k=1)):Hist p n (outN+k) e rest:=by
 refine⟨fun g hg=>?_,fun g hg=>h.at_ g (List.mem_cons_of_mem _ hg),fun g hg=>(h.chain g (List.mem_cons_of_mem _ hg)).mono (by omega),fun i g hg b hb=>?_⟩
 ·have:=h.idle g (List.mem_cons_of_mem _ hg)
  exact⟨this.1,by omega⟩
 ·obtain⟨E,S,d,m,r1,r2,r3,r4⟩:=h.reach (i+1) g (by simpa using hg) b hb
  cases E with
  | nil=>simp at r2
  | cons x E=>
    simp only[List.map_cons,List.cons_append,List.cons.injEq]at r1
    obtain⟨rfl,r1⟩:=r1
    rcases hs with ⟨hs,rfl⟩|⟨hs,rfl⟩
    ·exact⟨E,S,d,m+1,r1,by simpa using r2,.pop r3 hs,r4⟩
    ·exact⟨E,S,d+1,m+1,r1,by simpa using r2,.found r3 hs,by omega⟩
end Go.Ev
namespace Go.Ev
attribute [local go_sem] evBuild splice
end Go.Ev
namespace Go.Ev
open Go.Proofs Go.RowKit Go.IntWalk
set_option maxRecDepth 100000
set_option maxHeartbeats 4000000
structure Okay (g:Prg):Prop where
 len:1≤g.ins.length∧g.ins.length≤8192
 caps:0≤g.caps∧g.caps≤9
 ok:∀ i∈g.ins,okIns g.ins.length g.caps g.runes i=true
 last:lastGood g=true
theorem Okay.next {g:Prg} (h:Okay g) {pc:Nat} {i:Ins} (hi:g.ins[pc]?=some i) (ho:¬ (i.op=0∨i.op=2∨i.op=3)):pc+1 < g.ins.length:=by
 have hlt:=(List.getElem?_eq_some_iff.1 hi).1
 rcases Nat.lt_or_ge (pc+1) g.ins.length with hh|hh
 ·exact hh
 ·have hl:=h.last
  have:g.ins.length - 1=pc:=by omega
  simp only[lastGood,this,hi]at hl
  simp at hl
  omega
end Go.Ev
namespace Go.Ev
attribute [local go_sem] evBuild splice
section
attribute [local go_sem] evAppend List.length_append List.map_append tySzE List.head?_drop Nat.mul_one zAN zAQ zAL zAO zAP zAU
open Go.Proofs Go.RowKit Go.IntWalk
set_option maxRecDepth 100000
set_option maxHeartbeats 8000000
theorem zFR (ins:List Int):∀ l:List Re,compL ins l=true↔∀ k∈l,compG ins k=true
 | []=>by simp[compL]
 | k::ks=>by simp[compL,zFR ins ks]
theorem zIL {ins:List Int} {l:List Re} {k:Re} (h:k∈l) (hk:compG ins k=false):compL ins l=false:=by
 rw[Bool.eq_false_iff]
 intro hw
 rw[zFR]at hw
 rw[hw k h]at hk;cases hk
theorem zJZ {ins:List Int} {l:List Re} (h:∀(i:Nat) (k:Re),i < l.length→l[i]?=some k→compG ins k=true):compL ins l=true:=by
 rw[zFR]
 intro k hk
 obtain⟨i,hi,e⟩:=List.getElem_of_mem hk
 exact h i k hi (by rw[← e];exact List.getElem?_eq_getElem hi)
theorem f134 (l:List Int) (x:Int) (hl:l.length≤10000000):∃ r:Int,(0≤r↔x∈l)∧∀ H,call Tryd.prog pol1 56 [.sl false (l.map I),I x] H=some (I r,H):=by
 have h:∃ r,(∃ i:Int,(0≤i↔x∈l)∧r=I i)∧∀ H,call Tryd.prog pol1 56 [.sl false (l.map I),I x] H=some (r,H):=by
  refine zCZ Tryd.func56 rfl rfl rfl rfl rfl rfl (fun _=>rfl) (by simp[AV.plain,AV.plainL,zAF]) ?_ ?_
  ·rintro _ ⟨i,_,rfl⟩;rfl
  simp +contextual (disch:=omega) only[Tryd.f56,dd56,go_sem,simprocAttr,mu56,↓zAE,↓zAC,↓zAB,↓zAA]
  refine zAY (M:=(mskOf (pol1.mask 56) (pol1.gc 56) (pol1.acts 56) 0 2)) rfl l.length (fun i=>(⟨19,[(8,I i),(7,I l.length),(1,I x),(0,.sl false (l.map I))],[]⟩:St)) (fun i=>∀ k p,k < i→l[k]?=some p→p≠x) ?_ ?_ (fun k p h=>by omega) _ (by first|rfl|(simp[keepT,AV.underL,AV.under,MB.under,zAD,zAK,zAJ,zAF,zAG,zAH,zAI,-List.map_take,-List.map_replicate,-List.map_set];done))
  ·intro i hi hg
   obtain⟨p,hp⟩:∃ p,l[i]?=some p:=⟨_,List.getElem?_eq_getElem hi⟩
   by_cases hpx:p=x
   ·subst hpx
    simp +contextual (disch:=omega) only[Tryd.f56,dd56,go_sem,simprocAttr,mu56,↓zAE,↓zAC,↓zAB,↓zAA,hp]
    exact⟨_,⟨i,⟨fun _=>List.mem_of_getElem? hp,fun _=>by omega⟩,rfl⟩,_,rfl⟩
   ·simp +contextual (disch:=omega) only[Tryd.f56,dd56,go_sem,simprocAttr,mu56,↓zAE,↓zAC,↓zAB,↓zAA,hp]
    refine⟨fun k q hk hq=>?_,(by first|rfl|(simp[keepT,AV.underL,AV.under,MB.under,zAD,zAK,zAJ,zAF,zAG,zAH,zAI,-List.map_take,-List.map_replicate,-List.map_set];done))⟩
    rcases Nat.lt_or_ge k i with h|h
    ·exact hg k q h hq
    ·obtain rfl:k=i:=by omega
     rw[hp]at hq;obtain rfl:=Option.some.inj hq
     exact hpx
  ·intro hg
   have:¬ x∈l:=fun hm=>by
    obtain⟨i,hi,e⟩:=List.getElem_of_mem hm
    exact hg i x hi (by rw[← e];exact List.getElem?_eq_getElem hi) rfl
   simp +contextual (disch:=omega) only[Tryd.f56,dd56,go_sem,simprocAttr,mu56,↓zAE,↓zAC,↓zAB,↓zAA]
   exact⟨_,⟨-1,⟨fun h=>by omega,fun h=>absurd h this⟩,rfl⟩,_,rfl⟩
 obtain⟨_,⟨i,h1,rfl⟩,h2⟩:=h
 exact⟨i,h1,h2⟩
theorem zMM (l:List Int) (x:Int) (hl:l.length≤10000000) (H:List MB):call Tryd.prog pol1 39 [.sl false (l.map I),I x] H=some (.bool (decide (x∈l)),H):=by
 refine zAS Tryd.func39 rfl rfl rfl rfl rfl rfl (fun _=>rfl) (by simp[AV.plain,AV.plainL,zAF]) rfl ?_ H
 obtain⟨r,h1,h2⟩:=f134 l x hl
 simp +contextual (disch:=omega) only[Tryd.f39,dd39,go_sem,simprocAttr,mu39,↓zAE,↓zAC,↓zAB,↓zAA,h2]
 refine fzEq rfl (congrArg AV.bool ?_)
 rw[decide_eq_decide]
 exact h1
end
section
attribute [local go_sem] evAppend List.length_append List.map_append tySzE List.head?_drop Nat.mul_one zAN zAQ zAL zAO zAP zAU
open Go.Proofs Go.RowKit Go.IntWalk
set_option maxRecDepth 100000
set_option maxHeartbeats 8000000
def insSplit (md next other:Int):Ins:=if md=1 then⟨2,other,next,0,[]⟩ else⟨2,next,other,0,[]⟩
mutual
def codeG:Re→Nat→List Ins
 | .mk op set kids mn mx md n neg,f=>
   if op=1 then [⟨1,0,0,0,set⟩] else if op=11 then [⟨5,0,0,n,[]⟩] else if op=2 then codeCat kids f else if op=3 then codeAlt kids f
   else if op=5 then⟨4,0,0,2 * n - 2,[]⟩::(codeHd kids (f+1)++[⟨4,0,0,2 * n - 1,[]⟩])
   else if op=4 then
    let L:=lenL kids
    let copies:=(List.range mn.toNat).flatMap fun i=>codeHd kids (f+i * L)
    let p:=f+mn.toNat * L
    if mx = -1 then copies++(insSplit md ((p+1:Nat):Int) ((p+L+2:Nat):Int)::(codeHd kids (p+1)++[⟨3,(p:Int),0,0,[]⟩]))
    else copies++(List.range (mx.toNat - mn.toNat)).flatMap fun j=>insSplit md ((p+j * (L+1)+1:Nat):Int) ((f+mx.toNat * L+(mx.toNat - mn.toNat):Nat):Int)::codeHd kids (p+j * (L+1)+1)
   else []
def codeCat:List Re→Nat→List Ins
 | [],_=>[]
 | k::ks,f=>codeG k f++codeCat ks (f+lenG k)
def codeAlt:List Re→Nat→List Ins
 | [],_=>[]
 | k::ks,f=>if ks.length=0 then codeG k f else
    ⟨2,((f+1:Nat):Int),((f+lenG k+2:Nat):Int),0,[]⟩::(codeG k (f+1)++(⟨3,((f+lenL (k::ks)+2 * ks.length:Nat):Int),0,0,[]⟩::codeAlt ks (f+lenG k+2)))
def codeHd:List Re→Nat→List Ins
 | [],_=>[]
 | k::_,f=>codeG k f
end
mutual
def codable:Re→Bool
 | .mk op set kids mn mx md n neg=>(decide (op≤5) || op == 11) && codableL kids
def codableL:List Re→Bool
 | []=>true
 | k::ks=>codable k && codableL ks
end
theorem zEX:∀ l:List Re,codableL l=true↔∀ k∈l,codable k=true
 | []=>by simp[codableL]
 | k::ks=>by simp[codableL,zEX ks]
mutual
theorem zF3:∀(r:Re) (ins:List Int),compG ins r=true→codable r=true
 | .mk op set kids mn mx md n neg,ins,h=>by
   rw[compG]at h
   rw[codable,Bool.and_eq_true,Bool.or_eq_true,decide_eq_true_eq,beq_iff_eq]
   split at h
   ·cases h
   ·split at h
    ·split at h
     ·cases h
     ·exact⟨.inl (by omega),zDa kids _ h⟩
    ·split at h
     ·cases h
     ·exact⟨by omega,zDa kids _ h⟩
theorem zDa:∀(l:List Re) (ins:List Int),compL ins l=true→codableL l=true
 | [],_,_=>rfl
 | k::ks,ins,h=>by
   rw[compL,Bool.and_eq_true]at h
   rw[codableL,zF3 k ins h.1,zDa ks ins h.2];rfl
end
structure GoodC (caps top:Int) (r:Re):Prop where
 whole:wholeG caps top r=true
 cod:codable r=true
theorem GoodC.kids {caps top op:Int} {set:List (Int×Int)} {kids:List Re} {mn mx md n:Int} {neg:Bool} (h:GoodC caps top (.mk op set kids mn mx md n neg)):∀ k∈kids,GoodC caps top k:=by
 intro k hk
 have h2:=h.cod
 rw[codable,Bool.and_eq_true,zEX]at h2
 exact⟨(zAt h.whole).1 k hk,h2.2 k hk⟩
theorem GoodC.op {caps top op:Int} {set:List (Int×Int)} {kids:List Re} {mn mx md n:Int} {neg:Bool} (h:GoodC caps top (.mk op set kids mn mx md n neg)):op=0∨op=1∨op=2∨op=3∨op=4∨op=5∨op=11:=by
 have h2:=h.cod
 rw[codable,Bool.and_eq_true,Bool.or_eq_true,decide_eq_true_eq,beq_iff_eq]at h2
 have h3:=(zAt h.whole).2.2.2.2
 omega
theorem zC4 {α:Type} (g:Nat→List α) (L:Nat):∀ m,(∀ i,i < m→(g i).length=L)→((List.range m).flatMap g).length=m * L
 | 0,_=>by simp
 | m+1,h=>by
   rw[List.range_succ,List.flatMap_append,List.length_append,zC4 g L m (fun i hi=>h i (by omega))]
   simp only[List.flatMap_cons,List.flatMap_nil,List.append_nil,h m (by omega),Nat.succ_mul]
mutual
theorem zAm (caps top:Int):∀(r:Re) (f:Nat),GoodC caps top r→(codeG r f).length=lenG r
 | .mk op set kids mn mx md n neg,f,hw=>by
   have hop:=hw.op
   obtain⟨_,hkd,hrp,_,ho1,ho2⟩:=zAt hw.whole
   have hwk:=hw.kids
   have hcat:=zDZ caps top kids f hwk
   have halt:=zFT caps top kids f hwk
   have hhd:=fun f=>zJa caps top kids f hwk
   rw[codeG,lenG]
   by_cases h1:op=1
   ·rw[if_pos h1,if_pos (.inl h1)];rfl
   rw[if_neg h1]
   by_cases h11:op=11
   ·rw[if_pos h11,if_pos (.inr h11)];rfl
   rw[if_neg h11,if_neg (show ¬ (op=1∨op=11) by omega)]
   by_cases h2:op=2
   ·rw[if_pos h2,if_neg (show ¬ op=3 by omega),if_neg (show ¬ op=5 by omega),if_neg (show ¬ op=4 by omega)];exact hcat
   rw[if_neg h2]
   by_cases h3:op=3
   ·subst h3
    rw[if_pos rfl,if_pos rfl]
    have:2≤kids.length:=by simpa [kidsG] using hkd
    exact halt (by omega)
   rw[if_neg h3,if_neg h3]
   have hone:op=4∨op=5→kids.length=1:=fun e=>by rcases e with rfl|rfl<;>simpa [kidsG] using hkd
   by_cases h5:op=5
   ·rw[if_pos h5,if_pos h5]
    simp[hhd _ (hone (.inr h5))]
   rw[if_neg h5,if_neg h5]
   by_cases h4:op=4
   ·rw[if_pos h4,if_pos h4]
    have hh:=fun f=>hhd f (hone (.inl h4))
    have hr:=hrp h4
    simp only[repG,Bool.and_eq_true,Bool.or_eq_true,decide_eq_true_eq,beq_iff_eq]at hr
    by_cases hm:mx = -1
    ·simp only[if_pos hm,List.length_append,List.length_cons,List.length_nil]
     rw[zC4 _ (lenL kids) _ (fun i _=>hh _),hh,Nat.succ_mul]
     omega
    ·simp only[if_neg hm,List.length_append]
     rw[zC4 _ (lenL kids) _ (fun i _=>hh _),zC4 _ (lenL kids+1) _ (fun i _=>by simp[hh])]
     obtain⟨e,he⟩:∃ e,mx.toNat=mn.toNat+e:=⟨mx.toNat - mn.toNat,by omega⟩
     rw[he,Nat.add_sub_cancel_left,Nat.add_mul,Nat.mul_add]
     omega
   rw[if_neg h4,if_neg h4]
   have hk0:kids=[]:=by
    have:op=0:=by omega
    subst this
    exact List.length_eq_zero_iff.1 (by simpa [kidsG] using hkd)
   rw[hk0];rfl
theorem zDZ (caps top:Int):∀(l:List Re) (f:Nat),(∀ k∈l,GoodC caps top k)→(codeCat l f).length=lenL l
 | [],f,_=>rfl
 | k::ks,f,h=>by
   rw[codeCat,lenL,List.length_append,zAm caps top k f (h k (List.mem_cons_self ..)),zDZ caps top ks _ (fun k hk=>h k (List.mem_cons_of_mem _ hk))]
theorem zFT (caps top:Int):∀(l:List Re) (f:Nat),(∀ k∈l,GoodC caps top k)→1≤l.length→(codeAlt l f).length=lenL l+2 * (l.length - 1)
 | [],f,_,h=>by simp at h
 | k::ks,f,h,_=>by
   have hk:=fun f=>zAm caps top k f (h k (List.mem_cons_self ..))
   rw[codeAlt]
   split
   ·rename_i h0
    have:ks=[]:=List.length_eq_zero_iff.1 h0
    subst this
    simp[hk,lenL]
   ·rename_i h0
    have:=zFT caps top ks (f+lenG k+2) (fun k hk=>h k (List.mem_cons_of_mem _ hk)) (by omega)
    simp only[List.length_cons,List.length_append,hk,this,lenL]
    omega
theorem zJa (caps top:Int):∀(l:List Re) (f:Nat),(∀ k∈l,GoodC caps top k)→l.length=1→(codeHd l f).length=lenL l
 | [],f,_,h=>by simp at h
 | k::ks,f,h,hl=>by
   have:ks=[]:=List.length_eq_zero_iff.1 (by simpa using hl)
   subst this
   rw[codeHd,zAm caps top k f (h k (List.mem_cons_self ..))]
   simp[lenL]
end
end
section
attribute [local go_sem] evAppend List.length_append List.map_append tySzE List.head?_drop Nat.mul_one zAN zAQ zAL zAO zAP zAU
open Go.Proofs Go.RowKit Go.IntWalk
set_option maxRecDepth 100000
set_option maxHeartbeats 8000000
theorem zGR {j:List AV→List MB→Option (List AV×List MB)} (l:List Ins):KeepL j (l.map insAV) (l.map insAV):=KeepL.plain (zAH l)
theorem zLE {f id n:Nat} {els:List AV} {c:List Ins} {H:List MB} (hk:pol1.keep f=false) (ho:pol1.own f=true) (hr:getRow H id=some (5,els,0)) (hn:c.length=n) (hK:∀ j,KeepL j els (c.map insAV)) :
  retPol pol1 f [] (.ms id 5 n 0 n) H=some (.ms 0 5 n 0 n,[.row 5 (c.map insAV) 0]):=by
 have hl:=(hK (fun _ _=>none)).len
 rw[List.length_map]at hl
 exact zJC (els:=els) hk ho hr (by omega) ((hK _).fz H) hr (zAH c) (by simp[hn])
theorem zLF {f id n:Nat} {els xs:List AV} {c:List Ins} {H:List MB} (hk:pol1.keep f=false) (ho:pol1.own f=true) (hr:getRow H id=some (5,els,0)) (hn:c.length=n) (hx:xs=c.map insAV) (hK:∀ j,KeepL j els (c.map insAV)) :
 retPol pol1 f [] (.ms id 5 n 0 n) H=some (.ms 0 5 n 0 n,[.row 5 xs 0]):=hx ▸ zLE hk ho hr hn hK
def copiesG (k:Re) (f i:Nat):List Ins:=(List.range i).flatMap fun i=>codeG k (f+i * lenG k)
theorem zIK (k:Re) (f i:Nat):copiesG k f (i+1)=copiesG k f i++codeG k (f+i * lenG k):=by
 simp[copiesG,List.range_succ,List.flatMap_append]
theorem zJY {caps top:Int} {k:Re} (h:GoodC caps top k) (f i:Nat):(copiesG k f i).length=i * lenG k:=zC4 _ _ _ (fun i _=>zAm caps top k _ h)
def optsG (md:Int) (k:Re) (p e i:Nat):List Ins:=(List.range i).flatMap fun j=>insSplit md ((p+j * (lenG k+1)+1:Nat):Int) (e:Nat)::codeG k (p+j * (lenG k+1)+1)
def restG (md:Int) (k:Re) (f m e i:Nat):List Ins:=copiesG k f m++optsG md k (f+m * lenG k) e i
end
section
attribute [local go_sem] evAppend List.length_append List.map_append tySzE List.head?_drop Nat.mul_one zAN zAQ zAL zAO zAP zAU
open Go.Proofs Go.RowKit Go.IntWalk
set_option maxRecDepth 100000
set_option maxHeartbeats 8000000
theorem zDO:∀(a b:List Re) (f:Nat),codeCat (a++b) f=codeCat a f++codeCat b (f+lenL a)
 | [],b,f=>by simp[codeCat,lenL]
 | k::ks,b,f=>by simp[codeCat,lenL,zDO ks b,Nat.add_assoc]
theorem zHl {l:List Re} {i:Nat} {k:Re} (h:l[i]?=some k) (f:Nat):codeCat (l.take (i+1)) f=codeCat (l.take i) f++codeG k (f+lenL (l.take i)):=by
 rw[List.take_add_one,h,zDO];simp[codeCat]
theorem zES:∀(l:List Re) (i:Nat),lenL (l.take i)≤lenL l:=fun l i=>by
 have:=zDT (l.take i) (l.drop i)
 rw[List.take_append_drop]at this
 omega
end
section
attribute [local go_sem] evAppend List.length_append List.map_append tySzE List.head?_drop Nat.mul_one zAN zAQ zAL zAO zAP zAU
open Go.Proofs Go.RowKit Go.IntWalk
set_option maxRecDepth 100000
set_option maxHeartbeats 8000000
theorem f103 (b0 b3:MB) (pc tc:List AV) (hp:AV.plainL pc=true) (htc:AV.plainL tc=true) (caps top:Int) (ht:top≤1114111) (hpc:pc[8]?=some (I caps)) (htc2:tc=[I top]):∀(N:Nat) (r:Re),r.wt≤N→r.wt≤1000000 →
  ∀(d s:Nat) (g:Bool),s≤256→d≤1000000 →
  ∃(ok g':Bool) (s':Nat),call Tryd.prog pol1 36 [.pt (reC r),I d,.rf 1 1 0 0,.rf 2 1 0 0,.pt pc,.pt tc,.rf 4 1 0 0]
    [b0,.row 1 [I s] 0,.row 1 [.bool g] 0,b3,.row 1 [.clo 36 [.rf 1 1 0 0,.rf 2 1 0 0,.pt pc,.pt tc,.rf 4 1 0 0]] 0] =
   some (.bool ok,[b0,.row 1 [I s'] 0,.row 1 [.bool g'] 0,b3,.row 1 [.clo 36 [.rf 1 1 0 0,.rf 2 1 0 0,.pt pc,.pt tc,.rf 4 1 0 0]] 0]) ∧
   ok=decide (s+r.size≤256∧d+r.depth≤25)∧(ok=true→s' = s+r.size∧g' = (g && wholeG caps top r))
 | 0,r,h,_,_,_,_,_,_=>by have:=r.wt_pos;omega
 | N+1,.mk op set kids mn mx md n neg,h,hN,d,s,g,hs,hd=>by
   have hkl:=Re.wtL_len kids
   have hwt:1+set.length+Re.wtL kids=(Re.mk op set kids mn mx md n neg).wt:=by simp[Re.wt]
   have ih:=fun k (hk:k∈kids)=>f103 b0 b3 pc tc hp htc caps top ht hpc htc2 N k (by have:=Re.wtL_mem hk;omega) (by have:=Re.wtL_mem hk;omega)
   have f104':=zMO caps top ht op set kids mn mx md n neg (by omega) (by omega)
   rw[show (.pt (reC (.mk op set kids mn mx md n neg)):AV)=.pt (nodeL op set kids mn mx md n neg) from congrArg AV.pt zFn]
   have hsz:(Re.mk op set kids mn mx md n neg).size=1+Re.sizeL kids:=by simp[Re.size]
   have hdz:(Re.mk op set kids mn mx md n neg).depth=1+Re.depthL kids:=by simp[Re.depth]
   have hwh:wholeG caps top (.mk op set kids mn mx md n neg)=(formedG caps top (.mk op set kids mn mx md n neg) && wholeL caps top kids):=by rw[wholeG]
   have fr:∀(s:Int) (g:Bool),frzArgs pol1 36 0 [.pt (nodeL op set kids mn mx md n neg),I d,.rf 1 1 0 0,.rf 2 1 0 0,.pt pc,.pt tc,.rf 4 1 0 0]
     [b0,.row 1 [I s] 0,.row 1 [.bool g] 0,b3,.row 1 [.clo 36 [.rf 1 1 0 0,.rf 2 1 0 0,.pt pc,.pt tc,.rf 4 1 0 0]] 0] =
     some ([.pt (nodeL op set kids mn mx md n neg),I d,.rf 1 1 0 0,.rf 2 1 0 0,.pt pc,.pt tc,.rf 4 1 0 0],[b0,.row 1 [I s] 0,.row 1 [.bool g] 0,b3,.row 1 [.clo 36 [.rf 1 1 0 0,.rf 2 1 0 0,.pt pc,.pt tc,.rf 4 1 0 0]] 0]):=fun s g=>
    zAa _ _ _ (by simp[mixOk,show pol1.byref 36 2=true from rfl,show pol1.byref 36 3=true from rfl,show pol1.byref 36 4=true from rfl,show pol1.byref 36 5=true from rfl,show pol1.byref 36 6=true from rfl,AV.plain,AV.plainL,zAG,zAp])
   have rt:∀(x:Bool) (s s':Int) (g g':Bool),retPol pol1 36 [b0,.row 1 [I s] 0,.row 1 [.bool g] 0,b3,.row 1 [.clo 36 [.rf 1 1 0 0,.rf 2 1 0 0,.pt pc,.pt tc,.rf 4 1 0 0]] 0] (.bool x) [b0,.row 1 [I s'] 0,.row 1 [.bool g'] 0,b3,.row 1 [.clo 36 [.rf 1 1 0 0,.rf 2 1 0 0,.pt pc,.pt tc,.rf 4 1 0 0]] 0] =
     some (.bool x,[b0,.row 1 [I s'] 0,.row 1 [.bool g'] 0,b3,.row 1 [.clo 36 [.rf 1 1 0 0,.rf 2 1 0 0,.pt pc,.pt tc,.rf 4 1 0 0]] 0]):=fun x s s' g g'=>
    zAf rfl rfl rfl (by simp[keptOk,MB.beq_refl,MB.under,AV.underL,AV.under]) rfl
   have hs1:((s:Int)+1)=((s+1:Nat):Int):=rfl
   subst htc2
   by_cases hc:256 < s+1∨24 < d
   ·refine⟨false,g,s+1,?_,?_,fun h=>by cases h⟩
    ·refine zAg (pol:=pol1) Tryd.func36 rfl rfl rfl rfl (fr s g) ?_
     have hc':256 < s+1∨(¬ 256 < s+1∧24 < d):=by omega
     rcases hc' with h1|⟨h1,h2⟩
     all_goals (
      simp +contextual (disch:=omega) only[Tryd.f36,dd36,go_sem,simprocAttr,mu36,↓zAE,↓zAC,↓zAB,↓zAA,hs1,rt]
      repeat' (first|intro _|apply And.intro|(unfold dOk;kernel_rfl)|exact St.beq_refl _|(show altO _ _ _ _=true;kernel_rfl)|(show (_ || _)=true;kernel_rfl)|(show (_ && _)=true;kernel_rfl)))
    ·rw[hsz,hdz]
     symm;rw[decide_eq_false_iff_not]
     omega
   ·have key:∃ r:AV×List MB,(∃(ok g':Bool) (s':Nat),r=(.bool ok,[b0,.row 1 [I s'] 0,.row 1 [.bool g'] 0,b3,.row 1 [.clo 36 [.rf 1 1 0 0,.rf 2 1 0 0,.pt pc,.pt [I top],.rf 4 1 0 0]] 0]) ∧
      ok=decide (s+(Re.mk op set kids mn mx md n neg).size≤256∧d+(Re.mk op set kids mn mx md n neg).depth≤25)∧(ok=true→s' = s+(Re.mk op set kids mn mx md n neg).size∧g' = (g && wholeG caps top (.mk op set kids mn mx md n neg)))) ∧
      call Tryd.prog pol1 36 [.pt (nodeL op set kids mn mx md n neg),I d,.rf 1 1 0 0,.rf 2 1 0 0,.pt pc,.pt [I top],.rf 4 1 0 0]
       [b0,.row 1 [I s] 0,.row 1 [.bool g] 0,b3,.row 1 [.clo 36 [.rf 1 1 0 0,.rf 2 1 0 0,.pt pc,.pt [I top],.rf 4 1 0 0]] 0]=some r:=by
     rw[hsz,hdz,hwh]
     refine zJc (pol:=pol1) Tryd.func36 rfl rfl rfl rfl (fr s g) ?_
     generalize formedG caps top (.mk op set kids mn mx md n neg)=fg at *
     clear hwh hsz hdz
     have hd0:d≤24:=by omega
     have hs0:s+1≤256:=by omega
     cases g
     ·simp +contextual (disch:=omega) only[Tryd.f36,dd36,go_sem,simprocAttr,mu36,↓zAE,↓zAC,↓zAB,↓zAA,hs1]
      refine zAY (M:=(mskOf (pol1.mask 36) (pol1.gc 36) (pol1.acts 36) 0 6)) rfl kids.length (fun i=>(⟨47,[(32,I i),(31,I kids.length),(6,.rf 4 1 0 0),(1,I d),(0,.pt (nodeL op set kids mn mx md n neg))],[b0,.row 1 [I ((s+1+Re.sizeL (kids.take i):Nat):Int)] 0,.row 1 [.bool (false && wholeL caps top (kids.take i))] 0,b3,.row 1 [.clo 36 [.rf 1 1 0 0,.rf 2 1 0 0,.pt pc,.pt [I top],.rf 4 1 0 0]] 0]⟩:St))
       (fun i=>s+1+Re.sizeL (kids.take i)≤256∧d+1+Re.depthL (kids.take i)≤25) ?_ ?_ ⟨by simp[Re.sizeL];omega,by simp[Re.depthL];omega⟩ _ ?_
      ·rintro i hi ⟨hb1,hb2⟩
       obtain⟨k,hk⟩:∃ k,kids[i]?=some k:=⟨_,List.getElem?_eq_getElem hi⟩
       obtain⟨ok,g2,s2,hcall,hok,himp⟩:=ih k (List.mem_of_getElem? hk) (d+1) (s+1+Re.sizeL (kids.take i)) (false && wholeL caps top (kids.take i)) (by omega) (by omega)
       have e1:=Re.sizeL_take hk
       have e2:=Re.depthL_take hk
       have e3:=zEv (caps:=caps) (top:=top) hk
       have e4:=Re.sizeL_le (l:=kids) (i:=i+1)
       have e5:=Re.depthL_le (l:=kids) (i:=i+1)
       have hl8:=zA1 k
       have ht8:=zBS k
       have hd1:((d:Int)+1)=((d+1:Nat):Int):=rfl
       cases ok with
       | false=>
         have hcf:=of_decide_eq_false hok.symm
         simp +contextual (disch:=omega) only[Tryd.f36,dd36,go_sem,simprocAttr,mu36,↓zAE,↓zAC,↓zAB,↓zAA,hk,hl8,ht8,hd1,hcall]
         repeat' (first|intro _|apply And.intro|(unfold dOk;kernel_rfl)|exact St.beq_refl _|(show altO _ _ _ _=true;kernel_rfl)|(show (_ || _)=true;kernel_rfl)|(show (_ && _)=true;kernel_rfl))
         refine⟨_,⟨false,g2,s2,rfl,?_,fun h=>by cases h⟩,rt false _ _ _ _⟩
         symm;rw[decide_eq_false_iff_not];omega
       | true=>
         have hct:=of_decide_eq_true hok.symm
         obtain⟨rfl,rfl⟩:=himp rfl
         rw[e1,e2,e3,← Bool.and_assoc]
         simp +contextual (disch:=omega) only[Tryd.f36,dd36,go_sem,simprocAttr,mu36,↓zAE,↓zAC,↓zAB,↓zAA,hk,hl8,ht8,hd1,hcall]
         repeat' (first|intro _|apply And.intro|(unfold dOk;kernel_rfl)|exact St.beq_refl _|(show altO _ _ _ _=true;kernel_rfl)|(show (_ || _)=true;kernel_rfl)|(show (_ && _)=true;kernel_rfl))
         rw[Nat.add_assoc (s+1)]
         rfl
      ·rintro⟨hb1,hb2⟩
       rw[List.take_length]at hb1 hb2 ⊢
       simp +contextual (disch:=omega) only[Tryd.f36,dd36,go_sem,simprocAttr,mu36,↓zAE,↓zAC,↓zAB,↓zAA]
       refine⟨_,⟨true,(false && wholeL caps top kids),s+1+Re.sizeL kids,rfl,?_,fun _=>⟨by omega,by simp⟩⟩,rt true _ _ _ _⟩
       rfl
      ·rfl
     ·simp +contextual (disch:=omega) only[Tryd.f36,dd36,go_sem,simprocAttr,mu36,↓zAE,↓zAC,↓zAB,↓zAA,hs1,f104',hpc]
      refine zAY (M:=(mskOf (pol1.mask 36) (pol1.gc 36) (pol1.acts 36) 0 6)) rfl kids.length (fun i=>(⟨47,[(32,I i),(31,I kids.length),(6,.rf 4 1 0 0),(1,I d),(0,.pt (nodeL op set kids mn mx md n neg))],[b0,.row 1 [I ((s+1+Re.sizeL (kids.take i):Nat):Int)] 0,.row 1 [.bool (fg && wholeL caps top (kids.take i))] 0,b3,.row 1 [.clo 36 [.rf 1 1 0 0,.rf 2 1 0 0,.pt pc,.pt [I top],.rf 4 1 0 0]] 0]⟩:St))
       (fun i=>s+1+Re.sizeL (kids.take i)≤256∧d+1+Re.depthL (kids.take i)≤25) ?_ ?_ ⟨by simp[Re.sizeL];omega,by simp[Re.depthL];omega⟩ _ ?_
      ·rintro i hi ⟨hb1,hb2⟩
       obtain⟨k,hk⟩:∃ k,kids[i]?=some k:=⟨_,List.getElem?_eq_getElem hi⟩
       obtain⟨ok,g2,s2,hcall,hok,himp⟩:=ih k (List.mem_of_getElem? hk) (d+1) (s+1+Re.sizeL (kids.take i)) (fg && wholeL caps top (kids.take i)) (by omega) (by omega)
       have e1:=Re.sizeL_take hk
       have e2:=Re.depthL_take hk
       have e3:=zEv (caps:=caps) (top:=top) hk
       have e4:=Re.sizeL_le (l:=kids) (i:=i+1)
       have e5:=Re.depthL_le (l:=kids) (i:=i+1)
       have hl8:=zA1 k
       have ht8:=zBS k
       have hd1:((d:Int)+1)=((d+1:Nat):Int):=rfl
       cases ok with
       | false=>
         have hcf:=of_decide_eq_false hok.symm
         simp +contextual (disch:=omega) only[Tryd.f36,dd36,go_sem,simprocAttr,mu36,↓zAE,↓zAC,↓zAB,↓zAA,hk,hl8,ht8,hd1,hcall]
         repeat' (first|intro _|apply And.intro|(unfold dOk;kernel_rfl)|exact St.beq_refl _|(show altO _ _ _ _=true;kernel_rfl)|(show (_ || _)=true;kernel_rfl)|(show (_ && _)=true;kernel_rfl))
         refine⟨_,⟨false,g2,s2,rfl,?_,fun h=>by cases h⟩,rt false _ _ _ _⟩
         symm;rw[decide_eq_false_iff_not];omega
       | true=>
         have hct:=of_decide_eq_true hok.symm
         obtain⟨rfl,rfl⟩:=himp rfl
         rw[e1,e2,e3,← Bool.and_assoc]
         simp +contextual (disch:=omega) only[Tryd.f36,dd36,go_sem,simprocAttr,mu36,↓zAE,↓zAC,↓zAB,↓zAA,hk,hl8,ht8,hd1,hcall]
         repeat' (first|intro _|apply And.intro|(unfold dOk;kernel_rfl)|exact St.beq_refl _|(show altO _ _ _ _=true;kernel_rfl)|(show (_ || _)=true;kernel_rfl)|(show (_ && _)=true;kernel_rfl))
         rw[Nat.add_assoc (s+1)]
         rfl
      ·rintro⟨hb1,hb2⟩
       rw[List.take_length]at hb1 hb2 ⊢
       simp +contextual (disch:=omega) only[Tryd.f36,dd36,go_sem,simprocAttr,mu36,↓zAE,↓zAC,↓zAB,↓zAA]
       refine⟨_,⟨true,(fg && wholeL caps top kids),s+1+Re.sizeL kids,rfl,?_,fun _=>⟨by omega,by simp⟩⟩,rt true _ _ _ _⟩
       rfl
      ·rw[show (fg && wholeL caps top (List.take 0 kids))=fg by simp[wholeL]]
       rfl
    obtain⟨r,⟨ok,g',s',rfl,h1,h2⟩,h3⟩:=key
    exact⟨ok,g',s',h3,h1,h2⟩
structure Pat where
 re:Re
 caps:Int
 runes:Bool
abbrev patC (p:Pat):List AV:=reC p.re++[I p.caps,.bool p.runes]
abbrev patAV (p:Pat):AV:=.agg (patC p)
theorem zCV (p:Pat):AV.plainL (patC p)=true:=by
 rw[zFp]
 intro x hx
 rcases List.mem_append.1 hx with h|h
 ·exact(zFp _).1 (zA8 p.re) x h
 ·simp at h;rcases h with rfl|rfl<;>rfl
def topI (r:Bool):Int:=if r then 1114111 else 255
theorem zK2 (r:Bool):topI r≤1114111:=by cases r<;>simp[topI]
def validP (p:Pat):Int:=if 256 < p.re.size∨24 < p.re.depth then 4 else if p.caps < 0∨9 < p.caps∨wholeG p.caps (topI p.runes) p.re=false then 1 else 0
theorem f48 (p:Pat) (hw:p.re.wt≤1000000) (H:List MB):call Tryd.prog pol1 20 [patAV p] H=some (I (validP p),H):=by
 obtain⟨re,caps,runes⟩:=p
 simp only at hw
 refine zAS Tryd.func20 rfl rfl rfl rfl rfl rfl (fun _=>rfl) (by simp[AV.plainL,AV.plain];exact zCV _) rfl ?_ H
 have hl8:=zA1 re
 have hpl:=zCV ⟨re,caps,runes⟩
 have hget8:(reC re++[I caps,.bool runes])[8]?=some (I caps):=by rw[List.getElem?_append_right (by omega),hl8];rfl
 have hget9:(reC re++[I caps,.bool runes])[9]?=some (.bool runes):=by rw[List.getElem?_append_right (by omega),hl8];rfl
 have hz:fz (.rf 0 1 0 0) [.row 10 [.agg (reC re++[I caps,.bool runes])] 0]=some (.pt (reC re++[I caps,.bool runes]),[.row 10 [.agg (reC re++[I caps,.bool runes])] 1]):=
  zKk (x:=.agg (reC re++[I caps,.bool runes])) (k:=10) (z:=0) rfl rfl rfl hpl
 have hlen:(reC re).length+(0+1+1)=10:=by omega
 have h102:=f102 runes
 have hall:=zJ2 re
 have hz2:∀(b0 b1 b2:MB) (t:Int),fz (.rf 3 1 0 0) [b0,b1,b2,.row 1 [I t] 0]=some (.pt [I t],[b0,b1,b2,.row 1 [I t] 1]):=fun b0 b1 b2 t=>zKk (x:=I t) (k:=1) (z:=0) rfl rfl rfl rfl
 have htk8:∀ l,List.take 8 (reC re++l)=reC re:=fun l=>by
  rw[List.take_append_of_le_length (by omega)];exact List.take_of_length_le (by omega)
 rw[show (if runes=true then(1114111:Int) else 255)=topI runes from rfl]at h102
 have ht:=zK2 runes
 have h103:=fun(b0 b3:MB) (g:Bool)=>f103 b0 b3 (reC re++[I caps,.bool runes]) [I (topI runes)] hpl rfl caps (topI runes) ht hget8 rfl re.wt re (Nat.le_refl _) hw 1 0 g (by omega) (by omega)
 unfold validP
 simp only
 have hcp:(0≤caps∧caps≤9)∨(0≤caps∧¬ caps≤9)∨¬ 0≤caps:=by omega
 generalize topI runes=top at *
 rcases hcp with ⟨hc1,hc2⟩|⟨hc1,hc2⟩|hc1
 ·obtain⟨ok,g',s',hcall,hok,himp⟩:=h103 (.row 10 [.agg (reC re++[I caps,.bool runes])] 1) (.row 1 [I top] 1) true
  rw[show ((1:Nat):Int)=1 from rfl,show ((0:Nat):Int)=0 from rfl]at hcall
  cases ok with
  | false=>
    have hcf:=of_decide_eq_false hok.symm
    rw[if_pos (by omega)]
    simp +contextual (disch:=omega) only[Tryd.f20,dd20,go_sem,simprocAttr,mu20,↓zAE,↓zAC,↓zAB,↓zAA,hl8,hget8,hget9,hz,hz2,h102,hall,htk8,hcall,List.all_append,lookD,look]
    exact fzEq rfl rfl
  | true=>
    have hct:=of_decide_eq_true hok.symm
    obtain⟨_,hg'⟩:=himp rfl
    rw[if_neg (by omega)]
    cases hwg:wholeG caps top re with
    | true=>
      rw[if_neg (by simp;omega)]
      rw[hwg]at hg'
      simp only[Bool.and_true]at hg'
      subst hg'
      simp +contextual (disch:=omega) only[Tryd.f20,dd20,go_sem,simprocAttr,mu20,↓zAE,↓zAC,↓zAB,↓zAA,hl8,hget8,hget9,hz,hz2,h102,hall,htk8,hcall,List.all_append,lookD,look]
      exact fzEq rfl rfl
    | false=>
      rw[if_pos (by simp)]
      rw[hwg]at hg'
      simp only[Bool.and_false]at hg'
      subst hg'
      simp +contextual (disch:=omega) only[Tryd.f20,dd20,go_sem,simprocAttr,mu20,↓zAE,↓zAC,↓zAB,↓zAA,hl8,hget8,hget9,hz,hz2,h102,hall,htk8,hcall,List.all_append,lookD,look]
      exact fzEq rfl rfl
 ·obtain⟨ok,g',s',hcall,hok,himp⟩:=h103 (.row 10 [.agg (reC re++[I caps,.bool runes])] 1) (.row 1 [I top] 1) false
  rw[show ((1:Nat):Int)=1 from rfl,show ((0:Nat):Int)=0 from rfl]at hcall
  cases ok with
  | false=>
    have hcf:=of_decide_eq_false hok.symm
    rw[if_pos (by omega)]
    simp +contextual (disch:=omega) only[Tryd.f20,dd20,go_sem,simprocAttr,mu20,↓zAE,↓zAC,↓zAB,↓zAA,hl8,hget8,hget9,hz,hz2,h102,hall,htk8,hcall,List.all_append,lookD,look]
    exact fzEq rfl rfl
  | true=>
    have hct:=of_decide_eq_true hok.symm
    obtain⟨_,hg'⟩:=himp rfl
    rw[if_neg (by omega)]
    rw[if_pos (by omega)]
    simp only[Bool.false_and]at hg'
    subst hg'
    simp +contextual (disch:=omega) only[Tryd.f20,dd20,go_sem,simprocAttr,mu20,↓zAE,↓zAC,↓zAB,↓zAA,hl8,hget8,hget9,hz,hz2,h102,hall,htk8,hcall,List.all_append,lookD,look]
    exact fzEq rfl rfl
 ·obtain⟨ok,g',s',hcall,hok,himp⟩:=h103 (.row 10 [.agg (reC re++[I caps,.bool runes])] 1) (.row 1 [I top] 1) false
  rw[show ((1:Nat):Int)=1 from rfl,show ((0:Nat):Int)=0 from rfl]at hcall
  cases ok with
  | false=>
    have hcf:=of_decide_eq_false hok.symm
    rw[if_pos (by omega)]
    simp +contextual (disch:=omega) only[Tryd.f20,dd20,go_sem,simprocAttr,mu20,↓zAE,↓zAC,↓zAB,↓zAA,hl8,hget8,hget9,hz,hz2,h102,hall,htk8,hcall,List.all_append,lookD,look]
    exact fzEq rfl rfl
  | true=>
    have hct:=of_decide_eq_true hok.symm
    obtain⟨_,hg'⟩:=himp rfl
    rw[if_neg (by omega)]
    rw[if_pos (by omega)]
    simp only[Bool.false_and]at hg'
    subst hg'
    simp +contextual (disch:=omega) only[Tryd.f20,dd20,go_sem,simprocAttr,mu20,↓zAE,↓zAC,↓zAB,↓zAA,hl8,hget8,hget9,hz,hz2,h102,hall,htk8,hcall,List.all_append,lookD,look]
    exact fzEq rfl rfl
end
section
attribute [local go_sem] evAppend List.length_append List.map_append tySzE List.head?_drop Nat.mul_one zAN zAQ zAL zAO zAP zAU
open Go.Proofs Go.RowKit Go.IntWalk
set_option maxRecDepth 100000
set_option maxHeartbeats 8000000
def compP (p:Pat):Prg×Int:=
 if validP p=0 then
  if compG [] p.re=true then
   if lenG p.re+1≤8192 then(⟨codeG p.re 0++[⟨0,0,0,0,[]⟩],p.caps,p.runes⟩,0) else(⟨[],0,false⟩,4)
  else(⟨[],0,false⟩,10)
 else(⟨[],0,false⟩,validP p)
theorem zHx {p:Pat} (h:validP p=0):p.re.size≤256∧p.re.depth≤24∧0≤p.caps∧p.caps≤9∧wholeG p.caps (topI p.runes) p.re=true:=by
 unfold validP at h
 split at h
 ·cases h
 ·split at h
  ·cases h
  ·rename_i h1 h2
   cases hw:wholeG p.caps (topI p.runes) p.re with
   | true=>exact⟨by omega,by omega,by omega,by omega,rfl⟩
   | false=>exact absurd (.inr (.inr hw)) h2
theorem zLM {H:List MB} {id n:Nat} {els:List AV} {c:List Ins} (caps:Int) (runes:Bool) (hl:els.length=n) (hk:∀ j H,fzL j els H=some (c.map insAV,H)) (hr:getRow H id=some (5,els,0)) :
  ∃ H',fz (.tup [.agg [.ms id 5 n 0 n,I caps,.bool runes],I 0]) H=some (.tup [prgAV ⟨c,caps,runes⟩,I 0],H'):=by
 have h2:fzA (fzJ 6) (.ms id 5 n 0 n) H=some (.sl false (c.map insAV),mark H id n):=by
  have:=zIs (n:=5) (off:=0) (len:=n) (ys:=c.map insAV) (H':=mark H id (0+n)) hr hl (by omega) (by rw[List.drop_zero,List.take_of_length_le (by omega)];exact hk _ _)
  rwa [Nat.zero_add]at this
 refine⟨mark H id n,?_⟩
 simp only[fz,zEC,zID,fzL,h2,zFF]
 rfl
end
section
attribute [local go_sem] List.length_append tySzE List.head?_drop Nat.mul_one zAN zAQ zAL zAO zAP zAU
open Go.Proofs Go.RowKit Go.IntWalk
set_option maxRecDepth 100000
set_option maxHeartbeats 8000000
theorem zIz {H:List MB} {i n z:Nat} {els:List AV} {y:AV} {t:Bool} (hi:getRow H i=some (5,els,z)) (hn:els.length=n) (hy:(decide (y.cells.length=5) && y.cells.all AV.ok)=true) (hz:z≤n) (hr:n+1≤4000000000) :
  evAppend Tryd.prog H 36 36 (.ms i 5 n 0 n) (.sl t [y])=some (.ms i 5 (n+1) 0 (n+1),H.set i (.row 5 (els++[y]) z)):=by
 have hs:srcElems Tryd.prog H 71 (.sl t [y])=some [y]:=rfl
 rw[zAs (e:=71) (by kernel_rfl) (by kernel_rfl) (k:=5) (by kernel_rfl) (by_:=56) (by kernel_rfl) (ze:=.agg [I 0,I 0,I 0,I 0,.sl true []]) (by kernel_rfl) rfl (by omega) hs (by simp only[List.all_cons,List.all_nil,hy,Bool.and_true]) hi hn hz (zAU hr (by omega))]
 rfl
theorem zFA:∀(n:Nat) (l m:List MB),keptOk n l (l++m)=true
 | _,[],_=>rfl
 | n,x::xs,m=>by simp[keptOk,MB.beq_refl,zFA n xs m]
theorem zA5 {α:Type} (K:List α) (b:α):(K++[b])[K.length]?=some b:=by simp
theorem zB5 {α:Type} (K:List α) (b c:α):(K++[b]).set K.length c=K++[c]:=by simp
abbrev codeH (C:List Ins) (n:Nat) (R:List MB):List MB:=.row 1 [.ms 1 5 n 0 n] 0::.row 5 (C.map insAV) 0::R
theorem zE8 {C C':List Ins} {n n' m:Nat} {R S:List MB} (hm:2≤m):keptOk m (codeH C n R) (codeH C' n' (R++S))=true:=by
 simp[keptOk,zFA,MB.under,AV.underL,AV.under,zAD _ _ (zAH C')]
 omega
theorem zFb (a b c d:Int) (t:Bool) (s:List (Int×Int)) (C:List Ins) (n:Nat) (R:List MB) (hn:C.length=n) (hb:n≤1000000) :
  call Tryd.prog pol1 40 [.agg [I a,I b,I c,I d,.sl t (s.map spanAV)],.rf 0 1 0 0] (codeH C n R)=some (I n,codeH (C++[⟨a,b,c,d,s⟩]) (n+1) R):=by
 have fr:frzArgs pol1 40 0 [.agg [I a,I b,I c,I d,.sl t (s.map spanAV)],.rf 0 1 0 0] (codeH C n R)=some ([.agg [I a,I b,I c,I d,.sl false (s.map spanAV)],.rf 0 1 0 0],codeH C n R):=by
  have h0:pol1.byref 40 0=false:=rfl
  have h1:pol1.byref 40 1=true:=rfl
  have h2:∀ H,fzL (fzJ 6) (s.map spanAV) H=some (s.map spanAV,H):=fun H=>zA2 _ _ H (zAG s)
  simp only[frzArgs,h0,h1,Bool.false_eq_true,if_false,if_true,fz,fzA,fzL,h2]
 refine zAg (pol:=pol1) Tryd.func40 rfl rfl rfl rfl fr ?_
 have hap:=fun X=>zIz (H:=codeH C n (R++[X])) (i:=1) (n:=n) (t:=true) (y:=insAV ⟨a,b,c,d,s⟩) rfl (by rw[List.length_map];exact hn) rfl (Nat.zero_le _) (by omega)
 have hmp:C.map insAV++[insAV ⟨a,b,c,d,s⟩]=(C++[(⟨a,b,c,d,s⟩:Ins)]).map insAV:=by simp
 simp +contextual (disch:=omega) only[Tryd.f40,dd40,go_sem,simprocAttr,mu40,↓zAE,↓zAC,↓zAB,↓zAA,hap,zA5,zB5,hmp]
 refine zAf rfl rfl rfl (zE8 (by simp)) (by simp)
end
section
attribute [local go_sem] evAppend List.length_append tySzE List.head?_drop Nat.mul_one zAN zAQ zAL zAO zAP zAU
open Go.Proofs Go.RowKit Go.IntWalk
set_option maxRecDepth 100000
set_option maxHeartbeats 8000000
theorem zLn (x y md:Int) (H:List MB):call Tryd.prog pol1 42 [I x,I y,I md] H=some (insAV (insSplit md x y),H):=by
 refine zAS Tryd.func42 rfl rfl rfl rfl rfl rfl (fun _=>rfl) rfl (by simp[AV.plain,AV.plainL,zAG]) ?_ H
 by_cases h:md=1
 ·subst h
  simp +contextual (disch:=omega) only[Tryd.f42,dd42,go_sem,simprocAttr,List.map_append,mu42,↓zAE,↓zAC,↓zAB,↓zAA]
  exact⟨_,rfl⟩
 ·rw[insSplit,if_neg h]
  simp +contextual (disch:=omega) only[Tryd.f42,dd42,go_sem,simprocAttr,List.map_append,mu42,↓zAE,↓zAC,↓zAB,↓zAA]
  exact⟨_,rfl⟩
theorem zLr (l:List (Int×Int)) (hl:l.length≤1000000):(((l.map spanAV).all fun y=>decide (y.cells.length=2) && y.cells.all AV.ok)=true∧roomFor (l.map spanAV).length 16=true∧AV.plainL (l.map spanAV)=true):=by
 refine⟨?_,zAU (by rw[List.length_map];omega) (by omega),zAG l⟩
 rw[List.all_eq_true]
 intro x hx
 obtain⟨i,_,rfl⟩:=List.mem_map.1 hx
 rfl
theorem f92 (l:List (Int×Int)) (hl:l.length≤1000000) (b:MB) (H:List MB):call Tryd.prog pol1 27 [.sl false (l.map spanAV)] (b::H)=some (.sl false (l.map spanAV),b::H):=by
 rw[zAw]
 unfold evStep
 have hx:cloneExt 2 16 [.sl false (l.map spanAV)] (b::H)=some (.sl false (l.map spanAV),b::H):=by
  simp only[cloneExt,elemsOf]
  rw[if_pos (zLr l hl)]
 rw[if_neg (show ¬ pol1.pure 27=true by decide)]
 exact hx
abbrev cS (K:List MB) (C:List Ins) (n:Nat):List MB:=codeH C n (.row 1 [.clo 40 [.rf 0 1 0 0]] 0::.row 1 [.clo 44 [.rf 2 1 0 0,.rf 3 1 0 0,.rf 5 1 0 0,.rf 4 1 0 0]] 0::.row 1 [.clo 41 [.rf 3 1 0 0,.rf 2 1 0 0,.rf 0 1 0 0]] 0::.row 1 [.clo 43 [.rf 2 1 0 0,.rf 3 1 0 0,.rf 0 1 0 0]] 0::K)
def Does111 (r:Re):Prop:=∀(K:List MB) (C:List Ins) (n:Nat),C.length=n→n+lenG r≤100000→lenG r≤8192 →
 call Tryd.prog pol1 44 [.pt (reC r),.rf 2 1 0 0,.rf 3 1 0 0,.rf 5 1 0 0,.rf 4 1 0 0] (cS K C n)=some (.tup [],cS K (C++codeG r n) (n+lenG r))
def Does108 (r:Re):Prop:=∀(K:List MB) (C:List Ins) (n:Nat),C.length=n→n+lenG r≤100000→lenG r≤8192 →
 call Tryd.prog pol1 41 [.pt (reC r),.rf 3 1 0 0,.rf 2 1 0 0,.rf 0 1 0 0] (cS K C n)=some (.tup [],cS K (C++codeG r n) (n+lenG r))
def Does110 (l:List Re):Prop:=∀(K:List MB) (C:List Ins) (n:Nat),C.length=n→n+lenL l+2 * (l.length - 1)≤100000→lenL l+2 * (l.length - 1)≤8192 →
 call Tryd.prog pol1 43 [.sl false (l.map reAV),.rf 2 1 0 0,.rf 3 1 0 0,.rf 0 1 0 0] (cS K C n)=some (.tup [],cS K (C++codeAlt l n) (n+lenL l+2 * (l.length - 1)))
theorem zLN (caps top:Int) (hcaps:caps≤1000):∀ r:Re,r.wt≤1000000→GoodC caps top r→(∀ op set kids mn mx md n neg,r=.mk op set kids mn mx md n neg→(op=4→Does108 r)∧(op=3→Does110 kids)∧∀ k∈kids,Does111 k)→Does111 r
 | .mk op set kids mn mx md n neg,hN,hw,hk=>by
   obtain⟨d108,d110,ih⟩:=hk _ _ _ _ _ _ _ _ rfl
   intro K C m hC hb hl
   have hkl:=Re.wtL_len kids
   have hwt:1+set.length+Re.wtL kids=(Re.mk op set kids mn mx md n neg).wt:=by simp[Re.wt]
   have hop:=hw.op
   have hlen:=zAm caps top _ m hw
   obtain⟨hwk,hkd,hrp,hnn,ho1,ho2⟩:=zAt hw.whole
   have hgk:=hw.kids
   have hrc:(.pt (reC (.mk op set kids mn mx md n neg)):AV)=.pt (nodeL op set kids mn mx md n neg):=congrArg AV.pt zFn
   have fr:∀ H,frzArgs pol1 44 0 [.pt (nodeL op set kids mn mx md n neg),.rf 2 1 0 0,.rf 3 1 0 0,.rf 5 1 0 0,.rf 4 1 0 0] H=some ([.pt (nodeL op set kids mn mx md n neg),.rf 2 1 0 0,.rf 3 1 0 0,.rf 5 1 0 0,.rf 4 1 0 0],H):=fun H=>
    zAa _ _ _ (by simp[mixOk,show pol1.byref 44 1=true from rfl,show pol1.byref 44 2=true from rfl,show pol1.byref 44 3=true from rfl,show pol1.byref 44 4=true from rfl,AV.plain,AV.plainL,zAG,zAp])
   have h107:=zFb
   rw[hrc]
   refine zAg (pol:=pol1) Tryd.func44 rfl rfl rfl rfl (fr _) ?_
   have rt:∀ C' n',retPol pol1 44 (cS K C m) (.tup []) (cS K C' n')=some (.tup [],cS K C' n'):=fun C' n'=>
    zAf rfl rfl rfl (by have:=@zE8 C C' m n' (cS K C m).length (.row 1 [.clo 40 [.rf 0 1 0 0]] 0::.row 1 [.clo 44 [.rf 2 1 0 0,.rf 3 1 0 0,.rf 5 1 0 0,.rf 4 1 0 0]] 0::.row 1 [.clo 41 [.rf 3 1 0 0,.rf 2 1 0 0,.rf 0 1 0 0]] 0::.row 1 [.clo 43 [.rf 2 1 0 0,.rf 3 1 0 0,.rf 0 1 0 0]] 0::K) [] (by simp);simpa using this) (by simp)
   rcases hop with rfl|rfl|rfl|rfl|rfl|rfl|rfl
   ·have hk0:kids=[]:=List.length_eq_zero_iff.1 (by simpa [kidsG] using hkd)
    subst hk0
    have hc:codeG (.mk 0 set [] mn mx md n neg) m=[]:=by rw[codeG];rfl
    rw[← hlen,hc,List.append_nil]
    simp +contextual (disch:=omega) only[Tryd.f44,dd44,go_sem,simprocAttr,mu44,↓zAE,↓zAC,↓zAB,↓zAA]
    exact rt C m
   ·have hc:codeG (.mk 1 set kids mn mx md n neg) m=[⟨1,0,0,0,set⟩]:=by rw[codeG];rfl
    have h1:=fun R=>zFb 1 0 0 0 false set C m R hC (by omega)
    have h92:=f92 set (by omega)
    rw[← hlen,hc]
    simp +contextual (disch:=omega) only[Tryd.f44,dd44,go_sem,simprocAttr,mu44,↓zAE,↓zAC,↓zAB,↓zAA,h1,h92]
    repeat' (first|intro _|apply And.intro|(unfold dOk;kernel_rfl)|exact St.beq_refl _|(show altO _ _ _ _=true;kernel_rfl)|(show (_ || _)=true;kernel_rfl)|(show (_ && _)=true;kernel_rfl))
    exact rt _ _
   ·have hc:codeG (.mk 2 set kids mn mx md n neg) m=codeCat kids m:=by rw[codeG];rfl
    have hL:lenG (.mk 2 set kids mn mx md n neg)=lenL kids:=by rw[lenG];rfl
    rw[hL]at hl hb hlen ⊢
    rw[hc]at hlen ⊢
    simp +contextual (disch:=omega) only[Tryd.f44,dd44,go_sem,simprocAttr,mu44,↓zAE,↓zAC,↓zAB,↓zAA]
    refine zAY (M:=(mskOf (pol1.mask 44) (pol1.gc 44) (pol1.acts 44) 0 7)) rfl kids.length (fun i=>(⟨89,[(37,I i),(36,I kids.length),(2,.rf 3 1 0 0),(0,.pt (nodeL 2 set kids mn mx md n neg))],cS K (C++codeCat (kids.take i) m) (m+lenL (kids.take i))⟩:St)) (fun _=>True) ?_ ?_ trivial _ ?_
    ·intro i hi _
     obtain⟨k,hk⟩:∃ k,kids[i]?=some k:=⟨_,List.getElem?_eq_getElem hi⟩
     have hkm:=List.mem_of_getElem? hk
     have hl8:=zA1 k
     have ht8:=zBS k
     have e1:=zDr hk
     have e2:=zHl hk m
     have e4:=zES kids (i+1)
     have hck:=zDZ caps top (kids.take i) m (fun k h=>hgk k (List.mem_of_mem_take h))
     have h2:=ih k hkm K (C++codeCat (kids.take i) m) (m+lenL (kids.take i)) (by simp[hC,hck]) (by omega) (by omega)
     simp +contextual (disch:=omega) only[Tryd.f44,dd44,go_sem,simprocAttr,mu44,↓zAE,↓zAC,↓zAB,↓zAA,hk,h2,hl8,ht8]
     rw[e1,e2,← List.append_assoc,← Nat.add_assoc]
     repeat' (first|intro _|apply And.intro|(unfold dOk;kernel_rfl)|exact St.beq_refl _|(show altO _ _ _ _=true;kernel_rfl)|(show (_ || _)=true;kernel_rfl)|(show (_ && _)=true;kernel_rfl))
     rfl
    ·intro _
     rw[List.take_length]
     simp +contextual (disch:=omega) only[Tryd.f44,dd44,go_sem,simprocAttr,mu44,↓zAE,↓zAC,↓zAB,↓zAA]
     exact rt _ _
    ·skip
     simp[codeCat,lenL]
     rfl
   ·have hc:codeG (.mk 3 set kids mn mx md n neg) m=codeAlt kids m:=by rw[codeG];rfl
    have hL:lenG (.mk 3 set kids mn mx md n neg)=lenL kids+2 * (kids.length - 1):=by rw[lenG,if_neg (by omega),if_pos rfl]
    rw[hL]at hl hb hlen ⊢
    rw[hc]at hlen ⊢
    have h1:=d110 rfl K C m hC (by omega) hl
    rw[Nat.add_assoc]at h1
    simp +contextual (disch:=omega) only[Tryd.f44,dd44,go_sem,simprocAttr,mu44,↓zAE,↓zAC,↓zAB,↓zAA,h1]
    repeat' (first|intro _|apply And.intro|(unfold dOk;kernel_rfl)|exact St.beq_refl _|(show altO _ _ _ _=true;kernel_rfl)|(show (_ || _)=true;kernel_rfl)|(show (_ && _)=true;kernel_rfl))
    exact rt _ _
   ·have h1:=d108 rfl K C m hC hb hl
    rw[hrc]at h1
    simp +contextual (disch:=omega) only[Tryd.f44,dd44,go_sem,simprocAttr,mu44,↓zAE,↓zAC,↓zAB,↓zAA,h1]
    repeat' (first|intro _|apply And.intro|(unfold dOk;kernel_rfl)|exact St.beq_refl _|(show altO _ _ _ _=true;kernel_rfl)|(show (_ || _)=true;kernel_rfl)|(show (_ && _)=true;kernel_rfl))
    exact rt _ _
   ·obtain⟨k,rfl⟩:∃ k,kids=[k]:=List.length_eq_one_iff.1 (by simpa [kidsG] using hkd)
    have hn1:=hnn (.inl rfl)
    have hc:codeG (.mk 5 set [k] mn mx md n neg) m=[⟨4,0,0,2 * n - 2,[]⟩]++codeG k (m+1)++[⟨4,0,0,2 * n - 1,[]⟩]:=by rw[codeG];rfl
    have hL:lenG (.mk 5 set [k] mn mx md n neg)=1+lenG k+1:=by
     rw[lenG,if_neg (by omega),if_neg (by omega),if_pos rfl];simp[lenL];omega
    rw[hL]at hlen hl hb ⊢
    have hl8:=zA1 k
    have ht8:=zBS k
    have hk5:=zAm caps top k (m+1) (hgk k (List.mem_singleton.2 rfl))
    have h1:=fun R=>zFb 4 0 0 (2 * n - 2) true [] C m R hC (by omega)
    have h2:=ih k (List.mem_singleton.2 rfl) K (C++[⟨4,0,0,2 * n - 2,[]⟩]) (m+1) (by simp[hC]) (by omega) (by omega)
    have h3:=fun R=>zFb 4 0 0 (2 * n - 1) true [] (C++[⟨4,0,0,2 * n - 2,[]⟩]++codeG k (m+1)) (m+1+lenG k) R (by simp[hC,hk5];omega) (by omega)
    have ha:C++([⟨4,0,0,2 * n - 2,[]⟩]++codeG k (m+1)++[⟨4,0,0,2 * n - 1,[]⟩])=C++[⟨4,0,0,2 * n - 2,[]⟩]++codeG k (m+1)++[⟨4,0,0,2 * n - 1,[]⟩]:=by simp
    have hm:m+(1+lenG k+1)=m+1+lenG k+1:=by omega
    rw[hc,ha,hm]
    simp only[List.map_nil]at h1 h3
    generalize codeG k (m+1)=B at *
    simp +contextual (disch:=omega) only[Tryd.f44,dd44,go_sem,simprocAttr,mu44,↓zAE,↓zAC,↓zAB,↓zAA,h1,h2,h3,hl8,ht8]
    repeat' (first|intro _|apply And.intro|(unfold dOk;kernel_rfl)|exact St.beq_refl _|(show altO _ _ _ _=true;kernel_rfl)|(show (_ || _)=true;kernel_rfl)|(show (_ && _)=true;kernel_rfl))
    exact rt _ _
   ·have hc:codeG (.mk 11 set kids mn mx md n neg) m=[⟨5,0,0,n,[]⟩]:=by rw[codeG];rfl
    have h1:=fun R=>zFb 5 0 0 n true [] C m R hC (by omega)
    simp only[List.map_nil]at h1
    rw[← hlen,hc]
    simp +contextual (disch:=omega) only[Tryd.f44,dd44,go_sem,simprocAttr,mu44,↓zAE,↓zAC,↓zAB,↓zAA,h1]
    repeat' (first|intro _|apply And.intro|(unfold dOk;kernel_rfl)|exact St.beq_refl _|(show altO _ _ _ _=true;kernel_rfl)|(show (_ || _)=true;kernel_rfl)|(show (_ && _)=true;kernel_rfl))
    exact rt _ _
end
section
attribute [local go_sem] evAppend List.length_append List.map_append tySzE List.head?_drop Nat.mul_one zAN zAQ zAL zAO zAP zAU
open Go.Proofs Go.RowKit Go.IntWalk
set_option maxRecDepth 100000
set_option maxHeartbeats 8000000
theorem zLL (C:List Ins) (a b c d:Int) (t:Bool):∀(i:Nat) (H:List MB),fzs ((C.map insAV).set i (.agg [I a,I b,I c,I d,.sl t []])) H=some ((C.set i ⟨a,b,c,d,[]⟩).map insAV,H):=by
 have key:∀(C:List Ins) (i:Nat),KeepL (fzJ 6) ((C.map insAV).set i (.agg [I a,I b,I c,I d,.sl t []])) ((C.set i ⟨a,b,c,d,[]⟩).map insAV):=by
  intro C
  induction C with
  | nil=>intro i;exact .nil
  | cons x C ih=>
    intro i
    cases i with
    | zero=>exact .cons (fun H=>rfl) (zGR C)
    | succ i=>exact .cons (fun H=>zDw _ _ H (by simp[AV.plain,AV.plainL,zAG])) (ih i)
 intro i H
 exact(key C i).fz H
def altM (e:Int):List Re→Nat→Nat→List Ins
 | [],_,_=>[]
 | k::ks,f,j=>if ks.length=0 then codeG k f else⟨2,(f+1:Nat),(f+lenG k+2:Nat),0,[]⟩::(codeG k (f+1)++(⟨3,if 0 < j then e else 0,0,0,[]⟩::altM e ks (f+lenG k+2) (j - 1)))
def altP:List Re→Nat→Nat→List Ins
 | k::ks,f,i+1=>⟨2,(f+1:Nat),(f+lenG k+2:Nat),0,[]⟩::(codeG k (f+1)++(⟨3,0,0,0,[]⟩::altP ks (f+lenG k+2) i))
 | _,_,_=>[]
def jumpsP:List Re→Nat→Nat→List Nat
 | k::ks,f,i+1=>(f+1+lenG k)::jumpsP ks (f+lenG k+2) i
 | _,_,_=>[]
theorem zFX (l:List Re) (f:Nat):altP l f 0=[]:=by cases l<;>rfl
theorem zFB (l:List Re) (f:Nat):jumpsP l f 0=[]:=by cases l<;>rfl
theorem zHs:∀(l:List Re) (f i:Nat) (k:Re),l[i]?=some k→altP l f (i+1)=altP l f i++(⟨2,(f+lenL (l.take i)+2 * i+1:Nat),(f+lenL (l.take i)+2 * i+lenG k+2:Nat),0,[]⟩::(codeG k (f+lenL (l.take i)+2 * i+1)++[⟨3,0,0,0,[]⟩]))
 | [],_,i,_,h=>by cases h
 | q::ks,f,0,k,h=>by
   simp only[List.getElem?_cons_zero,Option.some.injEq]at h
   subst h
   simp[altP,zFX,lenL]
 | q::ks,f,i+1,k,h=>by
   rw[List.getElem?_cons_succ]at h
   have ih:=zHs ks (f+lenG q+2) i k h
   have e1:f+lenG q+2+lenL (ks.take i)+2 * i=f+lenL ((q::ks).take (i+1))+2 * (i+1):=by rw[List.take_succ_cons,lenL];omega
   rw[e1]at ih
   rw[altP,ih]
   conv=>rhs;rw[altP]
   simp
theorem zFC:∀(l:List Re) (f i:Nat) (k:Re),l[i]?=some k→jumpsP l f (i+1)=jumpsP l f i++[f+lenL (l.take i)+2 * i+1+lenG k]
 | [],_,i,_,h=>by cases h
 | q::ks,f,0,k,h=>by
   simp only[List.getElem?_cons_zero,Option.some.injEq]at h
   subst h
   simp[jumpsP,zFB,lenL]
 | q::ks,f,i+1,k,h=>by
   rw[List.getElem?_cons_succ]at h
   have ih:=zFC ks (f+lenG q+2) i k h
   have e1:f+lenG q+2+lenL (ks.take i)+2 * i=f+lenL ((q::ks).take (i+1))+2 * (i+1):=by rw[List.take_succ_cons,lenL];omega
   rw[e1]at ih
   rw[jumpsP,ih]
   conv=>rhs;rw[jumpsP]
   simp
theorem zEA:∀(l:List Re) (f i:Nat),i≤l.length→(jumpsP l f i).length=i
 | [],_,i,h=>by
   have:i=0:=by simpa using h
   subst this;rfl
 | q::ks,f,0,h=>rfl
 | q::ks,f,i+1,h=>by simp[jumpsP,zEA ks _ i (by simpa using h)]
theorem zGm (caps top:Int):∀(l:List Re) (f i:Nat),(∀ k∈l,GoodC caps top k)→i≤l.length→(altP l f i).length=lenL (l.take i)+2 * i
 | [],_,i,_,h=>by
   have:i=0:=by simpa using h
   subst this;rfl
 | q::ks,f,0,hg,h=>rfl
 | q::ks,f,i+1,hg,h=>by
   simp only[altP,List.length_cons,List.length_append,zGm caps top ks _ i (fun k h=>hg k (List.mem_cons_of_mem _ h)) (by simpa using h),zAm caps top q _ (hg q (List.mem_cons_self ..)),List.take_succ_cons,lenL]
   omega
theorem zHt (e:Int):∀(l:List Re) (f:Nat) (k:Re),l[l.length - 1]?=some k→altM e l f 0=altP l f (l.length - 1)++codeG k (f+lenL (l.take (l.length - 1))+2 * (l.length - 1))
 | [],_,_,h=>by cases h
 | [q],f,k,h=>by
   simp at h
   subst h
   simp[altM,zFX,lenL]
 | q::q2::ks,f,k,h=>by
   have h2:(q2::ks)[(q2::ks).length - 1]?=some k:=by simpa using h
   have ih:=zHt e (q2::ks) (f+lenG q+2) k h2
   have e0:(q::q2::ks).length - 1=((q2::ks).length - 1)+1:=by simp
   have e1:f+lenG q+2+lenL ((q2::ks).take ((q2::ks).length - 1))+2 * ((q2::ks).length - 1)=f+lenL ((q::q2::ks).take ((q::q2::ks).length - 1))+2 * ((q::q2::ks).length - 1):=by
    rw[e0,List.take_succ_cons,lenL];omega
   rw[e1]at ih
   rw[altM,if_neg (by simp),ih,e0,altP]
   simp
theorem zI1 (e:Int):∀(l:List Re) (f j:Nat),l.length≤j+1→e=(f+lenL l+2 * (l.length - 1):Nat)→altM e l f j=codeAlt l f
 | [],_,_,_,_=>rfl
 | k::ks,f,j,h,he=>by
   rw[altM,codeAlt]
   split
   ·rfl
   ·rename_i h0
    have hj:0 < j:=by simp at h;omega
    have e2:e=(f+lenG k+2+lenL ks+2 * (ks.length - 1):Nat):=by rw[he,lenL];simp only[List.length_cons];omega
    have e3:e=(f+lenL (k::ks)+2 * ks.length:Nat):=by rw[he];simp only[List.length_cons];omega
    rw[if_pos hj,zI1 e ks (f+lenG k+2) (j - 1) (by simp at h;omega) e2,← e3]
theorem zI0 (caps top e:Int):∀(l:List Re) (f j p:Nat),(∀ k∈l,GoodC caps top k)→(jumpsP l f (l.length - 1))[j]?=some p→f≤p∧(altM e l f j)[p - f]?=some ⟨3,0,0,0,[]⟩∧(altM e l f j).set (p - f) ⟨3,e,0,0,[]⟩=altM e l f (j+1)
 | [],_,_,_,_,h=>by cases h
 | [q],f,j,p,_,h=>by simp[jumpsP]at h
 | q::q2::ks,f,j,p,hg,h=>by
   have hq:=zAm caps top q (f+1) (hg q (List.mem_cons_self ..))
   rw[show (q::q2::ks).length - 1=((q2::ks).length - 1)+1 by simp,jumpsP]at h
   cases j with
   | zero=>
     simp only[List.getElem?_cons_zero,Option.some.injEq]at h
     subst h
     have hp:f+1+lenG q - f=(codeG q (f+1)).length+1:=by omega
     refine⟨by omega,?_,?_⟩
     ·rw[altM,if_neg (by simp),hp,List.getElem?_cons_succ,List.getElem?_append_right (Nat.le_refl _),Nat.sub_self];rfl
     ·rw[altM,if_neg (by simp),hp,List.set_cons_succ,List.set_append_right _ _ (Nat.le_refl _),Nat.sub_self]
      conv=>rhs;rw[altM,if_neg (by simp)]
      rfl
   | succ j=>
     rw[List.getElem?_cons_succ]at h
     obtain⟨h1,h2,h3⟩:=zI0 caps top e (q2::ks) (f+lenG q+2) j p (fun k h=>hg k (List.mem_cons_of_mem _ h)) h
     have hp:p - f=(codeG q (f+1)).length+((p - (f+lenG q+2))+1)+1:=by omega
     refine⟨by omega,?_,?_⟩
     ·rw[altM,if_neg (by simp),hp,List.getElem?_cons_succ,List.getElem?_append_right (by omega),Nat.add_sub_cancel_left,List.getElem?_cons_succ]
      exact h2
     ·rw[altM,if_neg (by simp),hp,List.set_cons_succ,List.set_append_right _ _ (by omega),Nat.add_sub_cancel_left,List.set_cons_succ]
      conv=>rhs;rw[altM,if_neg (by simp)]
      rw[show j+1 - 1=j from rfl,show j+1+1 - 1=j+1 from rfl,h3]
      simp
end
section
attribute [local go_sem] tySzE List.head?_drop Nat.mul_one zAN zAQ zAL zAO zAP zAU
open Go.Proofs Go.RowKit Go.IntWalk
set_option maxRecDepth 100000
set_option maxHeartbeats 8000000
theorem zLV {H:List MB} {i n z:Nat} {els:List AV} {x:Int} {t:Bool} (hi:getRow H i=some (1,els,z)) (hn:els.length=n) (hz:z≤n) (hr:n+1≤4000000000) :
  evAppend Tryd.prog H 22 22 (.ms i 1 n 0 n) (.sl t [I x])=some (.ms i 1 (n+1) 0 (n+1),H.set i (.row 1 (els++[I x]) z)):=by
 have hs:srcElems Tryd.prog H 3 (.sl t [I x])=some [I x]:=rfl
 rw[zAs (e:=3) (by kernel_rfl) (by kernel_rfl) (k:=1) (by kernel_rfl) (by_:=8) (by kernel_rfl) (ze:=I 0) (by kernel_rfl) rfl (by omega) hs rfl hi hn hz (zAU hr (by omega))]
 rfl
theorem zGl {K:List MB} {C:List Ins} {m n:Nat} {els:List AV} {x:Int} (hn:els.length=n) (hr:n+1≤4000000000) :
  evAppend Tryd.prog (cS (K++[.row 1 els 0]) C m) 22 22 (.ms (K.length+1+1+1+1+1+1) 1 n 0 n) (.sl true [I x])=some (.ms (K.length+1+1+1+1+1+1) 1 (n+1) 0 (n+1),cS (K++[.row 1 (els++[I x]) 0]) C m):=by
 rw[zLV (z:=0) (els:=els) (by simp[getRow]) hn (by omega) hr]
 simp
theorem zH4 {f:Nat} {K:List MB} {C:List Ins} {n:Nat} (C':List Ins) (n':Nat) (b:MB) (hk:pol1.keep f=false) (ho:pol1.own f=false):retPol pol1 f (cS K C n) (.tup []) (cS (K++[b]) C' n')=some (.tup [],cS K C' n'):=
 zAf hk ho rfl (zE8 (C:=C) (C':=C') (n:=n) (n':=n') (R:=.row 1 [.clo 40 [.rf 0 1 0 0]] 0::.row 1 [.clo 44 [.rf 2 1 0 0,.rf 3 1 0 0,.rf 5 1 0 0,.rf 4 1 0 0]] 0::.row 1 [.clo 41 [.rf 3 1 0 0,.rf 2 1 0 0,.rf 0 1 0 0]] 0::.row 1 [.clo 43 [.rf 2 1 0 0,.rf 3 1 0 0,.rf 0 1 0 0]] 0::K) (S:=[b]) (by simp)) (by simp)
theorem zLO (caps top:Int) (l:List Re) (hl2:2≤l.length) (hl3:l.length≤1000000) (hg:∀ k∈l,GoodC caps top k) (ih:∀ k∈l,Does111 k):Does110 l:=by
 intro K C n hC hb hL
 have fr:∀ H,frzArgs pol1 43 0 [.sl false (l.map reAV),.rf 2 1 0 0,.rf 3 1 0 0,.rf 0 1 0 0] H=some ([.sl false (l.map reAV),.rf 2 1 0 0,.rf 3 1 0 0,.rf 0 1 0 0],H):=fun H=>
  zAa _ _ _ (by simp[mixOk,show pol1.byref 43 1=true from rfl,show pol1.byref 43 2=true from rfl,show pol1.byref 43 3=true from rfl,AV.plain,AV.plainL,zAp])
 refine zAg (pol:=pol1) Tryd.func43 rfl rfl rfl rfl (fr _) ?_
 have hlk:(l.map reAV).all (fun y=>decide (y.cells.length=8))=true:=by simp[AV.cells,zA1]
 simp only[AV.cells]at hlk
 have hw1:IntKind.i64.wrap (((l.length:Nat):Int) - 1)=((l.length - 1:Nat):Int):=zAB ⟨by omega,by omega⟩
 simp +contextual (disch:=omega) only[Tryd.f43,dd43,go_sem,simprocAttr,evAppend,List.length_append,mu43,↓zAE,↓zAC,↓zAB,↓zAA,hw1,hlk,ty28]
 have hN:l.length - 1≤l.length:=by omega
 refine zAY (M:=(mskOf (pol1.mask 43) (pol1.gc 43) (pol1.acts 43) 0 2)) rfl (l.length - 1) (fun i=>(⟨62,[(16,I i),(15,I (l.length - 1:Nat)),(5,.ms (K.length+1+1+1+1+1+1) 1 i 0 i),(3,.rf 0 1 0 0),(2,.rf 3 1 0 0),(1,.rf 2 1 0 0),(0,.sl false (l.map reAV))],
  cS (K++[.row 1 ((jumpsP l n i).map (fun p:Nat=>I p)) 0]) (C++altP l n i) (n+lenL (l.take i)+2 * i)⟩:St)) (fun _=>True) ?_ ?_ trivial _ ?_
 ·intro i hi _
  obtain⟨k,hk⟩:∃ k,l[i]?=some k:=⟨_,List.getElem?_eq_getElem (by omega)⟩
  have hkm:=List.mem_of_getElem? hk
  have hl8:=zA1 k
  have ht8:=zBS k
  have e1:=zDr hk
  have e2:=zHs l n i k hk
  have e3:=zFC l n i k hk
  have e4:=zES l (i+1)
  have hpl:=zGm caps top l n i hg (by omega)
  have hjl:=zEA l n i (by omega)
  have hk5:=zAm caps top k (n+lenL (l.take i)+2 * i+1) (hg k hkm)
  have h1:=fun R=>zFb 0 0 0 0 true [] (C++altP l n i) (n+lenL (l.take i)+2 * i) R (by rw[List.length_append,hC,hpl];omega) (by omega)
  have h2:=ih k hkm (K++[.row 1 ((jumpsP l n i).map (fun p:Nat=>I p)) 0]) (C++altP l n i++[⟨0,0,0,0,[]⟩]) (n+lenL (l.take i)+2 * i+1) (by simp only[List.length_append,hC,hpl,List.length_singleton];omega) (by omega) (by omega)
  have h3:=fun R=>zFb 3 0 0 0 true [] (C++altP l n i++[⟨0,0,0,0,[]⟩]++codeG k (n+lenL (l.take i)+2 * i+1)) (n+lenL (l.take i)+2 * i+1+lenG k) R (by simp only[List.length_append,hC,hpl,List.length_singleton,hk5];omega) (by omega)
  simp only[List.map_nil]at h1 h3
  have hap:=fun C' m' x=>zGl (K:=K) (C:=C') (m:=m') (els:=(jumpsP l n i).map (fun p:Nat=>I p)) (n:=i) (x:=x) (by rw[List.length_map];exact hjl) (by omega)
  have hget:(C++altP l n i++[(⟨0,0,0,0,[]⟩:Ins)]++codeG k (n+lenL (l.take i)+2 * i+1)++[(⟨3,0,0,0,[]⟩:Ins)])[n+lenL (l.take i)+2 * i]?=some ⟨0,0,0,0,[]⟩:=by
   have:n+lenL (l.take i)+2 * i=(C++altP l n i).length:=by rw[List.length_append,hC,hpl];omega
   rw[this,List.append_assoc,List.append_assoc,List.getElem?_append_right (Nat.le_refl _),Nat.sub_self]
   rfl
  have hset:∀ x:Ins,(C++altP l n i++[(⟨0,0,0,0,[]⟩:Ins)]++codeG k (n+lenL (l.take i)+2 * i+1)++[(⟨3,0,0,0,[]⟩:Ins)]).set (n+lenL (l.take i)+2 * i) x=C++altP l n i++(x::(codeG k (n+lenL (l.take i)+2 * i+1)++[⟨3,0,0,0,[]⟩])):=by
   intro x
   have:n+lenL (l.take i)+2 * i=(C++altP l n i).length:=by rw[List.length_append,hC,hpl];omega
   rw[this,List.append_assoc,List.append_assoc,List.set_append_right _ _ (Nat.le_refl _),Nat.sub_self]
   rfl
  have hlq:(C.length+(altP l n i).length+1+(codeG k (n+lenL (l.take i)+2 * i+1)).length=n+lenL (l.take i)+2 * i+1+lenG k)=True:=eq_true (by omega)
  simp +contextual (disch:=omega) only[Tryd.f43,dd43,go_sem,simprocAttr,List.length_append,mu43,↓zAE,↓zAC,↓zAB,↓zAA,hget,hlq,hk,hap,ty28,h1,h2,h3,hl8,ht8,zA5,zB5,zLL,AV.beqL_refl]
  have hm1:n+(lenL (l.take i)+lenG k)+2 * (i+1)=n+lenL (l.take i)+2 * i+1+lenG k+1:=by omega
  have hm2:n+lenL (l.take i)+2 * i+lenG k+2=n+lenL (l.take i)+2 * i+1+lenG k+1:=by omega
  rw[hm2]at e2
  refine⟨by unfold dOk;kernel_rfl,?_⟩
  have e3':(jumpsP l n (i+1)).map (fun p:Nat=>I p)=(jumpsP l n i).map (fun p:Nat=>I p)++[I (n+lenL (l.take i)+2 * i+1+lenG k:Nat)]:=by rw[e3,List.map_append];rfl
  rw[hset,e1,e2,e3',hm1,← List.append_assoc]
  rfl
 ·intro _
  obtain⟨k,hk⟩:∃ k,l[l.length - 1]?=some k:=⟨_,List.getElem?_eq_getElem (by omega)⟩
  have hkm:=List.mem_of_getElem? hk
  have hl8:=zA1 k
  have ht8:=zBS k
  have e1:=zDr hk
  rw[show l.length - 1+1=l.length by omega,List.take_length]at e1
  have hpl:=zGm caps top l n (l.length - 1) hg (by omega)
  have hjl:=zEA l n (l.length - 1) (by omega)
  have hm0:=zHt ((n+lenL l+2 * (l.length - 1):Nat):Int) l n k hk
  have hma:=zI1 ((n+lenL l+2 * (l.length - 1):Nat):Int) l n (l.length - 1) (by omega) rfl
  have hms:=zI0 caps top ((n+lenL l+2 * (l.length - 1):Nat):Int) l n
  have h2:=ih k hkm (K++[.row 1 ((jumpsP l n (l.length - 1)).map (fun p:Nat=>I p)) 0]) (C++altP l n (l.length - 1)) (n+lenL (l.take (l.length - 1))+2 * (l.length - 1)) (by rw[List.length_append,hC,hpl];omega) (by omega) (by omega)
  have hq:n+lenL (l.take (l.length - 1))+2 * (l.length - 1)+lenG k=n+lenL l+2 * (l.length - 1):=by omega
  rw[List.append_assoc,← hm0,hq]at h2
  simp +contextual (disch:=omega) only[Tryd.f43,dd43,go_sem,simprocAttr,evAppend,List.length_append,mu43,↓zAE,↓zAC,↓zAB,↓zAA,hw1,hk,h2,hl8,ht8,ty28,zA5,zB5]
  generalize hE:n+lenL l+2 * (l.length - 1)=e at *
  refine⟨by unfold dOk;kernel_rfl,?_⟩
  refine zAY (M:=(mskOf (pol1.mask 43) (pol1.gc 43) (pol1.acts 43) 0 11)) rfl (l.length - 1) (fun j=>(⟨62,[(51,I j),(50,I (l.length - 1:Nat)),(49,.ms (K.length+1+1+1+1+1+1) 1 (l.length - 1) 0 (l.length - 1)),(3,.rf 0 1 0 0)],
   cS (K++[.row 1 ((jumpsP l n (l.length - 1)).map (fun p:Nat=>I p)) 0]) (C++altM (e:Nat) l n j) e⟩:St)) (fun j=>(C++altM (e:Nat) l n j).length=e) ?_ ?_ ?_ _ rfl
  ·intro j hj hlj
   obtain⟨p,hp⟩:∃ p,(jumpsP l n (l.length - 1))[j]?=some p:=⟨_,List.getElem?_eq_getElem (by omega)⟩
   obtain⟨hp1,hp2,hp3⟩:=hms j p hg hp
   have hpe:p=C.length+(p - n):=by omega
   have hgt:(C++altM (e:Nat) l n j)[p]?=some ⟨3,0,0,0,[]⟩:=by
    rw[hpe,hC,List.getElem?_append_right (by omega),hC,Nat.add_sub_cancel_left];exact hp2
   have hpb:p < e:=by
    have:=(List.getElem?_eq_some_iff.1 hgt).1
    omega
   have hst0:(C++altM (e:Nat) l n j).set p ⟨3,(e:Nat),0,0,[]⟩=C++altM (e:Nat) l n (j+1):=by
    rw[hpe,hC,List.set_append_right _ _ (by omega),hC,Nat.add_sub_cancel_left,hp3]
   have hst:((C++altM (e:Nat) l n j).map insAV).set p (.agg [I 3,I (e:Nat),I 0,I 0,.sl false []])=(C++altM (e:Nat) l n (j+1)).map insAV:=by
    rw[← hst0,List.map_set];rfl
   have hlj2:(C++altM (e:Nat) l n (j+1)).length=e:=by rw[← hst0,List.length_set,hlj]
   simp +contextual (disch:=omega) only[Tryd.f43,dd43,go_sem,simprocAttr,evAppend,mu43,↓zAE,↓zAC,↓zAB,↓zAA,hp,hgt,hlj,hjl,hst,zA5,zB5]
   exact⟨hlj2,rfl⟩
  ·intro _
   simp +contextual (disch:=omega) only[Tryd.f43,dd43,go_sem,simprocAttr,evAppend,List.length_append,mu43,↓zAE,↓zAC,↓zAB,↓zAA,zA5]
   rw[hma]
   exact zH4 _ _ _ rfl rfl
  ·rw[hm0,List.length_append,List.length_append,hC,hpl,zAm caps top k _ (hg k hkm)]
   omega
 ·rw[zFB,zFX,List.length_take,List.length_map,Nat.min_eq_left hN]
  simp[lenL]
  rfl
end
end Go.Ev
