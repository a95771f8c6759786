/- Functions of the program, each with what it computes; no further conditions. -/
import Derived.Test.YtmfpcondongbjaaGreatS07
import Derived.Test.YtmfpcondongbjaaGreatS08
import Derived.Test.YtmfpcondongbjaaGreatS17
import Derived.Test.YtmfpcondongbjaaGreatS15
import Derived.Test.YtmfpcondongbjaaGreatS13
import Derived.Test.YtmfpcondongbjaaGreatS14
import Derived.Test.YtmfpcondongbjaaGreatS16
set_option linter.unusedVariables false
set_option linter.unusedSimpArgs false
namespace Go.Ev
attribute [local go_sem] W_block evAppend evBuild splice
section
attribute [local go_sem] evMakeSlice tySzE List.head?_drop Nat.mul_one sameAt_zero sameAt_two sameAt_three sameAt_four sameAt_five room_ok
open Go.Proofs Go.RowKit Go.IntWalk
set_option maxRecDepth 100000
set_option maxHeartbeats 16000000
theorem g9 (l:List Int) (hl:∀ x∈l,In64 x):∃ g,PrgN g 12 1∧1≤g.ins.length∧validG g=0∧∀ H,call Tryz.prog pol1 9 [.sl false (l.map I)] H=some (prgAV g,H):=by
 obtain⟨_,⟨g,h1,h2,h4,rfl⟩,h3⟩:=k9 l hl
 refine⟨g,h1,h2,h4,fun H=>?_⟩
 rw[call_eq]
 unfold evStep
 rw[if_neg (show ¬ pol1.pure 9=true by decide),if_neg (by decide)]
 exact h3 H
theorem PrgN.b {g:Prg} {a b:Nat} (h:PrgN g a b) (ha:a≤1000000) (hb:b≤1000000):PrgB g:=⟨Nat.le_trans h.len ha,fun i hi=>Nat.le_trans (h.sets i hi) hb⟩
end
structure WayI where
 w:Way
 idle:Nat
 found:Nat
theorem runW_none_len {p:Prog1} {most:Int}:∀(fuel:Nat) (todo out out':List Way),out.length=out'.length→runW p most fuel todo out=none→runW p most fuel todo out' = none
 | fuel,[],out,out',_,h=>by unfold runW at h;simp at h
 | 0,w::todo,out,out',hl,h=>by
   by_cases ho:(out.length:Int)=most
   ·unfold runW at h;simp only[ho,if_true]at h;cases h
   ·exact runW_zero (by rw[← hl];exact ho)
 | fuel+1,w::todo,out,out',hl,h=>by
   by_cases ho:(out.length:Int)=most
   ·unfold runW at h;simp only[ho,if_true]at h;cases h
   ·rw[runW_step ho]at h
    rw[runW_step (by rw[← hl];exact ho)]
    cases hs:stepW p w with
    | done=>rw[hs]at h;exact runW_none_len fuel todo _ _ (by simp[hl]) h
    | ways l=>rw[hs]at h;exact runW_none_len fuel _ _ _ hl h
structure Ghost where
 e:WayI
 hs:List Way
def Chain (p:Prog1) (found outN:Nat):List Way→Prop
 | []=>True
 | a::l=>(∀ b∈l,∃ E d m,Reach p b a E d (m+1)∧found+d≤outN)∧Chain p found outN l
theorem Chain.mono {p:Prog1} {f n n':Nat} (h:n≤n'):∀ {l:List Way},Chain p f n l→Chain p f n' l
 | [],_=>trivial
 | a::l,⟨h1,h2⟩=>⟨fun b hb=>by
    obtain⟨E,d,m,r,hd⟩:=h1 b hb
    exact⟨E,d,m,r,by omega⟩,Chain.mono h h2⟩
structure Hist (p:Prog1) (n outN:Nat) (t:Ghost) (rest:List Ghost):Prop where
 idle:∀ g∈t::rest,g.hs.length=g.e.idle∧g.e.found≤outN
 at_:∀ g∈t::rest,g.e.w.pc < n∧∀ h∈g.hs,h.at_=g.e.w.at_∧h.pc < n
 chain:∀ g∈t::rest,Chain p g.e.found outN g.hs
 reach:∀ i g,(t::rest)[i]?=some g→∀ h∈g.hs,∃ E S d m,rest.map (·.e.w)=E++S∧i≤E.length∧Reach p h t.e.w E d (m+1)∧g.e.found+d≤outN
theorem nodup_lt:∀(n:Nat) (L:List Nat),(∀ x∈L,x < n)→L.Nodup→L.length≤n
 | 0,[],_,_=>Nat.le_refl _
 | 0,x::_,h,_=>absurd (h x (List.mem_cons_self ..)) (Nat.not_lt_zero _)
 | n+1,L,h,hd=>by
   have h1:(L.erase n).length≤n:=nodup_lt n (L.erase n) (fun x hx=>by
    have h2:=(List.Nodup.mem_erase_iff hd).1 hx
    have h3:=h x h2.2
    have h4:=h2.1
    omega) (hd.erase n)
   rw[List.length_erase]at h1
   split at h1<;>omega
theorem chain_dup {p:Prog1} {f N:Nat}:∀(L:List Way),Chain p f N L→¬ (L.map (·.pc)).Nodup→∃ a∈L,∃ b∈L,b.pc=a.pc∧∃ E d m,Reach p b a E d (m+1)∧f+d≤N
 | [],_,h=>absurd List.nodup_nil h
 | a::l,⟨h1,h2⟩,h=>by
   by_cases hb:∃ b∈l,b.pc=a.pc
   ·obtain⟨b,b1,b2⟩:=hb
    exact⟨a,List.mem_cons_self ..,b,List.mem_cons_of_mem _ b1,b2,h1 b b1⟩
   ·have:¬ (l.map (·.pc)).Nodup:=fun hn=>h (by
     rw[List.map_cons,List.nodup_cons]
     refine⟨fun hm=>?_,hn⟩
     obtain⟨b,b1,b2⟩:=List.mem_map.1 hm
     exact hb ⟨b,b1,b2⟩)
    obtain⟨x,x1,y,y1,r⟩:=chain_dup l h2 this
    exact⟨x,List.mem_cons_of_mem _ x1,y,List.mem_cons_of_mem _ y1,r⟩
theorem Hist.now {p:Prog1} {n outN:Nat} {t:Ghost} {rest:List Ghost} (h:Hist p n outN t rest):Chain p t.e.found outN (t.e.w::t.hs):=
 ⟨fun b hb=>by
   obtain⟨E,S,d,m,_,_,r,hd⟩:=h.reach 0 t rfl b hb
   exact⟨E,d,m,r,hd⟩,h.chain t (List.mem_cons_self ..)⟩
theorem Hist.circle {p:Prog1} {n:Nat} {t:Ghost} {rest:List Ghost} {out:List Way} (h:Hist p n out.length t rest) (hn:n≤t.e.idle) {most:Int} (hm:most = -1∨t.e.found=out.length) (ho:¬ (out.length:Int)=most) (fuel:Nat) :
  runW p most fuel (t.e.w::rest.map (·.e.w)) out=none:=by
 have h0:=h.now
 have hat:=h.at_ t (List.mem_cons_self ..)
 have hid:=h.idle t (List.mem_cons_self ..)
 have hlen:¬ ((t.e.w::t.hs).map (·.pc)).Nodup:=fun hd=>by
  have:=nodup_lt n _ (fun x hx=>by
   obtain⟨b,b1,rfl⟩:=List.mem_map.1 hx
   rcases List.mem_cons.1 b1 with e|e
   ·rw[e];exact hat.1
   ·exact(hat.2 b e).2) hd
  rw[List.length_map,List.length_cons,hid.1]at this
  omega
 obtain⟨a,a1,b,b1,hpc,E,d,m,r,hd⟩:=chain_dup _ h0 hlen
 have hlike:b.like a:=by
  refine⟨hpc,?_⟩
  have:∀ c∈t.e.w::t.hs,c.at_=t.e.w.at_:=fun c hc=>by
   rcases List.mem_cons.1 hc with e|e
   ·rw[e]
   ·exact(hat.2 c e).1
  rw[this b b1,this a a1]
 have hd0:most = -1∨d=0:=by
  rcases hm with h|h
  ·exact .inl h
  ·exact .inr (by omega)
 rcases List.mem_cons.1 a1 with e|e
 ·subst e
  refine Go.Ev.circle r hlike fuel t.e.w _ out hlike ?_
  rcases hd0 with h|h
  ·exact .inl h
  ·exact .inr ⟨h,ho⟩
 ·obtain⟨E2,S2,d2,m2,hr,_,r2,hd2⟩:=h.reach 0 t rfl a e
  have hlen0:(out.take (out.length - d2)).length+d2=out.length:=by simp;omega
  have hq:most = -1∨(d2=0∧¬ ((out.take (out.length - d2)).length:Int)=most):=by
   rcases hm with h|h
   ·exact .inl h
   ·refine .inr ⟨by omega,?_⟩
    have:d2=0:=by omega
    subst this
    simpa using ho
  obtain⟨out',o1,o2⟩:=r2.run S2 (out.take (out.length - d2)) hq fuel
  have hn:=Go.Ev.circle r hlike (m2+1+fuel) a S2 (out.take (out.length - d2)) hlike (by
   rcases hd0 with h|h
   ·exact .inl h
   ·rcases hq with g|g
    ·exact .inl g
    ·exact .inr ⟨h,g.2⟩)
  rw[hn]at o2
  rw[hr]
  exact runW_none_len fuel _ out' out (by omega) o2.symm
theorem Hist.step {p:Prog1} {n outN:Nat} {t:Ghost} {rest:List Ghost} (h:Hist p n outN t rest) (hcl:∀ w l,w.pc < n→stepW p w=.ways l→∀ v∈l,v.pc < n)
  {hs:List Way} {found:Nat} (hh:(hs=t.e.w::t.hs∧found=t.e.found)∨(hs=[t.e.w]∧found=outN)) {v:Way} {l:List Way} (hs1:stepW p t.e.w=.ways (v::l)) :
  ∃ t' rest',Hist p n outN t' rest'∧t'.e::rest'.map (·.e)=(v::l).map (fun v=>if v.at_=t.e.w.at_ then⟨v,hs.length,found⟩ else⟨v,0,outN⟩)++rest.map (·.e):=by
 have hat:=h.at_ t (List.mem_cons_self ..)
 have hid:=h.idle t (List.mem_cons_self ..)
 have hf:found≤outN:=by rcases hh with ⟨_,h⟩|⟨_,h⟩<;>omega
 have hhs:∀ b∈hs,b.at_=t.e.w.at_∧b.pc < n:=fun b hb=>by
  rcases hh with ⟨e,_⟩|⟨e,_⟩
  ·rw[e]at hb
   rcases List.mem_cons.1 hb with e|e
   ·rw[e];exact⟨rfl,hat.1⟩
   ·exact hat.2 b e
  ·rw[e]at hb
   rw[List.mem_singleton.1 hb];exact⟨rfl,hat.1⟩
 have hch:Chain p found outN hs:=by
  rcases hh with ⟨e,e'⟩|⟨e,e'⟩
  ·rw[e,e'];exact h.now
  ·rw[e];exact⟨fun b hb=>by simp at hb,trivial⟩
 have hre:∀ b∈hs,∃ E S d m,rest.map (·.e.w)=E++S∧Reach p b v (l++E) d (m+1)∧found+d≤outN:=fun b hb=>by
  have self:∃ E S d m,rest.map (·.e.w)=E++S∧Reach p t.e.w v (l++E) d (m+1)∧found+d≤outN:=⟨[],_,0,0,rfl,.on (.refl _) hs1,by omega⟩
  rcases hh with ⟨e,e'⟩|⟨e,_⟩
  ·rw[e]at hb
   rcases List.mem_cons.1 hb with e|e
   ·rw[e];exact self
   ·obtain⟨E,S,d,m,r1,r2,r3,r4⟩:=h.reach 0 t rfl b e
    exact⟨E,S,d,m+1,r1,.on r3 hs1,by omega⟩
  ·rw[e]at hb
   rw[List.mem_singleton.1 hb];exact self
 let gh:Way→Ghost:=fun v=>if v.at_=t.e.w.at_ then⟨⟨v,hs.length,found⟩,hs⟩ else⟨⟨v,0,outN⟩,[]⟩
 have hgh:∀ v,(gh v).e.w=v:=fun v=>by simp only[gh];split<;>rfl
 have hghe:∀ v,(gh v).e=if v.at_=t.e.w.at_ then⟨v,hs.length,found⟩ else⟨v,0,outN⟩:=fun v=>by simp only[gh];split<;>rfl
 have hghs:∀ v,(gh v).hs=hs∧(gh v).e.found=found∨(gh v).hs=[]:=fun v=>by
  simp only[gh];split
  ·exact .inl ⟨rfl,rfl⟩
  ·exact .inr rfl
 have hpc:=hcl t.e.w (v::l) hat.1 hs1
 refine⟨gh v,l.map gh++rest,⟨fun g hg=>?_,fun g hg=>?_,fun g hg=>?_,fun i g hg b hb=>?_⟩,?_⟩
 ·have hcase:g∈(v::l).map gh∨g∈rest:=by simpa [or_assoc] using hg
  rcases hcase with hg|hg
  ·obtain⟨u,_,rfl⟩:=List.mem_map.1 hg
   simp only[gh];split
   ·exact⟨rfl,hf⟩
   ·exact⟨rfl,Nat.le_refl _⟩
  ·exact h.idle g (List.mem_cons_of_mem _ hg)
 ·have hcase:g∈(v::l).map gh∨g∈rest:=by simpa [or_assoc] using hg
  rcases hcase with hg|hg
  ·obtain⟨u,hu,rfl⟩:=List.mem_map.1 hg
   refine⟨by rw[hgh];exact hpc u hu,?_⟩
   simp only[gh];split
   ·rename_i e
    intro b hb
    rw[e];exact hhs b hb
   ·intro b hb;simp at hb
  ·exact h.at_ g (List.mem_cons_of_mem _ hg)
 ·have hcase:g∈(v::l).map gh∨g∈rest:=by simpa [or_assoc] using hg
  rcases hcase with hg|hg
  ·obtain⟨u,_,rfl⟩:=List.mem_map.1 hg
   simp only[gh];split
   ·exact hch
   ·exact trivial
  ·exact h.chain g (List.mem_cons_of_mem _ hg)
 ·have hmap:(l.map gh++rest).map (·.e.w)=l++rest.map (·.e.w):=by
   rw[List.map_append,List.map_map]
   congr 1
   rw[show ((fun x:Ghost=>x.e.w) ∘ gh)=id from funext hgh,List.map_id]
  rw[hmap,hgh]
  by_cases hi:i < (v::l).length
  ·have hg':((v::l).map gh)[i]?=some g:=by
    rw[show gh v::(l.map gh++rest)=(v::l).map gh++rest from rfl,List.getElem?_append_left (by simpa using hi)]at hg
    exact hg
   obtain⟨u,_,rfl⟩:=List.mem_map.1 (List.mem_of_getElem? hg')
   rcases hghs u with ⟨e1,e2⟩|e1
   ·rw[e1]at hb
    obtain⟨E,S,d,m,r1,r2,r3⟩:=hre b hb
    exact⟨l++E,S,d,m,by rw[r1,List.append_assoc],by simp at hi ⊢;omega,r2,by rw[e2];exact r3⟩
   ·rw[e1]at hb;simp at hb
  ·rw[show gh v::(l.map gh++rest)=(v::l).map gh++rest from rfl,List.getElem?_append_right (by simp at hi ⊢;omega)]at hg
   simp only[List.length_map]at hg
   obtain⟨E,S,d,m,r1,r2,r3,r4⟩:=h.reach (i - (v::l).length+1) g (by simpa using hg) b hb
   refine⟨l++E,S,d,m+1,by rw[r1,List.append_assoc],?_,.on r3 hs1,r4⟩
   simp at hi r2 ⊢;omega
 ·simp only[List.map_cons,List.map_append,List.map_map,List.cons_append,List.cons.injEq]
  exact⟨hghe v,by congr 1;exact List.map_congr_left fun u _=>hghe u⟩
theorem Hist.pop {p:Prog1} {n outN:Nat} {t e:Ghost} {rest:List Ghost} (h:Hist p n outN t (e::rest)) {k:Nat} (hs:(stepW p t.e.w=.ways []∧k=0)∨(stepW p t.e.w=.done∧k=1)):Hist p n (outN+k) e rest:=by
 refine⟨fun g hg=>?_,fun g hg=>h.at_ g (List.mem_cons_of_mem _ hg),fun g hg=>(h.chain g (List.mem_cons_of_mem _ hg)).mono (by omega),fun i g hg b hb=>?_⟩
 ·have:=h.idle g (List.mem_cons_of_mem _ hg)
  exact⟨this.1,by omega⟩
 ·obtain⟨E,S,d,m,r1,r2,r3,r4⟩:=h.reach (i+1) g (by simpa using hg) b hb
  cases E with
  | nil=>simp at r2
  | cons x E=>
    simp only[List.map_cons,List.cons_append,List.cons.injEq]at r1
    obtain⟨rfl,r1⟩:=r1
    rcases hs with ⟨hs,rfl⟩|⟨hs,rfl⟩
    ·exact⟨E,S,d,m+1,r1,by simpa using r2,.pop r3 hs,r4⟩
    ·exact⟨E,S,d+1,m+1,r1,by simpa using r2,.found r3 hs,by omega⟩
end Go.Ev
namespace Go.Ev
attribute [local go_sem] W_block evAppend evBuild splice
section
attribute [local go_sem] evMakeSlice
open Go.Proofs Go.RowKit Go.IntWalk
set_option maxRecDepth 100000
set_option maxHeartbeats 4000000
theorem f62 (g:Prg) (hb:PrgB g) (t:List Int) (ht:t.length≤1000000000) (pos most fuel:Int) (H:List MB) :
  call Tryz.prog pol1 47 [.agg [.sl false (g.ins.map insAV),I g.caps,.bool g.runes],.sl false (t.map I),I pos,I most,I fuel] H=some (I (checkG g t.length pos most fuel),H):=by
 refine call_run Tryz.func47 rfl rfl rfl rfl rfl rfl (fun _=>rfl) (by simp[AV.plain,AV.plainL,plain_ints,plain_span,plain_ins,plain_prg]) (by simp[AV.plain,AV.plainL,plain_ints,plain_span,plain_ins,plain_prg]) ?_ H
 have hv:=f29 g hb
 unfold checkG
 by_cases h1:validG g=0
 ·rw[h1]at hv
  rw[if_neg (by simp[h1])]
  simp +contextual (disch:=omega) only[Tryz.f47,dd47,go_sem,simprocAttr,mu47,↓wrap_up,↓wrap_down,↓wrap_pred,↓wrap_sub_nat,hv]
  repeat' (first|intro _|apply And.intro|refine fzEq rfl (congrArg (AV.int .i64) ?_))
  all_goals (repeat' split)
  all_goals first|omega|(simp_all;done)|(simp_all;omega)
 ·rw[if_pos h1]
  simp +contextual (disch:=omega) only[Tryz.f47,dd47,go_sem,simprocAttr,mu47,↓wrap_up,↓wrap_down,↓wrap_pred,↓wrap_sub_nat,hv]
  exact fzEq rfl rfl
end
section
attribute [local go_sem] evMakeSlice
open Go.Proofs Go.RowKit Go.IntWalk
set_option maxRecDepth 100000
set_option maxHeartbeats 4000000
def assertI (n:Int) (b a:Option Int):Bool:=
 let w:=fun(o:Option Int)=>match o with
  | some x=>wordI x
  | none=>false
 let e:=fun(o:Option Int)=>match o with
  | some x=>x == 10
  | none=>true
 if n=0 then b.isNone else if n=1 then a.isNone else if n=2 then e b else if n=3 then e a else if n=4 then w b != w a else if n=5 then w b == w a else false
def befS (t:List Int) (k:Nat):Option Int:=if k=0 then none else t[k - 1]?
theorem f66 (n:Int) (t:List Int) (k:Nat) (hk:k≤t.length) (ht:t.length≤1000000000) (H:List MB):call Tryz.prog pol1 51 [I n,.sl false (t.map I),I k] H=some (.bool (assertI n (befS t k) t[k]?),H):=by
 refine call_run Tryz.func51 rfl rfl rfl rfl rfl rfl (fun _=>rfl) (by simp[AV.plain,AV.plainL,plain_ints,plain_span,plain_ins,plain_prg]) (by simp[AV.plain,AV.plainL,plain_ints,plain_span,plain_ins,plain_prg]) ?_ H
 rcases k with _|k
 ·rcases t with _|⟨x,t⟩
  ·simp +contextual (disch:=omega) only[Tryz.f51,dd51,go_sem,simprocAttr,mu51,↓wrap_up,↓wrap_down,↓wrap_pred,↓wrap_sub_nat,f118]
   repeat' (first|intro _|apply And.intro|(unfold dOk;kernel_rfl)|(show (_ && _)=true;kernel_rfl)|(show (_ || _)=true;kernel_rfl)|refine fzEq rfl (congrArg AV.bool ?_))
   all_goals (simp_all [assertI,befS])
  ·simp +contextual (disch:=omega) only[Tryz.f51,dd51,go_sem,simprocAttr,mu51,↓wrap_up,↓wrap_down,↓wrap_pred,↓wrap_sub_nat,f118]
   repeat' (first|intro _|apply And.intro|(unfold dOk;kernel_rfl)|(show (_ && _)=true;kernel_rfl)|(show (_ || _)=true;kernel_rfl)|refine fzEq rfl (congrArg AV.bool ?_))
   all_goals (simp_all [assertI,befS])
 ·obtain⟨p,hp⟩:∃ p,t[k]?=some p:=⟨_,List.getElem?_eq_getElem (by omega)⟩
  have hbf:befS t (k+1)=some p:=by simp[befS,hp]
  rw[hbf]
  by_cases he:k+1=t.length
  ·have hq:t[k+1]?=none:=List.getElem?_eq_none (by omega)
   rw[hq]
   simp +contextual (disch:=omega) only[Tryz.f51,dd51,go_sem,simprocAttr,mu51,↓wrap_up,↓wrap_down,↓wrap_pred,↓wrap_sub_nat,f118,hp]
   repeat' (first|intro _|apply And.intro|(unfold dOk;kernel_rfl)|(show (_ && _)=true;kernel_rfl)|(show (_ || _)=true;kernel_rfl)|refine fzEq rfl (congrArg AV.bool ?_))
   all_goals (simp_all [assertI])
  ·obtain⟨q,hq⟩:∃ q,t[k+1]?=some q:=⟨_,List.getElem?_eq_getElem (by omega)⟩
   rw[hq]
   simp +contextual (disch:=omega) only[Tryz.f51,dd51,go_sem,simprocAttr,mu51,↓wrap_up,↓wrap_down,↓wrap_pred,↓wrap_sub_nat,f118,hp,hq]
   repeat' (first|intro _|apply And.intro|(unfold dOk;kernel_rfl)|(show (_ && _)=true;kernel_rfl)|(show (_ || _)=true;kernel_rfl)|refine fzEq rfl (congrArg AV.bool ?_))
   all_goals first|(simp_all [assertI];done)|(simp_all [assertI];cases wordI p<;>cases wordI q<;>rfl)
end
section
attribute [local go_sem] evMakeSlice tySzE List.head?_drop Nat.mul_one sameAt_zero sameAt_two sameAt_three sameAt_four sameAt_five room_ok
open Go.Proofs Go.RowKit Go.IntWalk
set_option maxRecDepth 100000
set_option maxHeartbeats 4000000
abbrev M3:=Int×Int×List (Int×Int)
abbrev mA (m:M3):AV:=matAV m.1 m.2.1 m.2.2
theorem plain_mats (l:List M3):AV.plainL (l.map mA)=true:=by
 induction l with
 | nil=>rfl
 | cons a l ih=>simp[AV.plainL,ih,plain_mat]
theorem f67 (a b:M3) (ha:a.2.2.length≤1000) (hb:b.2.2.length≤1000) (H:List MB):call Tryz.prog pol1 23 [mA a,mA b] H=some (.bool (decide (a=b)),H):=by
 obtain⟨s,e,c⟩:=a
 obtain⟨s',e',c'⟩:=b
 simp only at ha hb
 refine call_run Tryz.func23 rfl rfl rfl rfl rfl rfl (fun _=>rfl) (by simp[AV.plain,AV.plainL,plain_mat]) rfl ?_ H
 by_cases h:s=s'∧e=e'∧c.length=c'.length
 ·obtain⟨rfl,rfl,hl⟩:=h
  have hl':(c.length:Int)=(c'.length:Int):=by rw[hl]
  simp +contextual (disch:=omega) only[Tryz.f23,dd23,go_sem,simprocAttr,mu23,↓wrap_up,↓wrap_down,↓wrap_pred,↓wrap_sub_nat,matAV,hl']
  refine W_count (M:=(mskOf (pol1.mask 23) (pol1.gc 23) (pol1.acts 23) 0 4)) rfl c.length (fun i=>(⟨45,[(5,I i),(3,.rf 1 1 0 0),(2,.rf 0 1 0 0)],[.row 3 [.agg [I s,I e,.sl false (c.map spanAV)]] 0,.row 3 [.agg [I s,I e,.sl false (c'.map spanAV)]] 0]⟩:St))
   (fun i=>∀ k,k < i→c[k]?=c'[k]?) ?_ ?_ (fun k h=>by omega) _ (by first|rfl|(simp[keepT,AV.underL,AV.under,MB.under,underL_plain,under_plain,underL_append,plain_ints,plain_span,plain_ins,plain_prg,-List.map_take,-List.map_replicate,-List.map_set];done))
  ·intro i hi hg
   obtain⟨p,hp⟩:∃ p,c[i]?=some p:=⟨_,List.getElem?_eq_getElem hi⟩
   obtain⟨q,hq⟩:∃ q,c'[i]?=some q:=⟨_,List.getElem?_eq_getElem (by omega)⟩
   by_cases hpq:p=q
   ·subst hpq
    simp +contextual (disch:=omega) only[Tryz.f23,dd23,go_sem,simprocAttr,mu23,↓wrap_up,↓wrap_down,↓wrap_pred,↓wrap_sub_nat,hp,hq,spanAV]
    refine⟨by unfold dOk;kernel_rfl,fun k hk=>?_,(by first|rfl|(simp[keepT,AV.underL,AV.under,MB.under,underL_plain,under_plain,underL_append,plain_ints,plain_span,plain_ins,plain_prg,-List.map_take,-List.map_replicate,-List.map_set];done))⟩
    rcases Nat.lt_or_ge k i with h|h
    ·exact hg k h
    ·obtain rfl:k=i:=by omega
     rw[hp,hq]
   ·have hne:¬ ((s,e,c):M3)=(s,e,c'):=fun he=>hpq (by
     cases he
     rw[hp]at hq
     exact Option.some.inj hq)
    have hb2:(p.1 == q.1 && p.2 == q.2)=false:=by
     rw[Bool.eq_false_iff]
     intro he
     simp at he
     exact hpq (Prod.ext he.1 he.2)
    rw[decide_eq_false hne]
    simp +contextual (disch:=omega) only[Tryz.f23,dd23,go_sem,simprocAttr,mu23,↓wrap_up,↓wrap_down,↓wrap_pred,↓wrap_sub_nat,hp,hq,spanAV,hb2]
    repeat' (first|intro _|apply And.intro|(unfold dOk;kernel_rfl)|exact St.beq_refl _|(show altO _ _ _ _=true;kernel_rfl)|(show (_ || _)=true;kernel_rfl)|(show (_ && _)=true;kernel_rfl))
    all_goals exact fzEq rfl rfl
  ·intro hg
   have hcc:c=c':=List.ext_getElem? fun k=>by
    rcases Nat.lt_or_ge k c.length with h|h
    ·exact hg k h
    ·rw[List.getElem?_eq_none h,List.getElem?_eq_none (by omega)]
   subst hcc
   simp +contextual (disch:=omega) only[Tryz.f23,dd23,go_sem,simprocAttr,mu23,↓wrap_up,↓wrap_down,↓wrap_pred,↓wrap_sub_nat]
   exact fzEq rfl (by simp)
 ·rw[decide_eq_false (fun e=>h (by cases e;exact⟨rfl,rfl,rfl⟩))]
  simp +contextual (disch:=omega) only[Tryz.f23,dd23,go_sem,simprocAttr,mu23,↓wrap_up,↓wrap_down,↓wrap_pred,↓wrap_sub_nat,matAV]
  repeat' (first|intro _|apply And.intro|(unfold dOk;kernel_rfl)|exact St.beq_refl _|(show altO _ _ _ _=true;kernel_rfl)|(show (_ || _)=true;kernel_rfl)|(show (_ && _)=true;kernel_rfl))
  all_goals exact fzEq rfl rfl
end
end Go.Ev
namespace Go.Ev
open Go.Proofs Go.RowKit Go.IntWalk
set_option maxRecDepth 100000
set_option maxHeartbeats 4000000
def progOf (g:Prg) (t:List Int):Prog1:=⟨fun pc=>g.ins[pc]?,fun s k=>match t[k]? with
 | some x=>hasSpan s x
 | none=>false,fun n k=>assertI n (befS t k) t[k]?⟩
structure Okay (g:Prg):Prop where
 len:1≤g.ins.length∧g.ins.length≤8192
 caps:0≤g.caps∧g.caps≤9
 ok:∀ i∈g.ins,okIns g.ins.length g.caps g.runes i=true
 last:lastGood g=true
theorem okay_of {g:Prg} (h:validG g=0):Okay g:=by
 unfold validG at h
 split at h
 ·cases h
 ·split at h
  ·cases h
  ·split at h
   ·rename_i h1 h2 h3
    simp only[Bool.and_eq_true,List.all_eq_true]at h3
    exact⟨by omega,by omega,h3.1,h3.2⟩
   ·cases h
theorem ok_facts {n:Nat} {c:Int} {r:Bool} {i:Ins} (h:okIns n c r i=true) :
  (i.op=2→(0≤i.x∧i.x < n)∧0≤i.y∧i.y < n)∧(i.op=3→0≤i.x∧i.x < n)∧(i.op=4→0≤i.n∧i.n < 2 * c):=by
 simp only[okIns,Bool.and_eq_true,Bool.or_eq_true,beq_iff_eq,decide_eq_true_eq]at h
 refine⟨fun e=>?_,fun e=>?_,fun e=>?_⟩<;>simp[e]at h<;>omega
theorem Okay.next {g:Prg} (h:Okay g) {pc:Nat} {i:Ins} (hi:g.ins[pc]?=some i) (ho:¬ (i.op=0∨i.op=2∨i.op=3)):pc+1 < g.ins.length:=by
 have hlt:=(List.getElem?_eq_some_iff.1 hi).1
 rcases Nat.lt_or_ge (pc+1) g.ins.length with hh|hh
 ·exact hh
 ·have hl:=h.last
  have:g.ins.length - 1=pc:=by omega
  simp only[lastGood,this,hi]at hl
  simp at hl
  omega
structure WayOk (g:Prg) (t:List Int) (N:Nat) (w:Way):Prop where
 pc:w.pc < g.ins.length
 at_:w.at_≤t.length
 regs:w.regs.length=N
theorem step_ok {g:Prg} (h:Okay g) {t:List Int} {N:Nat} {w:Way} (hw:WayOk g t N w) {l:List Way} (hs:stepW (progOf g t) w=.ways l):∀ v∈l,WayOk g t N v:=by
 obtain⟨h1,h2,h3⟩:=hw
 obtain⟨i,hi⟩:∃ i,g.ins[w.pc]?=some i:=⟨_,List.getElem?_eq_getElem h1⟩
 have hok:=h.ok i (List.mem_of_getElem? hi)
 have hf:=ok_facts hok
 have hop:=okIns_op hok
 have hp:(progOf g t).ins w.pc=some i:=hi
 simp only[stepW,hp]at hs
 split at hs
 ·cases hs
 ·rename_i n0
  split at hs
  ·rename_i e1
   split at hs
   ·rename_i hhas
    cases hs
    intro v hv
    rw[List.mem_singleton.1 hv]
    refine⟨h.next hi (by omega),?_,h3⟩
    simp only[progOf]at hhas
    cases ht:t[w.at_]? with
    | none=>rw[ht]at hhas;simp at hhas
    | some x=>
      have:=(List.getElem?_eq_some_iff.1 ht).1
      show w.at_+1≤t.length
      omega
   ·cases hs;intro v hv;simp at hv
  ·split at hs
   ·rename_i e2
    cases hs
    have:=hf.1 e2
    intro v hv
    rcases List.mem_cons.1 hv with e|e
    ·rw[e];exact⟨by show i.x.toNat < _;omega,h2,h3⟩
    ·rw[List.mem_singleton.1 e];exact⟨by show i.y.toNat < _;omega,h2,h3⟩
   ·split at hs
    ·rename_i e3
     cases hs
     have:=hf.2.1 e3
     intro v hv
     rw[List.mem_singleton.1 hv];exact⟨by show i.x.toNat < _;omega,h2,h3⟩
    ·split at hs
     ·rename_i e4
      cases hs
      intro v hv
      rw[List.mem_singleton.1 hv];exact⟨h.next hi (by omega),h2,by simp[h3]⟩
     ·split at hs
      ·cases hs
       intro v hv
       rw[List.mem_singleton.1 hv];exact⟨h.next hi (by omega),h2,h3⟩
      ·cases hs;intro v hv;simp at hv
def matOf (pos:Int) (n:Nat) (w:Way):M3:=(pos,w.at_,capsN w.regs n)
def resA (pos:Int) (n:Nat):Option (List Way)→AV
 | some out=>.tup [.sl false (out.map fun w=>mA (matOf pos n w)),I 0]
 | none=>.tup [.sl false [],I 11]
theorem plain_matOf (pos:Int) (n:Nat) (l:List Way):AV.plainL (l.map fun w=>mA (matOf pos n w))=true:=by
 rw[show (l.map fun w=>mA (matOf pos n w))=(l.map (matOf pos n)).map mA by simp]
 exact plain_mats _
theorem plain_matOf2 (pos:Int) (n:Nat) (l:List Way):AV.plainL (l.map fun w=>AV.agg [I pos,I w.at_,.sl false ((capsN w.regs n).map spanAV)])=true:=plain_matOf pos n l
theorem plain_resA (pos:Int) (n:Nat) (o:Option (List Way)):AV.plain (resA pos n o)=true:=by
 cases o with
 | none=>rfl
 | some out=>simp[resA,AV.plain,AV.plainL,plain_matOf]
theorem runW_nil {p:Prog1} {most:Int} {fuel:Nat} {out:List Way}:runW p most fuel [] out=some out:=by unfold runW;rfl
theorem runW_full {p:Prog1} {most:Int} {fuel:Nat} {w:Way} {rest out:List Way} (h:(out.length:Int)=most):runW p most fuel (w::rest) out=some out:=by
 unfold runW
 simp only[h,if_true]
abbrev wayA (w:Way):AV:=.agg [I w.pc,I w.at_,.sl false (w.regs.map I)]
def stA {α:Type} (f:α→AV) (l:List α):List AV:=l.reverse.map f
theorem stA_len {α:Type} (f:α→AV) (l:List α):(stA f l).length=l.length:=by simp[stA]
theorem stA_cons {α:Type} (f:α→AV) (w:α) (l:List α) (j:List AV):stA f (w::l)++j=stA f l++(f w::j):=by simp[stA]
theorem stA_one {α:Type} (f:α→AV) (w:α) (l:List α):stA f (w::l)=stA f l++[f w]:=by simp[stA]
theorem plain_ways (l:List Way):AV.plainL (stA wayA l)=true:=by
 rw[plainL_iff]
 intro x hx
 obtain⟨w,_,rfl⟩:=List.mem_map.1 hx
 simp[AV.plain,AV.plainL,plain_ints]
theorem get_top {A:List AV} {k:Nat} (h:A.length=k) (x:AV) (B:List AV):(A++(x::B))[k]?=some x:=by
 subst h;simp
theorem take_top {A:List AV} {k:Nat} (h:A.length=k) (B:List AV):(A++B).take k=A:=by
 subst h;simp
theorem drop_top {A:List AV} {k:Nat} (h:A.length=k) (x:AV) (B:List AV):(A++(x::B)).drop (k+1)=B:=by
 subst h;simp[List.drop_append]
theorem drop_top2 {A:List AV} {k:Nat} (h:A.length=k) (x y:AV) (B:List AV):(A++(x::y::B)).drop (k+2)=B:=by
 subst h;simp[List.drop_append]
end Go.Ev
namespace Go.Ev
attribute [local go_sem] W_block evAppend evBuild splice
section
attribute [local go_sem] evMakeSlice tySzE List.head?_drop Nat.mul_one sameAt_zero sameAt_two sameAt_three sameAt_four sameAt_five room_ok
open Go.Proofs Go.RowKit Go.IntWalk
set_option maxRecDepth 100000
set_option maxHeartbeats 8000000
structure S25 where
 todo:List Way
 junk:List AV
 out:List Way
 fuel:Nat
def T25 (g:Prg) (t:List Int) (pos:Int) (most:Int) (n:Nat) (s:S25):St:=
 (⟨173,[(16,.ms 4 3 (s.todo.length+s.junk.length) 0 s.todo.length),(15,.ms 3 3 s.out.length 0 s.out.length),(5,.rf 0 1 0 0),(4,I s.fuel),(3,I most),(2,I pos),(1,.sl false (t.map I))],[.row 3 [prgAV g] 0,
   .row 3 [.agg [I 0,I pos,.ms 2 1 (2 * n) 0 (2 * n)]] 0,.row 1 ((List.replicate (2 * n) (-1:Int)).map I) (2 * n),.row 3 (s.out.map fun w=>mA (matOf pos n w)) 0,.row 3 (stA wayA s.todo++s.junk) 0]⟩:St)
theorem f25 (g:Prg) (hb:PrgB g) (t:List Int) (pos most fuel:Int) (n:Nat) (hn:g.caps=n) (hc:checkG g t.length pos most fuel=0) (hf2:fuel≤1000000) (H:List MB) :
  call Tryz.prog pol1 22 [prgAV g,.sl false (t.map I),I pos,I most,I fuel] H =
   some (resA pos n (runW (progOf g t) most fuel.toNat [⟨0,pos.toNat,List.replicate (2 * n) (-1)⟩] []),H):=by
 have h62:=fun ht=>f62 g hb t ht pos most fuel
 rw[hc]at h62
 unfold checkG at hc
 split at hc
 ·rename_i h;exact absurd hc h
 rename_i hv
 split at hc
 ·cases hc
 rename_i hlen
 split at hc
 ·cases hc
 rename_i hrange
 split at hc
 ·cases hc
 rename_i hfuel
 have hv:validG g=0:=by simpa using hv
 have hok:=okay_of hv
 have h62:=h62 (by omega)
 have hcaps:=hok.caps
 have hglen:=hok.len
 obtain⟨p0,rfl⟩:∃ p0:Nat,pos=p0:=⟨pos.toNat,by omega⟩
 obtain⟨f0,rfl⟩:∃ f0:Nat,fuel=f0:=⟨fuel.toNat,by omega⟩
 simp only[Int.toNat_natCast]
 refine call_run Tryz.func22 rfl rfl rfl rfl rfl rfl (fun _=>rfl) (by simp[AV.plain,AV.plainL,plain_ints,plain_ins]) (plain_resA _ _ _) ?_ H
 generalize hR:runW (progOf g t) most f0 [⟨0,p0,List.replicate (2 * n) (-1)⟩] []=R
 rw[hn]at h62
 simp +contextual (disch:=omega) only[Tryz.f22,dd22,go_sem,simprocAttr,mu22,↓wrap_up,↓wrap_down,↓wrap_pred,↓wrap_sub_nat,h62,hn]
 clear h62
 refine W_count (M:=(mskOf (pol1.mask 22) (pol1.gc 22) (pol1.acts 22) 0 6)) rfl (2 * n) (fun i=>(⟨173,[(14,I i),(13,.rf 1 1 0 0),(5,.rf 0 1 0 0),(4,I f0),(3,I most),(2,I p0),(1,.sl false (t.map I))],[.row 3 [prgAV g] 0,.row 3 [.agg [I 0,I p0,.ms 2 1 i 0 i]] 0,.row 1 ((List.replicate i (-1:Int)).map I) 0]⟩:St))
  (fun i=>True) ?_ ?_ trivial _ (by first|rfl|(refine prep_to (n:=3) (m:=⟨some [14,13,5,4,3,2,1],some 3,[]⟩) rfl rfl ?_ ?_ ?_<;>first|rfl|(simp[keepT,AV.underL,AV.under,MB.under,underL_plain,under_plain,underL_append,plain_ints,plain_span,plain_ins,plain_prg,-List.map_take,-List.map_replicate,-List.map_set];done)|(simp[keepT,AV.underL,AV.under,MB.under,underL_plain,under_plain,underL_append,plain_ints,plain_span,plain_ins,plain_prg,-List.map_take,-List.map_replicate,-List.map_set];omega)))
 ·intro i hi _
  have hlen:(List.replicate i (-1:Int)).length=i:=by simp
  have hnx:(List.replicate (i+1) (-1:Int))=List.replicate i (-1)++[-1]:=List.replicate_succ'
  rw[hnx]
  generalize List.replicate i (-1:Int)=xs at *
  have htk:=take_map_len (f:=I) hlen
  have e2:(2:Int) * (n:Int)=((2 * n:Nat):Int):=by omega
  simp +contextual (disch:=omega) only[Tryz.f22,dd22,go_sem,simprocAttr,mu22,↓wrap_up,↓wrap_down,↓wrap_pred,↓wrap_sub_nat,hlen,htk,hn,e2]
  repeat' (first|intro _|apply And.intro|(unfold dOk;kernel_rfl)|exact St.beq_refl _|(show altO _ _ _ _=true;kernel_rfl)|(show (_ || _)=true;kernel_rfl)|(show (_ && _)=true;kernel_rfl))
  exact(by first|rfl|(refine prep_to (n:=3) (m:=⟨some [14,13,5,4,3,2,1],some 3,[]⟩) rfl rfl ?_ ?_ ?_<;>first|rfl|(simp[keepT,AV.underL,AV.under,MB.under,underL_plain,under_plain,underL_append,plain_ints,plain_span,plain_ins,plain_prg,-List.map_take,-List.map_replicate,-List.map_set];done)|(simp[keepT,AV.underL,AV.under,MB.under,underL_plain,under_plain,underL_append,plain_ints,plain_span,plain_ins,plain_prg,-List.map_take,-List.map_replicate,-List.map_set];omega)))
 ·intro _
  have hlen:(List.replicate (2 * n) (-1:Int)).length=2 * n:=by simp
  have e2:(2:Int) * (n:Int)=((2 * n:Nat):Int):=by omega
  have hz:∀(b0 b1 b3 b4:MB),fzs [.agg [I 0,I p0,.ms 2 1 (2 * n) 0 (2 * n)]] [b0,b1,.row 1 ((List.replicate (2 * n) (-1:Int)).map I) 0,b3,b4] =
    some ([.agg [I 0,I p0,.sl false ((List.replicate (2 * n) (-1:Int)).map I)]],[b0,b1,.row 1 ((List.replicate (2 * n) (-1:Int)).map I) (2 * n),b3,b4]):=by
   intro b0 b1 b3 b4
   simp only[fzs,fzL,fzA_agg,fzA_int]
   rw[fzA_row (els:=(List.replicate (2 * n) (-1:Int)).map I) (k:=1) (z:=0) rfl (by simp) (plain_ints _)]
   simp[mark,getRow]
  simp +contextual (disch:=omega) only[Tryz.f22,dd22,go_sem,simprocAttr,mu22,↓wrap_up,↓wrap_down,↓wrap_pred,↓wrap_sub_nat,hlen,hn,e2,hz,AV.beqL_refl]
  refine W_for (M:=(mskOf (pol1.mask 22) (pol1.gc 22) (pol1.acts 22) 0 11)) rfl (T25 g t p0 most n) (fun s=>R=runW (progOf g t) most s.fuel s.todo s.out∧(∀ w∈s.todo,WayOk g t (2 * n) w)∧s.fuel+s.out.length≤1000000∧s.todo.length+s.fuel≤1000002∧AV.plainL s.junk=true)
   (fun s=>s.fuel) ⟨[⟨0,p0,List.replicate (2 * n) (-1)⟩],[],[],f0⟩ ?_ ⟨hR.symm,?_,?_,?_,rfl⟩ _ ?_
  ·rintro⟨todo,junk,out,fuel⟩ ⟨hr,hw,ho,hl,hj⟩
   simp only at hr hw ho hl hj
   simp only[T25]
   have fin:∀(H':List MB),getRow H' 3=some (3,out.map fun w=>mA (matOf p0 n w),0)→R=some out→∃ H2,fz (.tup [.ms 3 3 out.length 0 out.length,I 0]) H' = some (resA p0 n R,H2):=by
    intro H' h1 h2
    rw[h2]
    exact fz_tup_row h1 (by simp) (plain_matOf _ _ _)
   cases todo with
   | nil=>
     rw[runW_nil]at hr
     simp only[stA,List.reverse_nil,List.map_nil,List.length_nil]
     simp +contextual (disch:=omega) only[Tryz.f22,dd22,go_sem,simprocAttr,mu22,↓wrap_up,↓wrap_down,↓wrap_pred,↓wrap_sub_nat]
     exact fin _ rfl hr
   | cons w rest=>
     have hww:=hw w (List.mem_cons_self ..)
     have hrest:∀ v∈rest,WayOk g t (2 * n) v:=fun v hv=>hw v (List.mem_cons_of_mem _ hv)
     have hls:=stA_len wayA rest
     have hpl:=plain_ways rest
     rw[stA_cons]
     simp only[List.length_cons]at hl ⊢
     by_cases hm:(out.length:Int)=most
     ·rw[runW_full hm]at hr
      simp +contextual (disch:=omega) only[Tryz.f22,dd22,go_sem,simprocAttr,mu22,↓wrap_up,↓wrap_down,↓wrap_pred,↓wrap_sub_nat]
      exact fin _ rfl hr
     ·obtain⟨⟨op,x,y,nn,set⟩,hi⟩:∃ i,g.ins[w.pc]?=some i:=⟨_,List.getElem?_eq_getElem hww.pc⟩
      have hpi:(progOf g t).ins w.pc=some ⟨op,x,y,nn,set⟩:=hi
      have hok1:=hok.ok _ (List.mem_of_getElem? hi)
      have hop:=okIns_op hok1
      have hff:=ok_facts hok1
      have hnx:=hok.next hi
      have hset:=hb.2 _ (List.mem_of_getElem? hi)
      have hstep:=fun l=>step_ok hok hww (l:=l)
      have htop:=get_top hls (wayA w) junk
      have htk:=fun B=>take_top hls B
      have hd1:=fun x B=>drop_top hls x B
      have hd2:=fun x y B=>drop_top2 hls x y B
      have htot:(stA wayA rest).length+(junk.length+1)=rest.length+1+junk.length:=by omega
      have hwp:=hww.pc
      have hwa:=hww.at_
      simp only at hop hff hnx hset
      cases fuel with
      | zero=>
        rw[runW_zero hm]at hr
        subst hr
        simp +contextual (disch:=omega) only[Tryz.f22,dd22,go_sem,simprocAttr,mu22,↓wrap_up,↓wrap_down,↓wrap_pred,↓wrap_sub_nat]
        exact⟨_,rfl⟩
      | succ fuel=>
        rw[runW_step hm]at hr
        rcases hop with rfl|rfl|rfl|rfl|rfl|rfl
        ·have hs:stepW (progOf g t) w=.done:=by simp[stepW,hpi]
         rw[hs]at hr
         have h63:=f63 w.pc w.at_ p0 w.regs n hww.regs (by omega)
         simp only[matAV]at h63
         have hto:List.take out.length (out.map fun w=>mA (matOf p0 n w))=(out.map fun w=>mA (matOf p0 n w)):=take_map_len rfl
         simp +contextual (disch:=omega) only[Tryz.f22,dd22,go_sem,simprocAttr,mu22,↓wrap_up,↓wrap_down,↓wrap_pred,↓wrap_sub_nat,hi,htop,h63,hto,Nat.add_sub_cancel,Nat.sub_zero,htot]
         repeat' (first|intro _|apply And.intro|(unfold dOk;kernel_rfl)|exact St.beq_refl _|(show altO _ _ _ _=true;kernel_rfl)|(show (_ || _)=true;kernel_rfl)|(show (_ && _)=true;kernel_rfl))
         refine⟨⟨rest,wayA w::junk,out++[w],fuel⟩,⟨hr,hrest,by simp;omega,by simp only[];omega,by simp[AV.plainL,AV.plain,plain_ints,hj]⟩,Nat.lt_succ_self _,?_⟩
         exact(by first|rfl|(refine prep_to (n:=5) (m:=⟨some [16,15,5,4,3,2,1],some 5,[]⟩) rfl rfl ?_ ?_ ?_<;>first|rfl|(simp[keepT,AV.underL,AV.under,MB.under,underL_plain,under_plain,underL_append,plain_ints,plain_span,plain_ins,plain_prg,-List.map_take,-List.map_replicate,-List.map_set,T25,hj,hpl,plain_matOf2,matOf,matAV];done)|(simp[keepT,AV.underL,AV.under,MB.under,underL_plain,under_plain,underL_append,plain_ints,plain_span,plain_ins,plain_prg,-List.map_take,-List.map_replicate,-List.map_set,T25,hj,hpl,plain_matOf2,matOf,matAV];omega)))
        ·-- one symbol
         cases htx:t[w.at_]? with
         | none=>
           have hle:=List.getElem?_eq_none_iff.1 htx
           have hh:(progOf g t).has set w.at_=false:=by simp[progOf,htx]
           have hs:stepW (progOf g t) w=.ways []:=by simp[stepW,hpi,hh]
           rw[hs]at hr
           simp +contextual (disch:=omega) only[Tryz.f22,dd22,go_sem,simprocAttr,mu22,↓wrap_up,↓wrap_down,↓wrap_pred,↓wrap_sub_nat,hi,htop,Nat.add_sub_cancel,Nat.sub_zero,htot]
           repeat' (first|intro _|apply And.intro|(unfold dOk;kernel_rfl)|exact St.beq_refl _|(show altO _ _ _ _=true;kernel_rfl)|(show (_ || _)=true;kernel_rfl)|(show (_ && _)=true;kernel_rfl))
           refine⟨⟨rest,wayA w::junk,out,fuel⟩,⟨hr,hrest,by simp only[];omega,by simp only[];omega,by simp[AV.plainL,AV.plain,plain_ints,hj]⟩,Nat.lt_succ_self _,?_⟩
           exact(by first|rfl|(refine prep_to (n:=5) (m:=⟨some [16,15,5,4,3,2,1],some 5,[]⟩) rfl rfl ?_ ?_ ?_<;>first|rfl|(simp[keepT,AV.underL,AV.under,MB.under,underL_plain,under_plain,underL_append,plain_ints,plain_span,plain_ins,plain_prg,-List.map_take,-List.map_replicate,-List.map_set,T25,hj,hpl,plain_matOf2,matOf,matAV];done)|(simp[keepT,AV.underL,AV.under,MB.under,underL_plain,under_plain,underL_append,plain_ints,plain_span,plain_ins,plain_prg,-List.map_take,-List.map_replicate,-List.map_set,T25,hj,hpl,plain_matOf2,matOf,matAV];omega)))
         | some sy=>
           have hlt:=(List.getElem?_eq_some_iff.1 htx).1
           have h64:=f64 set sy hset
           cases hhas:hasSpan set sy with
           | false=>
             rw[hhas]at h64
             have hh:(progOf g t).has set w.at_=false:=by simp[progOf,htx,hhas]
             have hs:stepW (progOf g t) w=.ways []:=by simp[stepW,hpi,hh]
             rw[hs]at hr
             simp +contextual (disch:=omega) only[Tryz.f22,dd22,go_sem,simprocAttr,mu22,↓wrap_up,↓wrap_down,↓wrap_pred,↓wrap_sub_nat,hi,htop,Nat.add_sub_cancel,Nat.sub_zero,htot,h64,htx]
             repeat' (first|intro _|apply And.intro|(unfold dOk;kernel_rfl)|exact St.beq_refl _|(show altO _ _ _ _=true;kernel_rfl)|(show (_ || _)=true;kernel_rfl)|(show (_ && _)=true;kernel_rfl))
             refine⟨⟨rest,wayA w::junk,out,fuel⟩,⟨hr,hrest,by simp only[];omega,by simp only[];omega,by simp[AV.plainL,AV.plain,plain_ints,hj]⟩,Nat.lt_succ_self _,?_⟩
             exact(by first|rfl|(refine prep_to (n:=5) (m:=⟨some [16,15,5,4,3,2,1],some 5,[]⟩) rfl rfl ?_ ?_ ?_<;>first|rfl|(simp[keepT,AV.underL,AV.under,MB.under,underL_plain,under_plain,underL_append,plain_ints,plain_span,plain_ins,plain_prg,-List.map_take,-List.map_replicate,-List.map_set,T25,hj,hpl,plain_matOf2,matOf,matAV];done)|(simp[keepT,AV.underL,AV.under,MB.under,underL_plain,under_plain,underL_append,plain_ints,plain_span,plain_ins,plain_prg,-List.map_take,-List.map_replicate,-List.map_set,T25,hj,hpl,plain_matOf2,matOf,matAV];omega)))
           | true=>
             rw[hhas]at h64
             have hh:(progOf g t).has set w.at_=true:=by simp[progOf,htx,hhas]
             have hs:stepW (progOf g t) w=.ways [⟨w.pc+1,w.at_+1,w.regs⟩]:=by simp[stepW,hpi,hh]
             have hst:=hstep _ hs
             rw[hs]at hr
             simp +contextual (disch:=omega) only[Tryz.f22,dd22,go_sem,simprocAttr,mu22,↓wrap_up,↓wrap_down,↓wrap_pred,↓wrap_sub_nat,hi,htop,Nat.add_sub_cancel,Nat.sub_zero,htot,h64,htx,htk,hd1]
             repeat' (first|intro _|apply And.intro|(unfold dOk;kernel_rfl)|exact St.beq_refl _|(show altO _ _ _ _=true;kernel_rfl)|(show (_ || _)=true;kernel_rfl)|(show (_ && _)=true;kernel_rfl))
             refine⟨⟨⟨w.pc+1,w.at_+1,w.regs⟩::rest,junk,out,fuel⟩,⟨hr,fun v hv=>?_,by simp only[];omega,by simp;omega,hj⟩,Nat.lt_succ_self _,?_⟩
             ·rcases List.mem_cons.1 hv with e|e
              ·rw[e];exact hst _ (List.mem_cons_self ..)
              ·exact hrest v e
             ·exact(by first|rfl|(refine prep_to (n:=5) (m:=⟨some [16,15,5,4,3,2,1],some 5,[]⟩) rfl rfl ?_ ?_ ?_<;>first|rfl|(simp[keepT,AV.underL,AV.under,MB.under,underL_plain,under_plain,underL_append,plain_ints,plain_span,plain_ins,plain_prg,-List.map_take,-List.map_replicate,-List.map_set,T25,hj,hpl,plain_matOf2,matOf,matAV,stA_one];done)|(simp[keepT,AV.underL,AV.under,MB.under,underL_plain,under_plain,underL_append,plain_ints,plain_span,plain_ins,plain_prg,-List.map_take,-List.map_replicate,-List.map_set,T25,hj,hpl,plain_matOf2,matOf,matAV,stA_one];omega)))
        ·-- two ways
         have hs:stepW (progOf g t) w=.ways [⟨x.toNat,w.at_,w.regs⟩,⟨y.toNat,w.at_,w.regs⟩]:=by simp[stepW,hpi]
         have hst:=hstep _ hs
         have hxy:=hff.1 rfl
         obtain⟨x',rfl⟩:∃ x':Nat,x=x':=⟨x.toNat,by omega⟩
         obtain⟨y',rfl⟩:∃ y':Nat,y=y':=⟨y.toNat,by omega⟩
         simp only[Int.toNat_natCast]at hs hst hr
         rw[hs]at hr
         cases junk with
         | nil=>
           have htot0:(stA wayA rest).length+1=rest.length+1:=by omega
           simp +contextual (disch:=omega) only[Tryz.f22,dd22,go_sem,simprocAttr,mu22,↓wrap_up,↓wrap_down,↓wrap_pred,↓wrap_sub_nat,hi,htop,Nat.add_sub_cancel,Nat.sub_zero,htot0,htk,hd1,hd2]
           repeat' (first|intro _|apply And.intro|(unfold dOk;kernel_rfl)|exact St.beq_refl _|(show altO _ _ _ _=true;kernel_rfl)|(show (_ || _)=true;kernel_rfl)|(show (_ && _)=true;kernel_rfl))
           refine⟨⟨⟨x',w.at_,w.regs⟩::⟨y',w.at_,w.regs⟩::rest,[],out,fuel⟩,⟨hr,fun v hv=>?_,by simp only[];omega,by simp;omega,rfl⟩,Nat.lt_succ_self _,?_⟩
           ·rcases List.mem_cons.1 hv with e|hv
            ·rw[e];exact hst _ (List.mem_cons_self ..)
            ·rcases List.mem_cons.1 hv with e|e
             ·rw[e];exact hst _ (by simp)
             ·exact hrest v e
           ·exact(by first|rfl|(refine prep_to (n:=5) (m:=⟨some [16,15,5,4,3,2,1],some 5,[]⟩) rfl rfl ?_ ?_ ?_<;>first|rfl|(simp[keepT,AV.underL,AV.under,MB.under,underL_plain,under_plain,underL_append,plain_ints,plain_span,plain_ins,plain_prg,-List.map_take,-List.map_replicate,-List.map_set,T25,hj,hpl,plain_matOf2,matOf,matAV,stA_one];done)|(simp[keepT,AV.underL,AV.under,MB.under,underL_plain,under_plain,underL_append,plain_ints,plain_span,plain_ins,plain_prg,-List.map_take,-List.map_replicate,-List.map_set,T25,hj,hpl,plain_matOf2,matOf,matAV,stA_one];omega)))
         | cons j0 junk=>
           simp only[AV.plainL,Bool.and_eq_true]at hj
           have hj:=hj.2
           have htot2:(stA wayA rest).length+(junk.length+1+1)=rest.length+1+(junk.length+1):=by omega
           simp only[List.length_cons]
           simp +contextual (disch:=omega) only[Tryz.f22,dd22,go_sem,simprocAttr,mu22,↓wrap_up,↓wrap_down,↓wrap_pred,↓wrap_sub_nat,hi,htop,Nat.add_sub_cancel,Nat.sub_zero,htot2,htk,hd1,hd2]
           repeat' (first|intro _|apply And.intro|(unfold dOk;kernel_rfl)|exact St.beq_refl _|(show altO _ _ _ _=true;kernel_rfl)|(show (_ || _)=true;kernel_rfl)|(show (_ && _)=true;kernel_rfl))
           refine⟨⟨⟨x',w.at_,w.regs⟩::⟨y',w.at_,w.regs⟩::rest,junk,out,fuel⟩,⟨hr,fun v hv=>?_,by simp only[];omega,by simp;omega,hj⟩,Nat.lt_succ_self _,?_⟩
           ·rcases List.mem_cons.1 hv with e|hv
            ·rw[e];exact hst _ (List.mem_cons_self ..)
            ·rcases List.mem_cons.1 hv with e|e
             ·rw[e];exact hst _ (by simp)
             ·exact hrest v e
           ·exact(by first|rfl|(refine prep_to (n:=5) (m:=⟨some [16,15,5,4,3,2,1],some 5,[]⟩) rfl rfl ?_ ?_ ?_<;>first|rfl|(simp[keepT,AV.underL,AV.under,MB.under,underL_plain,under_plain,underL_append,plain_ints,plain_span,plain_ins,plain_prg,-List.map_take,-List.map_replicate,-List.map_set,T25,hj,hpl,plain_matOf2,matOf,matAV,stA_one];done)|(simp[keepT,AV.underL,AV.under,MB.under,underL_plain,under_plain,underL_append,plain_ints,plain_span,plain_ins,plain_prg,-List.map_take,-List.map_replicate,-List.map_set,T25,hj,hpl,plain_matOf2,matOf,matAV,stA_one];omega)))
        ·-- a jump
         have hs:stepW (progOf g t) w=.ways [⟨x.toNat,w.at_,w.regs⟩]:=by simp[stepW,hpi]
         have hst:=hstep _ hs
         have hxy:=hff.2.1 rfl
         obtain⟨x',rfl⟩:∃ x':Nat,x=x':=⟨x.toNat,by omega⟩
         simp only[Int.toNat_natCast]at hs hst hr
         rw[hs]at hr
         simp +contextual (disch:=omega) only[Tryz.f22,dd22,go_sem,simprocAttr,mu22,↓wrap_up,↓wrap_down,↓wrap_pred,↓wrap_sub_nat,hi,htop,Nat.add_sub_cancel,Nat.sub_zero,htot,htk,hd1]
         repeat' (first|intro _|apply And.intro|(unfold dOk;kernel_rfl)|exact St.beq_refl _|(show altO _ _ _ _=true;kernel_rfl)|(show (_ || _)=true;kernel_rfl)|(show (_ && _)=true;kernel_rfl))
         refine⟨⟨⟨x',w.at_,w.regs⟩::rest,junk,out,fuel⟩,⟨hr,fun v hv=>?_,by simp only[];omega,by simp;omega,hj⟩,Nat.lt_succ_self _,?_⟩
         ·rcases List.mem_cons.1 hv with e|e
          ·rw[e];exact hst _ (List.mem_cons_self ..)
          ·exact hrest v e
         ·exact(by first|rfl|(refine prep_to (n:=5) (m:=⟨some [16,15,5,4,3,2,1],some 5,[]⟩) rfl rfl ?_ ?_ ?_<;>first|rfl|(simp[keepT,AV.underL,AV.under,MB.under,underL_plain,under_plain,underL_append,plain_ints,plain_span,plain_ins,plain_prg,-List.map_take,-List.map_replicate,-List.map_set,T25,hj,hpl,plain_matOf2,matOf,matAV,stA_one];done)|(simp[keepT,AV.underL,AV.under,MB.under,underL_plain,under_plain,underL_append,plain_ints,plain_span,plain_ins,plain_prg,-List.map_take,-List.map_replicate,-List.map_set,T25,hj,hpl,plain_matOf2,matOf,matAV,stA_one];omega)))
        ·-- a register
         have hs:stepW (progOf g t) w=.ways [⟨w.pc+1,w.at_,w.regs.set nn.toNat w.at_⟩]:=by simp[stepW,hpi]
         have hst:=hstep _ hs
         have hxy:=hff.2.2 rfl
         obtain⟨n',rfl⟩:∃ n':Nat,nn=n':=⟨nn.toNat,by omega⟩
         simp only[Int.toNat_natCast]at hs hst hr
         rw[hs]at hr
         have h65:=f65 w.regs n' w.at_ (by rw[hww.regs];omega) (by rw[hww.regs];omega)
         simp +contextual (disch:=omega) only[Tryz.f22,dd22,go_sem,simprocAttr,mu22,↓wrap_up,↓wrap_down,↓wrap_pred,↓wrap_sub_nat,hi,htop,Nat.add_sub_cancel,Nat.sub_zero,htot,htk,hd1,h65]
         repeat' (first|intro _|apply And.intro|(unfold dOk;kernel_rfl)|exact St.beq_refl _|(show altO _ _ _ _=true;kernel_rfl)|(show (_ || _)=true;kernel_rfl)|(show (_ && _)=true;kernel_rfl))
         refine⟨⟨⟨w.pc+1,w.at_,w.regs.set n' w.at_⟩::rest,junk,out,fuel⟩,⟨hr,fun v hv=>?_,by simp only[];omega,by simp;omega,hj⟩,Nat.lt_succ_self _,?_⟩
         ·rcases List.mem_cons.1 hv with e|e
          ·rw[e];exact hst _ (List.mem_cons_self ..)
          ·exact hrest v e
         ·exact(by first|rfl|(refine prep_to (n:=5) (m:=⟨some [16,15,5,4,3,2,1],some 5,[]⟩) rfl rfl ?_ ?_ ?_<;>first|rfl|(simp[keepT,AV.underL,AV.under,MB.under,underL_plain,under_plain,underL_append,plain_ints,plain_span,plain_ins,plain_prg,-List.map_take,-List.map_replicate,-List.map_set,T25,hj,hpl,plain_matOf2,matOf,matAV,stA_one];done)|(simp[keepT,AV.underL,AV.under,MB.under,underL_plain,under_plain,underL_append,plain_ints,plain_span,plain_ins,plain_prg,-List.map_take,-List.map_replicate,-List.map_set,T25,hj,hpl,plain_matOf2,matOf,matAV,stA_one];omega)))
        ·-- an assertion
         have h66:=f66 nn t w.at_ hww.at_ (by omega)
         cases hh2:assertI nn (befS t w.at_) t[w.at_]? with
         | false=>
           rw[hh2]at h66
           have hh:(progOf g t).holds nn w.at_=false:=hh2
           have hs:stepW (progOf g t) w=.ways []:=by simp[stepW,hpi,hh]
           rw[hs]at hr
           simp +contextual (disch:=omega) only[Tryz.f22,dd22,go_sem,simprocAttr,mu22,↓wrap_up,↓wrap_down,↓wrap_pred,↓wrap_sub_nat,hi,htop,Nat.add_sub_cancel,Nat.sub_zero,htot,h66]
           repeat' (first|intro _|apply And.intro|(unfold dOk;kernel_rfl)|exact St.beq_refl _|(show altO _ _ _ _=true;kernel_rfl)|(show (_ || _)=true;kernel_rfl)|(show (_ && _)=true;kernel_rfl))
           refine⟨⟨rest,wayA w::junk,out,fuel⟩,⟨hr,hrest,by simp only[];omega,by simp only[];omega,by simp[AV.plainL,AV.plain,plain_ints,hj]⟩,Nat.lt_succ_self _,?_⟩
           exact(by first|rfl|(refine prep_to (n:=5) (m:=⟨some [16,15,5,4,3,2,1],some 5,[]⟩) rfl rfl ?_ ?_ ?_<;>first|rfl|(simp[keepT,AV.underL,AV.under,MB.under,underL_plain,under_plain,underL_append,plain_ints,plain_span,plain_ins,plain_prg,-List.map_take,-List.map_replicate,-List.map_set,T25,hj,hpl,plain_matOf2,matOf,matAV,stA_one];done)|(simp[keepT,AV.underL,AV.under,MB.under,underL_plain,under_plain,underL_append,plain_ints,plain_span,plain_ins,plain_prg,-List.map_take,-List.map_replicate,-List.map_set,T25,hj,hpl,plain_matOf2,matOf,matAV,stA_one];omega)))
         | true=>
           rw[hh2]at h66
           have hh:(progOf g t).holds nn w.at_=true:=hh2
           have hs:stepW (progOf g t) w=.ways [⟨w.pc+1,w.at_,w.regs⟩]:=by simp[stepW,hpi,hh]
           have hst:=hstep _ hs
           rw[hs]at hr
           simp +contextual (disch:=omega) only[Tryz.f22,dd22,go_sem,simprocAttr,mu22,↓wrap_up,↓wrap_down,↓wrap_pred,↓wrap_sub_nat,hi,htop,Nat.add_sub_cancel,Nat.sub_zero,htot,htk,hd1,h66]
           repeat' (first|intro _|apply And.intro|(unfold dOk;kernel_rfl)|exact St.beq_refl _|(show altO _ _ _ _=true;kernel_rfl)|(show (_ || _)=true;kernel_rfl)|(show (_ && _)=true;kernel_rfl))
           refine⟨⟨⟨w.pc+1,w.at_,w.regs⟩::rest,junk,out,fuel⟩,⟨hr,fun v hv=>?_,by simp only[];omega,by simp;omega,hj⟩,Nat.lt_succ_self _,?_⟩
           ·rcases List.mem_cons.1 hv with e|e
            ·rw[e];exact hst _ (List.mem_cons_self ..)
            ·exact hrest v e
           ·exact(by first|rfl|(refine prep_to (n:=5) (m:=⟨some [16,15,5,4,3,2,1],some 5,[]⟩) rfl rfl ?_ ?_ ?_<;>first|rfl|(simp[keepT,AV.underL,AV.under,MB.under,underL_plain,under_plain,underL_append,plain_ints,plain_span,plain_ins,plain_prg,-List.map_take,-List.map_replicate,-List.map_set,T25,hj,hpl,plain_matOf2,matOf,matAV,stA_one];done)|(simp[keepT,AV.underL,AV.under,MB.under,underL_plain,under_plain,underL_append,plain_ints,plain_span,plain_ins,plain_prg,-List.map_take,-List.map_replicate,-List.map_set,T25,hj,hpl,plain_matOf2,matOf,matAV,stA_one];omega)))
  ·intro w hw
   rw[List.mem_singleton.1 hw]
   exact⟨by show 0 < _;omega,by show p0≤_;omega,hlen⟩
  ·simp;omega
  ·simp;omega
  ·exact(by first|rfl|(refine prep_to (n:=5) (m:=⟨some [16,15,5,4,3,2,1],some 5,[]⟩) rfl rfl ?_ ?_ ?_<;>first|rfl|(simp[keepT,AV.underL,AV.under,MB.under,underL_plain,under_plain,underL_append,plain_ints,plain_span,plain_ins,plain_prg,-List.map_take,-List.map_replicate,-List.map_set,T25,stA];done)|(simp[keepT,AV.underL,AV.under,MB.under,underL_plain,under_plain,underL_append,plain_ints,plain_span,plain_ins,plain_prg,-List.map_take,-List.map_replicate,-List.map_set,T25,stA];omega)))
end
def Way.same (n:Nat) (a b:Way):Prop:=a.pc=b.pc∧a.at_=b.at_∧a.regs.take (2 * n)=b.regs.take (2 * n)
theorem caps_same {n:Nat} {a b:Way} (pos:Int) (h:a.same n b):matOf pos n a=matOf pos n b:=by
 obtain⟨h1,h2,h3⟩:=h
 have hg:∀ k,k < 2 * n→a.regs.getD k 0=b.regs.getD k 0:=fun k hk=>by
  have e:∀ l:List Int,(l.take (2 * n))[k]?=l[k]?:=fun l=>by rw[List.getElem?_take,if_pos hk]
  rw[List.getD_eq_getElem?_getD,List.getD_eq_getElem?_getD,← e a.regs,← e b.regs,h3]
 unfold matOf capsN
 rw[h2]
 congr 2
 apply List.map_congr_left
 intro k hk
 have:=List.mem_range.1 hk
 rw[hg (2 * k) (by omega),hg (2 * k+1) (by omega)]
def matsOf (pos:Int) (n:Nat) (o:Option (List Way)):Option (List M3):=o.map fun l=>l.map (matOf pos n)
end Go.Ev
namespace Go.Ev
attribute [local go_sem] W_block evAppend evBuild splice
section
attribute [local go_sem] evMakeSlice tySzE List.head?_drop Nat.mul_one sameAt_zero sameAt_two sameAt_three sameAt_four sameAt_five room_ok
open Go.Proofs Go.RowKit Go.IntWalk
set_option maxRecDepth 100000
set_option maxHeartbeats 8000000
theorem f25e (g:Prg) (hb:PrgB g) (t:List Int) (ht:t.length≤1000000000) (pos most fuel:Int) (he:checkG g t.length pos most fuel≠0) (H:List MB) :
  call Tryz.prog pol1 22 [.agg [.sl false (g.ins.map insAV),I g.caps,.bool g.runes],.sl false (t.map I),I pos,I most,I fuel] H=some (.tup [.sl false [],I (checkG g t.length pos most fuel)],H):=by
 refine call_run Tryz.func22 rfl rfl rfl rfl rfl rfl (fun _=>rfl) (by simp[AV.plain,AV.plainL,plain_ints,plain_span,plain_ins,plain_prg]) (by simp[AV.plain,AV.plainL,plain_ints,plain_span,plain_ins,plain_prg]) ?_ H
 have hc:=f62 g hb t ht pos most fuel
 generalize checkG g t.length pos most fuel=c at *
 simp +contextual (disch:=omega) only[Tryz.f22,dd22,go_sem,simprocAttr,mu22,↓wrap_up,↓wrap_down,↓wrap_pred,↓wrap_sub_nat,hc]
 exact⟨_,rfl⟩
def resP (g:Prg) (t:List Int) (pos most fuel:Int):List M3×Int:=
 if checkG g t.length pos most fuel≠0 then([],checkG g t.length pos most fuel)
 else match runW (progOf g t) most fuel.toNat [⟨0,pos.toNat,List.replicate (2 * g.caps.toNat) (-1)⟩] [] with
  | some out=>(out.map (matOf pos g.caps.toNat),0)
  | none=>([],11)
abbrev resPA (r:List M3×Int):AV:=.tup [.sl false (r.1.map mA),I r.2]
theorem resA_eq (pos:Int) (n:Nat) (o:Option (List Way)):resA pos n o=match matsOf pos n o with
  | some l=>.tup [.sl false (l.map mA),I 0]
  | none=>.tup [.sl false [],I 11]:=by
 cases o with
 | none=>rfl
 | some out=>
   simp only[resA,matsOf,Option.map_some,List.map_map]
   rfl
theorem paths25 (g:Prg) (hb:PrgB g) (t:List Int) (ht:t.length≤1000000000) (pos most fuel:Int) (hf:fuel≤1000000) (H:List MB) :
  call Tryz.prog pol1 22 [.agg [.sl false (g.ins.map insAV),I g.caps,.bool g.runes],.sl false (t.map I),I pos,I most,I fuel] H=some (resPA (resP g t pos most fuel),H):=by
 by_cases hc:checkG g t.length pos most fuel=0
 ·have hv:validG g=0:=by
   unfold checkG at hc
   split at hc
   ·rename_i h;exact absurd hc h
   ·rename_i h;simpa using h
  have hk:=(okay_of hv).caps
  have h1:=f25 g hb t pos most fuel g.caps.toNat (by omega) hc hf H
  rw[show prgAV g=.agg [.sl false (g.ins.map insAV),I g.caps,.bool g.runes] from rfl]at h1
  rw[h1,resA_eq]
  unfold resP
  rw[if_neg (by simp[hc])]
  cases runW (progOf g t) most fuel.toNat [⟨0,pos.toNat,List.replicate (2 * g.caps.toNat) (-1)⟩] []<;>rfl
 ·rw[f25e g hb t ht pos most fuel hc H]
  unfold resP
  rw[if_pos hc]
  rfl
end
section
attribute [local go_sem] tySzE List.head?_drop Nat.mul_one sameAt_zero sameAt_two sameAt_three sameAt_four sameAt_five room_ok
open Go.Proofs Go.RowKit Go.IntWalk
set_option maxRecDepth 100000
set_option maxHeartbeats 16000000
noncomputable def polW:Pol:={ pol1 with pure:=fun f=>!(9::12::13::19::20::21::22::23::notPure).contains f,ext:=fun f=>if f=19 then some (call Tryz.prog polU 19) else if [9,12,13,20,21,22,23].contains f=true then some (call Tryz.prog pol1 f) else pol1.ext f }
theorem extW:ExtOk Tryz.prog polW:=by
 intro f g hg args H r H' h
 by_cases e:f=19
 ·subst e
  have:polW.ext 19=some (call Tryz.prog polU 19):=rfl
  rw[this]at hg
  obtain rfl:=Option.some.inj hg
  exact okU.1 19 args H r H' (by decide) h
 by_cases e1:[9,12,13,20,21,22,23].contains f=true
 ·have:polW.ext f=some (call Tryz.prog pol1 f):=by
   show (if f=19 then some (call Tryz.prog polU 19) else if [9,12,13,20,21,22,23].contains f=true then some (call Tryz.prog pol1 f) else pol1.ext f)=_
   rw[if_neg e,if_pos e1]
  rw[this]at hg
  obtain rfl:=Option.some.inj hg
  exact ok1.1 f args H r H' (by
   simp at e1
   unfold yldF;omega) h
 have:polW.ext f=pol1.ext f:=by
  show (if f=19 then some (call Tryz.prog polU 19) else if [9,12,13,20,21,22,23].contains f=true then some (call Tryz.prog pol1 f) else pol1.ext f)=_
  rw[if_neg e,if_neg e1]
 rw[this]at hg
 exact ext1 f g hg args H r H' h
theorem okW:CfOk Tryz.prog (call Tryz.prog polW):=call_ok extW follows1
theorem v19 (H:List MB):call Tryz.prog polW 19 [] H=some (.bool true,H):=by
 rw[call_eq]
 unfold evStep
 rw[if_neg (show ¬ polW.pure 19=true by decide),if_neg (by decide)]
 exact u19 H
theorem liftV (f:Nat) (hf:[9,12,13,20,21,22,23].contains f=true) {args:List AV} {H H':List MB} {r:AV} (h:call Tryz.prog pol1 f args H=some (r,H')):call Tryz.prog polW f args H=some (r,H'):=by
 have hf':=hf
 simp at hf'
 have hp:polW.pure f=false:=by rcases hf' with rfl|rfl|rfl|rfl|rfl|rfl|rfl<;>decide
 have he:polW.ext f=some (call Tryz.prog pol1 f):=by
  show (if f=19 then some (call Tryz.prog polU 19) else if [9,12,13,20,21,22,23].contains f=true then some (call Tryz.prog pol1 f) else pol1.ext f)=_
  rw[if_neg (by omega),if_pos hf]
 rw[call_eq]
 unfold evStep evBody
 rw[if_neg (by rw[hp];decide),if_neg (by unfold yldF;omega)]
 simp only[he]
 exact h
theorem polW_dead:polW.dead=pol1.dead:=rfl
theorem polW_bdead:polW.bdead=pol1.bdead:=rfl
theorem polW_racts:polW.racts=pol1.racts:=rfl
theorem polW_muts:polW.muts=pol1.muts:=rfl
theorem polW_alts:polW.alts=pol1.alts:=rfl
def refR (pos c:Nat):Option (Nat×List Int)→List M3×Int
 | some x=>([(pos,(x.1:Int),capsN x.2 c)],0)
 | none=>([],0)
theorem resP_ends {g:Prg} {t:List Int} {pos:Nat} {r:Option (Nat×List Int)} {N:Nat} (hc:checkG g t.length pos 1 5000=0) (hN:N≤5000) (h:Ends (progOf g t) [⟨0,pos,List.replicate (2 * g.caps.toNat) (-1)⟩] (r.map fun x=>(x.1,x.2.take (2 * g.caps.toNat))) N) :
  resP g t pos 1 5000=refR pos g.caps.toNat r:=by
 obtain⟨n',h1,h2⟩:=h
 have e5:(5000:Int).toNat=n' + (5000 - n'):=by simp;omega
 unfold resP
 rw[if_neg (by simp[hc]),e5,Int.toNat_natCast]
 cases r with
 | none=>
   have:=h2 [] (5000 - n')
   rw[List.append_nil,runW_nil]at this
   rw[this]
   rfl
 | some x=>
   obtain⟨pc,h2⟩:=h2
   have:=h2 [] (5000 - n')
   rw[List.append_nil]at this
   rw[this]
   have e:matOf (pos:Int) g.caps.toNat ⟨pc,x.1,x.2.take (2 * g.caps.toNat)⟩=matOf pos g.caps.toNat ⟨pc,x.1,x.2⟩:=caps_same _ ⟨rfl,rfl,by simp[List.take_take]⟩
   simp only[List.map_cons,List.map_nil]
   rw[e]
   rfl
theorem progOf_t (g:Prg) (t:List Int):ProgT (progOf g t) g.ins t:=⟨fun _=>rfl,fun _ _=>rfl⟩
theorem run_ref {g:Prg} (hv:validG g=0) (h:OkP g.ins) {Q:Nat→Prop} (hQ:Closed g.ins Q) (hQ0:Q 0) {t:List Int} (hs:g.ins.length≤12) (ht:t.length≤12) {pos:Nat} (hp:pos≤t.length) :
  resP g t pos 1 5000=refR pos g.caps.toNat (runO g.ins t (t.length+1 - pos) 0 pos m18 none):=by
 have hcaps:=(okay_of hv).caps
 obtain⟨r,h1,h2⟩:=runO_ends h (progOf_t g t) hQ (2 * g.caps.toNat) (t.length+1 - pos) 0 pos m18 none hQ0 (by omega) hp (by simp[m18])
 rw[h1,Option.or_none]
 have e:m18.take (2 * g.caps.toNat)=List.replicate (2 * g.caps.toNat) (-1):=by
  rw[m18,List.take_replicate];congr 1;omega
 rw[e]at h2
 refine resP_ends ?_ ?_ h2
 ·unfold checkG
  rw[if_neg (by simp[hv]),if_neg (by omega),if_neg (by omega),if_neg (by omega)]
 ·have:(t.length+1 - pos) * g.ins.length≤13 * 12:=Nat.mul_le_mul (by omega) hs
  omega
theorem resP_out {g:Prg} (hv:validG g=0) {t:List Int} (ht:t.length≤12) {pos:Int} (hp:pos < 0∨(t.length:Int) < pos):resP g t pos 1 5000=([],5):=by
 have hc:checkG g t.length pos 1 5000=5:=by
  unfold checkG
  rw[if_neg (by simp[hv]),if_neg (by omega),if_pos (by omega)]
 unfold resP
 rw[if_pos (by rw[hc];decide),hc]
theorem g23 (a b:M3) (ha:a.2.2.length≤1000) (hb:b.2.2.length≤1000) (H:List MB):call Tryz.prog polW 23 [mA a,mA b] H=some (.bool (decide (a=b)),H):=liftV 23 (by decide) (f67 a b ha hb H)
theorem g23n (H:List MB):call Tryz.prog polW 23 [.agg [I 0,I 0,.sl false []],.agg [I 0,I 0,.sl true []]] H=some (.bool true,H):=by
 refine liftV 23 (by decide) ?_
 rw[call_frzP (l:=[mA (0,0,[]),mA (0,0,[])]) (H1:=H) rfl rfl rfl]
 exact f67 _ _ (by simp) (by simp) H
def bigL:List AV:=List.replicate 65537 (I 0)
theorem bigL_eq:bigL=(List.replicate 65537 (0:Int)).map I:=by rw[List.map_replicate];rfl
theorem bigL_make (H:List MB):evMakeSlice Tryz.prog H 22 (I 65537) (I 65537)=some (.ms H.length 1 65537 0 65537,H++[.row 1 bigL 0]):=by
 have e1:tyElem Tryz.prog 22=some 3:=by kernel_rfl
 have e2:tySz Tryz.prog 3=some 1:=by kernel_rfl
 have e3:tyBytes Tryz.prog 3=some 8:=by kernel_rfl
 have e4:tyZero Tryz.prog 3=some (I 0):=by kernel_rfl
 unfold evMakeSlice
 simp only[e1,e2,e3,e4]
 rw[if_pos (by refine⟨by decide,by decide,by decide,by decide,rfl,rfl⟩)]
 rfl
theorem g21B (c:AV) (hc:AV.plain c=true) (b0 b1:MB):call Tryz.prog polW 21 [c,.ms 2 1 65537 0 65537,I 0] [b0,b1,.row 1 bigL 0]=some (.tup [.agg [I 0,I 0,.sl false []],.bool false,I 4],[b0,b1,.row 1 bigL 65537]):=by
 refine liftV 21 (by decide) ?_
 have hl:bigL.length=65537:=List.length_replicate
 have hp:AV.plainL bigL=true:=by rw[bigL_eq];exact plain_ints _
 rw[call_frzP (l:=[c,.sl false bigL,I 0]) (H1:=[b0,b1,.row 1 bigL 65537]) rfl ?_ (by simp[AV.plainL,AV.plain,hc,hp])]
 ·rw[bigL_eq]
  exact g21L c hc _ (by rw[List.length_replicate];decide) (by rw[List.length_replicate];decide) 0 _
 ·have h1:fz c [b0,b1,.row 1 bigL 0]=some (c,[b0,b1,.row 1 bigL 0]):=fz_plain _ hc
  have h2:fz (.ms 2 1 65537 0 65537) [b0,b1,.row 1 bigL 0]=some (.sl false bigL,[b0,b1,.row 1 bigL 65537]):=by
   rw[fz_row (els:=bigL) (k:=1) (z:=0) rfl hl hp]
   rfl
  have h3:∀ H,fz (I 0) H=some (I 0,H):=fun H=>rfl
  have hby:∀ i,pol1.byref 21 i=false:=fun i=>rfl
  simp only[frzArgs,hby,Bool.false_eq_true,if_false,h1,h2,h3]
theorem g21S {ins:List Ins} (h:OkP ins) {Q:Nat→Prop} (hQ:Closed ins Q) (hQ0:Q 0) (n:Nat) (hn:n≤9) (num:Int) (t:List Int) (ht:t.length≤65536) (pos:Nat) (hpos:pos≤t.length) :
  ∃(r1 r2:Int) (r3:List AV) (rb:Bool),∀ H,call Tryz.prog polW 21 [cAV ins n num,.sl false (t.map I),NV pos] H=some (.tup [.agg [I r1,I r2,.sl false r3],.bool rb,I 0],H):=by
 have h21:=fun H=>liftV 21 (by decide) (g21 h hQ hQ0 n hn num t ht pos hpos H)
 generalize runO ins t (t.length+1 - pos) 0 pos m18 none=r at h21
 cases r with
 | none=>exact⟨0,0,[],false,h21⟩
 | some x=>exact⟨pos,x.1,(capsN x.2 n).map spanAV,true,h21⟩
def txt4 (m:List Int):List Int:=(m.take 12).map fun x=>97+aroundI x 4
theorem txt4_len (m:List Int):(txt4 m).length=min 12 m.length:=by simp[txt4]
theorem law4 (l m:List Int) (hl:∀ x∈l,In64 x) (hm:∀ x∈m,In64 x) (pos:Int) (hpos:In64 pos) (H:List MB) :
  call Tryz.prog polW 4 [.sl false (l.map I),.sl false (m.map I),I pos] H=some (.bool true,H):=by
 obtain⟨g,hn,hp1,hv,h9⟩:=g9 l hl
 have hgb:=hn.b (by omega) (by omega)
 have hgl:=hn.len
 have h9:=fun H=>liftV 9 (by decide) (h9 H)
 have h13:=fun H=>liftV 13 (by decide) (f24 g (by omega) H)
 have h19:=v19
 have hnp:ofK (Value.pointer none)=.nilp:=rfl
 refine call_run Tryz.func4 rfl rfl rfl rfl rfl rfl (fun _=>rfl) (by simp[AV.plain,AV.plainL,plain_ints,plain_span,plain_ins,plain_prg]) (by simp[AV.plain,AV.plainL,plain_ints,plain_span,plain_ins,plain_prg]) ?_ H
 by_cases hac:acceptG g=0
 ·have hok:=okP_of hac
  obtain⟨_,⟨xs,fk,hex,rfl⟩,h12⟩:=g12 g hgb hac
  obtain⟨_,⟨syms,_,hsy⟩,_⟩:=g40 hok
  cases fk with
  | true=>
    rw[if_pos rfl]at h12
    have h12:=fun H=>liftV 12 (by decide) (h12 H)
    simp +contextual (disch:=omega) only[Tryz.f4,dd4,go_sem,simprocAttr,evMakeSlice,mu4,↓wrap_up,↓wrap_down,↓wrap_pred,↓wrap_sub_nat,polW_dead,polW_bdead,polW_racts,polW_muts,polW_alts,h9,h12,h13,h19,hnp]
    exact⟨_,rfl⟩
  | false=>
    rw[if_neg (by simp)]at h12
    have h12:=fun H=>liftV 12 (by decide) (h12 H)
    obtain⟨hQ,hQ0⟩:=closed_of hok hsy hex
    simp +contextual (disch:=omega) only[Tryz.f4,dd4,go_sem,simprocAttr,evMakeSlice,mu4,↓wrap_up,↓wrap_down,↓wrap_pred,↓wrap_sub_nat,polW_dead,polW_bdead,polW_racts,polW_muts,polW_alts,h9,h12,h13,h19,hnp]
    have htl:=txt4_len m
    obtain⟨c,hcc⟩:∃ c:Nat,g.caps=c:=⟨g.caps.toNat,by have:=(okay_of hv).caps;omega⟩
    have hc9:c≤9:=by have:=(okay_of hv).caps;omega
    have hcn:g.caps.toNat=c:=by omega
    obtain⟨cv,hcv⟩:∃ cv,cv=AV.pt [.sl false (g.ins.map insAV),I g.caps,NV xs.length]:=⟨_,rfl⟩
    rw[← hcv]
    have hcv':cv=cAV g.ins c xs.length:=by rw[hcv,hcc]
    have plc:AV.plain cv=true:=by rw[hcv];simp[AV.plain,AV.plainL,plain_ins]
    have ukc:∀ k,AV.under k cv=true:=fun k=>by
     have:=underL_plain k _ (plain_ins g.ins)
     simp[hcv,AV.under,AV.underL,this]
    have ukg:∀ k,AV.under k (prgAV g)=true:=fun k=>by
     have:=underL_plain k _ (plain_ins g.ins)
     simp[AV.under,AV.underL,this]
    refine W_count (M:=(mskOf (polW.mask 4) (polW.gc 4) (polW.acts 4) 0 9)) (by rfl) (min 12 m.length) (fun i=>(⟨170,[(11,NV i),(10,.ms 1 1 i 0 i),(8,cv),(7,.rf 0 1 0 0),(2,I pos),(1,.sl false (m.map I))],[.row 3 [prgAV g] 0,.row 1 (((txt4 m).take i).map I) 0]⟩:St)) (fun _=>True) ?_ ?_ trivial _ ?_
    ·intro i hi _
     obtain⟨x,hx⟩:∃ x,m[i]?=some x:=⟨_,List.getElem?_eq_getElem (by omega)⟩
     have hx64:=hm x (List.mem_of_getElem? hx)
     have h20:=fun H=>liftV 20 (by decide) (f12 x 4 hx64 (by omega) H)
     have har:=around_lt (n:=x) (m:=4) (by omega)
     have hlt:((i:Int) < ((m.length:Nat):Int))=True:=eq_true (by omega)
     have hlt2:((i:Int) < 12)=True:=eq_true (by omega)
     have hwi:IntKind.i64.wrap ((i:Int)+1)=((i+1:Nat):Int):=by rw[i64_in]<;>omega
     have hwa:IntKind.i64.wrap (97+aroundI x 4)=97+aroundI x 4:=by rw[i64_in]<;>omega
     have hti:(txt4 m).take (i+1)=(txt4 m).take i++[97+aroundI x 4]:=by
      rw[List.take_add_one]
      simp[txt4,List.getElem?_take,hx,show i < 12 by omega]
     have htl2:((txt4 m).take i).length=i:=by simp[htl];omega
     rw[hti]
     generalize (txt4 m).take i=ys at *
     have htk:=take_map_len (f:=I) htl2
     simp +contextual (disch:=omega) only[Tryz.f4,dd4,go_sem,simprocAttr,evMakeSlice,mu4,↓wrap_up,↓wrap_down,↓wrap_pred,↓wrap_sub_nat,polW_dead,polW_bdead,polW_racts,polW_muts,polW_alts,hx,hlt,hlt2,hwi,hwa,h20,htl2,htk]
     have h1:=underL_plain 2 _ (plain_ints m)
     have h2:=underL_plain 2 _ (plain_ints ys)
     have hk:AV.underL 2 [NV (i+1),.ms 1 1 (i+1) 0 (i+1),cv,.rf 0 1 0 0,I pos,.sl false (m.map I)]=true:=by simp[AV.underL,ukc,AV.under,h1]
     have hu:[MB.row 3 [prgAV g] 0,.row 1 (ys.map I++[I (97+aroundI x 4)]) 0].all (MB.under 2)=true:=by
      have:=ukg 2
      simp only[prgAV]at this
      simp[MB.under,AV.underL,AV.under,underL_plain 2 _ (plain_ins g.ins),h2,underL_append]
     exact prep_to rfl rfl hk hu rfl
    ·intro _
     have e12:(txt4 m).take (min 12 m.length)=txt4 m:=List.take_of_length_le (by omega)
     rw[e12]
     have hend:¬ ((((min 12 m.length:Nat):Int) < ((m.length:Nat):Int))∧(((min 12 m.length:Nat):Int) < 12)):=by omega
     generalize hN:min 12 m.length=N at *
     generalize hT:txt4 m=T at *
     have hT64:T.length≤12:=by omega
     have hk4:∀ i:Int,AV.underL 1 [I i,.sl false (T.map I),cv,.rf 0 1 0 0,I pos]=true:=fun i=>by
      have h1:=underL_plain 1 _ (plain_ints T)
      simp[AV.underL,ukc,h1,AV.under]
     have hun:[MB.row 3 [prgAV g] 0].all (MB.under 1)=true:=by
      have:=ukg 1
      simp[MB.under,AV.underL,AV.under,underL_plain 1 _ (plain_ins g.ins)]
     by_cases hb:(N:Int) < ((m.length:Nat):Int)
     case' pos=>
      have hb2:((N:Int) < 12)=False:=eq_false (by omega)
      simp +contextual (disch:=omega) only[Tryz.f4,dd4,go_sem,simprocAttr,evMakeSlice,mu4,↓wrap_up,↓wrap_down,↓wrap_pred,↓wrap_sub_nat,polW_dead,polW_bdead,polW_racts,polW_muts,polW_alts,hb,hb2,htl]
     case' neg=>
      simp +contextual (disch:=omega) only[Tryz.f4,dd4,go_sem,simprocAttr,evMakeSlice,mu4,↓wrap_up,↓wrap_down,↓wrap_pred,↓wrap_sub_nat,polW_dead,polW_bdead,polW_racts,polW_muts,polW_alts,hb,htl]
     all_goals
      refine W_count (M:=(mskOf (polW.mask 4) (polW.gc 4) (polW.acts 4) 0 13)) (by rfl) (T.length+3) (fun j=>(⟨170,[(12,I ((j:Int) - 1)),(10,.sl false (T.map I)),(8,cv),(7,.rf 0 1 0 0),(2,I pos)],[.row 3 [prgAV g] 0]⟩:St)) (fun _=>True) ?_ ?_ trivial _ ?_
      ·intro j hj _
       have hle:((j:Int) - 1≤((T.length:Nat):Int)+1)=True:=eq_true (by omega)
       have hwi:IntKind.i64.wrap ((j:Int) - 1+1)=((j+1:Nat):Int) - 1:=by rw[i64_in]<;>omega
       have hwl:IntKind.i64.wrap (((T.length:Nat):Int)+1)=((T.length:Nat):Int)+1:=by rw[i64_in]<;>omega
       by_cases hin:1≤j∧j≤T.length+1
       ·obtain⟨p,rfl⟩:∃ p:Nat,j=p+1:=⟨j - 1,by omega⟩
        have hjp:((p+1:Nat):Int) - 1=(p:Int):=by omega
        rw[hjp]at hle hwi
        rw[hjp]
        have h21:=fun H=>liftV 21 (by decide) (g21 hok hQ hQ0 c hc9 xs.length T (by omega) p (by omega) H)
        rw[← hcv']at h21
        have h22:=fun H=>liftV 22 (by decide) (paths25 g hgb T (by omega) p 1 5000 (by omega) H)
        rw[run_ref hv hok hQ hQ0 (by omega) hT64 (by omega),hcn]at h22
        generalize runO g.ins T (T.length+1 - p) 0 p m18 none=r at h21 h22
        cases r with
        | none=>
          have h23:=g23n
          simp only[mat21,refR,Option.isSome_none]at h21 h22
          simp +contextual (disch:=omega) only[Tryz.f4,dd4,go_sem,simprocAttr,evMakeSlice,mu4,↓wrap_up,↓wrap_down,↓wrap_pred,↓wrap_sub_nat,polW_dead,polW_bdead,polW_racts,polW_muts,polW_alts,hle,hwi,hwl,h21,h22,h23,beq_self_eq_true,Bool.true_beq,Bool.false_beq]
          refine⟨(by unfold dOk;kernel_rfl),?_⟩
          have e5:((p+1+1:Nat):Int) - 1=((p+1:Nat):Int):=by omega
          rw[e5]
          exact prep_to rfl rfl (hk4 ((p+1:Nat):Int)) hun rfl
        | some x=>
          have h23:=fun H=>g23 ((p:Int),(x.1:Int),capsN x.2 c) ((p:Int),(x.1:Int),capsN x.2 c) (by simp[capsN_len];omega) (by simp[capsN_len];omega) H
          simp only[decide_true]at h23
          simp only[mA,matAV]at h23
          simp only[mat21,refR,Option.isSome_some,resPA,mA,matAV,List.map_cons,List.map_nil]at h21 h22
          simp +contextual (disch:=omega) only[Tryz.f4,dd4,go_sem,simprocAttr,evMakeSlice,mu4,↓wrap_up,↓wrap_down,↓wrap_pred,↓wrap_sub_nat,polW_dead,polW_bdead,polW_racts,polW_muts,polW_alts,hle,hwi,hwl,h21,h22,h23,beq_self_eq_true,Bool.true_beq,Bool.false_beq]
          refine⟨(by unfold dOk;kernel_rfl),?_⟩
          have e5:((p+1+1:Nat):Int) - 1=((p+1:Nat):Int):=by omega
          rw[e5]
          exact prep_to rfl rfl (hk4 ((p+1:Nat):Int)) hun rfl
       ·have h21:=fun H=>liftV 21 (by decide) (g21R cv plc T (by omega) ((j:Int) - 1) (by omega) H)
        have h22:=fun H=>liftV 22 (by decide) (paths25 g hgb T (by omega) ((j:Int) - 1) 1 5000 (by omega) H)
        rw[resP_out hv hT64 (by omega)]at h22
        have h23:=g23n
        simp +contextual (disch:=omega) only[Tryz.f4,dd4,go_sem,simprocAttr,evMakeSlice,mu4,↓wrap_up,↓wrap_down,↓wrap_pred,↓wrap_sub_nat,polW_dead,polW_bdead,polW_racts,polW_muts,polW_alts,hle,hwi,hwl,h21,h22,h23,beq_self_eq_true,Bool.true_beq,Bool.false_beq]
        refine⟨(by unfold dOk;kernel_rfl),?_⟩
        exact prep_to rfl rfl (hk4 (((j+1:Nat):Int) - 1)) hun rfl
      ·intro _
       have hle:(((T.length+3:Nat):Int) - 1≤((T.length:Nat):Int)+1)=False:=eq_false (by omega)
       have hwl:IntKind.i64.wrap (((T.length:Nat):Int)+1)=((T.length:Nat):Int)+1:=by rw[i64_in]<;>omega
       have hB:=fun b0 b1=>g21B cv plc b0 b1
       by_cases hpi:0≤pos∧pos≤T.length
       ·obtain⟨p,rfl⟩:∃ p:Nat,pos=p:=⟨pos.toNat,by omega⟩
        obtain⟨r1,r2,r3,rb,h21⟩:=g21S hok hQ hQ0 c hc9 xs.length T (by omega) p (by omega)
        rw[← hcv']at h21
        have g1:(0≤(p:Int))=True:=eq_true (by omega)
        have g2:((p:Int)≤((T.length:Nat):Int))=True:=eq_true (by omega)
        simp +contextual (disch:=omega) only[Tryz.f4,dd4,go_sem,simprocAttr,mu4,↓wrap_up,↓wrap_down,↓wrap_pred,↓wrap_sub_nat,polW_dead,polW_bdead,polW_racts,polW_muts,polW_alts,hle,hwl,h21,g1,g2,bigL_make,hB,h19,beq_self_eq_true,Bool.true_beq,Bool.false_beq]
        exact⟨_,rfl⟩
       ·have h21:=fun H=>liftV 21 (by decide) (g21R cv plc T (by omega) pos (by omega) H)
        by_cases hp0:0≤pos
        ·have g2:(pos≤((T.length:Nat):Int))=False:=eq_false (by omega)
         simp +contextual (disch:=omega) only[Tryz.f4,dd4,go_sem,simprocAttr,mu4,↓wrap_up,↓wrap_down,↓wrap_pred,↓wrap_sub_nat,polW_dead,polW_bdead,polW_racts,polW_muts,polW_alts,hle,hwl,h21,hp0,g2,bigL_make,hB,h19,beq_self_eq_true,Bool.true_beq,Bool.false_beq]
         exact⟨_,rfl⟩
        ·simp +contextual (disch:=omega) only[Tryz.f4,dd4,go_sem,simprocAttr,mu4,↓wrap_up,↓wrap_down,↓wrap_pred,↓wrap_sub_nat,polW_dead,polW_bdead,polW_racts,polW_muts,polW_alts,hle,hwl,h21,hp0,bigL_make,hB,h19,beq_self_eq_true,Bool.true_beq,Bool.false_beq]
         exact⟨_,rfl⟩
      ·rw[fz_row (els:=T.map I) (k:=1) (z:=0) rfl (by simp[htl]) (plain_ints T)]
       exact prep_to rfl rfl (hk4 (-1)) hun rfl
    ·have h1:=underL_plain 2 _ (plain_ints m)
     have hk:AV.underL 2 [NV 0,.ms 1 1 0 0 0,cv,.rf 0 1 0 0,I pos,.sl false (m.map I)]=true:=by simp[AV.underL,ukc,AV.under,h1]
     have hu:[MB.row 3 [prgAV g] 0,.row 1 [] 0].all (MB.under 2)=true:=by
      have:=ukg 2
      simp[MB.under,AV.underL,AV.under,underL_plain 2 _ (plain_ins g.ins)]
     exact prep_to rfl rfl hk hu rfl
 ·have ha10:acceptG g=10:=by
   unfold acceptG at hac ⊢
   rw[if_neg (by simp[hv])]at hac ⊢
   split at hac
   ·rename_i h5;rw[if_pos h5]
   ·exact absurd rfl hac
  have h12:=fun H=>liftV 12 (by decide) (g12_bad g hgb hac H)
  rw[ha10]at h12
  simp +contextual (disch:=omega) only[Tryz.f4,dd4,go_sem,simprocAttr,evMakeSlice,mu4,↓wrap_up,↓wrap_down,↓wrap_pred,↓wrap_sub_nat,polW_dead,polW_bdead,polW_racts,polW_muts,polW_alts,h9,h12,h13,h19,hnp]
  exact⟨_,rfl⟩
end
end Go.Ev
