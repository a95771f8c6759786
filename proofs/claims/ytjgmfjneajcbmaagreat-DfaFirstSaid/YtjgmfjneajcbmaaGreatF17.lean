/- The plain law on paths, continued: a walk that stops where a way goes in a circle finds what the plain walk finds. No program in sight. -/
import Derived.Test.YtjgmfjneajcbmaaGreatF16
set_option linter.unusedVariables false
set_option linter.unusedSimpArgs false
open Nat (add_assoc le_refl lt_or_ge mul_one)
open List (all_append cons_append getElem?_eq_getElem head?_drop length_append length_cons length_eq_zero_iff length_map map_append map_cons map_map map_nil map_replicate map_set map_take mem_cons mem_cons_of_mem mem_cons_self mem_map mem_of_getElem?)
open Bool (and_eq_true or_eq_true)
open Go.Proofs Go.RowKit Go.IntWalk
set_option maxHeartbeats 8000000
set_option maxRecDepth 100000
namespace Go.Ev
structure WayI where
 w:Way
 idle:Nat
 found:Nat
theorem DL {p:Prog1}{most:Int}:∀(fuel:Nat) (todo out out':List Way),out.length=out'.length->runW p most fuel todo out=none->runW p most fuel todo out' = none
 | fuel,[],out,out',_,h=>by unfold runW at h;simp at h
 | 0,w::todo,out,out',hl,h=>by
   by_cases ho:(out.length:Int)=most
   ·unfold runW at h;simp only[ho,if_true]at h;cases h
   ·exact EB (by rw[<- hl];exact ho)
 | fuel+1,w::todo,out,out',hl,h=>by
   by_cases ho:(out.length:Int)=most
   ·unfold runW at h;simp only[ho,if_true]at h;cases h
   ·rw[DS ho]at h;rw[DS (by rw[<- hl];exact ho)];cases hs:stepW p w with
    | done=>rw[hs]at h;exact DL fuel todo _ _ (by simp[hl]) h
    | ways l=>rw[hs]at h;exact DL fuel _ _ _ hl h
structure Ghost where
 e:WayI
 hs:List Way
def Chain (p:Prog1) (found outN:Nat):List Way->Prop
 | []=>True
 | a::l=>(∀ b∈l,∃ E d m,Reach p b a E d (m+1)/\found+d<=outN)/\Chain p found outN l
theorem Chain.mono {p:Prog1}{f n n':Nat} (h:n<=n'):∀ {l:List Way},Chain p f n l->Chain p f n' l
 | [],_=>trivial
 | a::l,⟨h1,h2⟩=>⟨fun b hb=>by
    obtain⟨E,d,m,r,hd⟩:=h1 b hb;exact⟨E,d,m,r,by omega⟩,Chain.mono h h2⟩
structure Hist (p:Prog1) (n outN:Nat) (t:Ghost) (rest:List Ghost):Prop where
 idle:∀ g∈t::rest,g.hs.length=g.e.idle/\g.e.found<=outN
 at_:∀ g∈t::rest,g.e.w.pc<n/\∀ h∈g.hs,h.at_=g.e.w.at_/\h.pc<n
 chain:∀ g∈t::rest,Chain p g.e.found outN g.hs
 reach:∀ i g,(t::rest)[i]?=some g->∀ h∈g.hs,∃ E S d m,rest.map (·.e.w)=E++S/\i<=E.length/\Reach p h t.e.w E d (m+1)/\g.e.found+d<=outN
theorem KU:∀(n:Nat) (L:List Nat),(∀ x∈L,x<n)->L.Nodup->L.length<=n
 | 0,[],_,_=>le_refl _
 | 0,x::_,h,_=>absurd (h x (mem_cons_self ..)) (Nat.not_lt_zero _)
 | n+1,L,h,hd=>by
   have h1:(L.erase n).length<=n:=KU n (L.erase n) (fun x hx=>by
    have h2:=(List.Nodup.mem_erase_iff hd).1 hx;have h3:=h x h2.2;have h4:=h2.1;omega) (hd.erase n)
   rw[List.length_erase]at h1;split at h1<;>omega
theorem Iy {p:Prog1}{f N:Nat}:∀(L:List Way),Chain p f N L->¬ (L.map (·.pc)).Nodup->∃ a∈L,∃ b∈L,b.pc=a.pc/\∃ E d m,Reach p b a E d (m+1)/\f+d<=N
 | [],_,h=>absurd List.nodup_nil h
 | a::l,⟨h1,h2⟩,h=>by
   by_cases hb:∃ b∈l,b.pc=a.pc
   ·obtain⟨b,b1,b2⟩:=hb;exact⟨a,mem_cons_self ..,b,mem_cons_of_mem _ b1,b2,h1 b b1⟩
   ·have:¬ (l.map (·.pc)).Nodup:=fun hn=>h (by
     rw[map_cons,List.nodup_cons];refine⟨fun hm=>?_,hn⟩;obtain⟨b,b1,b2⟩:=mem_map.1 hm;exact hb ⟨b,b1,b2⟩)
    obtain⟨x,x1,y,y1,r⟩:=Iy l h2 this;exact⟨x,mem_cons_of_mem _ x1,y,mem_cons_of_mem _ y1,r⟩
theorem Hist.now {p:Prog1}{n outN:Nat}{t:Ghost}{rest:List Ghost} (h:Hist p n outN t rest):Chain p t.e.found outN (t.e.w::t.hs):=
 ⟨fun b hb=>by
   obtain⟨E,S,d,m,_,_,r,hd⟩:=h.reach 0 t rfl b hb;exact⟨E,d,m,r,hd⟩,h.chain t (mem_cons_self ..)⟩
theorem Hist.circle {p:Prog1}{n:Nat}{t:Ghost}{rest:List Ghost}{out:List Way} (h:Hist p n out.length t rest) (hn:n<=t.e.idle) {most:Int} (hm:most = -1∨t.e.found=out.length) (ho:¬ (out.length:Int)=most) (fuel:Nat) :
  runW p most fuel (t.e.w::rest.map (·.e.w)) out=none:=by
 have h0:=h.now;have hat:=h.at_ t (mem_cons_self ..);have hid:=h.idle t (mem_cons_self ..);have hlen:¬ ((t.e.w::t.hs).map (·.pc)).Nodup:=fun hd=>by
  have:=KU n _ (fun x hx=>by
   obtain⟨b,b1,rfl⟩:=mem_map.1 hx;rcases mem_cons.1 b1 with e|e
   ·rw[e];exact hat.1
   ·exact(hat.2 b e).2) hd
  rw[length_map,length_cons,hid.1]at this;omega
 obtain⟨a,a1,b,b1,hpc,E,d,m,r,hd⟩:=Iy _ h0 hlen;have hlike:b.like a:=by
  refine⟨hpc,?_⟩;have:∀ c∈t.e.w::t.hs,c.at_=t.e.w.at_:=fun c hc=>by
   rcases mem_cons.1 hc with e|e
   ·rw[e]
   ·exact(hat.2 c e).1
  rw[this b b1,this a a1]
 have hd0:most = -1∨d=0:=by
  rcases hm with h|h
  ·exact .inl h
  ·exact .inr (by omega)
 rcases mem_cons.1 a1 with e|e
 ·subst e;refine Go.Ev.circle r hlike fuel t.e.w _ out hlike ?_;rcases hd0 with h|h
  ·exact .inl h
  ·exact .inr ⟨h,ho⟩
 ·obtain⟨E2,S2,d2,m2,hr,_,r2,hd2⟩:=h.reach 0 t rfl a e;have hlen0:(out.take (out.length-d2)).length+d2=out.length:=by simp;omega
  have hq:most = -1∨(d2=0/\¬ ((out.take (out.length-d2)).length:Int)=most):=by
   rcases hm with h|h
   ·exact .inl h
   ·refine .inr ⟨by omega,?_⟩;have:d2=0:=by omega
    subst this
    simpa using ho
  obtain⟨out',o1,o2⟩:=r2.run S2 (out.take (out.length-d2)) hq fuel;have hn:=Go.Ev.circle r hlike (m2+1+fuel) a S2 (out.take (out.length-d2)) hlike (by
   rcases hd0 with h|h
   ·exact .inl h
   ·rcases hq with g|g
    ·exact .inl g
    ·exact .inr ⟨h,g.2⟩)
  rw[hn]at o2;rw[hr];exact DL fuel _ out' out (by omega) o2.symm
theorem Hist.step {p:Prog1}{n outN:Nat}{t:Ghost}{rest:List Ghost} (h:Hist p n outN t rest) (hcl:∀ w l,w.pc<n->stepW p w=.ways l->∀ v∈l,v.pc<n)
  {hs:List Way}{found:Nat} (hh:(hs=t.e.w::t.hs/\found=t.e.found)∨(hs=[t.e.w]/\found=outN)) {v:Way}{l:List Way} (hs1:stepW p t.e.w=.ways (v::l)) :
  ∃ t' rest',Hist p n outN t' rest'/\t'.e::rest'.map (·.e)=(v::l).map (fun v=>if v.at_=t.e.w.at_ then⟨v,hs.length,found⟩ else⟨v,0,outN⟩)++rest.map (·.e):=by
 have hat:=h.at_ t (mem_cons_self ..);have hid:=h.idle t (mem_cons_self ..);have hf:found<=outN:=by rcases hh with ⟨_,h⟩|⟨_,h⟩<;>omega
 have hhs:∀ b∈hs,b.at_=t.e.w.at_/\b.pc<n:=fun b hb=>by
  rcases hh with ⟨e,_⟩|⟨e,_⟩
  ·rw[e]at hb;rcases mem_cons.1 hb with e|e
   ·rw[e];exact⟨rfl,hat.1⟩
   ·exact hat.2 b e
  ·rw[e]at hb;rw[List.mem_singleton.1 hb];exact⟨rfl,hat.1⟩
 have hch:Chain p found outN hs:=by
  rcases hh with ⟨e,e'⟩|⟨e,e'⟩
  ·rw[e,e'];exact h.now
  ·rw[e];exact⟨fun b hb=>by simp at hb,trivial⟩
 have hre:∀ b∈hs,∃ E S d m,rest.map (·.e.w)=E++S/\Reach p b v (l++E) d (m+1)/\found+d<=outN:=fun b hb=>by
  have self:∃ E S d m,rest.map (·.e.w)=E++S/\Reach p t.e.w v (l++E) d (m+1)/\found+d<=outN:=⟨[],_,0,0,rfl,.on (.refl _) hs1,by omega⟩;rcases hh with ⟨e,e'⟩|⟨e,_⟩
  ·rw[e]at hb;rcases mem_cons.1 hb with e|e
   ·rw[e];exact self
   ·obtain⟨E,S,d,m,r1,r2,r3,r4⟩:=h.reach 0 t rfl b e;exact⟨E,S,d,m+1,r1,.on r3 hs1,by omega⟩
  ·rw[e]at hb;rw[List.mem_singleton.1 hb];exact self
 let gh:Way->Ghost:=fun v=>if v.at_=t.e.w.at_ then⟨⟨v,hs.length,found⟩,hs⟩ else⟨⟨v,0,outN⟩,[]⟩
 have hgh:∀ v,(gh v).e.w=v:=fun v=>by simp only[gh];split<;>rfl
 have hghe:∀ v,(gh v).e=if v.at_=t.e.w.at_ then⟨v,hs.length,found⟩ else⟨v,0,outN⟩:=fun v=>by simp only[gh];split<;>rfl
 have hghs:∀ v,(gh v).hs=hs/\(gh v).e.found=found∨(gh v).hs=[]:=fun v=>by
  simp only[gh];split
  ·exact .inl ⟨rfl,rfl⟩
  ·exact .inr rfl
 have hpc:=hcl t.e.w (v::l) hat.1 hs1;refine⟨gh v,l.map gh++rest,⟨fun g hg=>?_,fun g hg=>?_,fun g hg=>?_,fun i g hg b hb=>?_⟩,?_⟩
 ·have hcase:g∈(v::l).map gh∨g∈rest:=by simpa [or_assoc] using hg
  rcases hcase with hg|hg
  ·obtain⟨u,_,rfl⟩:=mem_map.1 hg;simp only[gh];split
   ·exact⟨rfl,hf⟩
   ·exact⟨rfl,le_refl _⟩
  ·exact h.idle g (mem_cons_of_mem _ hg)
 ·have hcase:g∈(v::l).map gh∨g∈rest:=by simpa [or_assoc] using hg
  rcases hcase with hg|hg
  ·obtain⟨u,hu,rfl⟩:=mem_map.1 hg;refine⟨by rw[hgh];exact hpc u hu,?_⟩;simp only[gh];split
   ·rename_i e;intro b hb;rw[e];exact hhs b hb
   ·intro b hb;simp at hb
  ·exact h.at_ g (mem_cons_of_mem _ hg)
 ·have hcase:g∈(v::l).map gh∨g∈rest:=by simpa [or_assoc] using hg
  rcases hcase with hg|hg
  ·obtain⟨u,_,rfl⟩:=mem_map.1 hg;simp only[gh];split
   ·exact hch
   ·exact trivial
  ·exact h.chain g (mem_cons_of_mem _ hg)
 ·have hmap:(l.map gh++rest).map (·.e.w)=l++rest.map (·.e.w):=by
   rw[map_append,map_map];congr 1;rw[show ((fun x:Ghost=>x.e.w) ∘ gh)=id from funext hgh,List.map_id]
  rw[hmap,hgh];by_cases hi:i<(v::l).length
  ·have hg':((v::l).map gh)[i]?=some g:=by
    rw[show gh v::(l.map gh++rest)=(v::l).map gh++rest from rfl,List.getElem?_append_left (by simpa using hi)]at hg;exact hg
   obtain⟨u,_,rfl⟩:=mem_map.1 (mem_of_getElem? hg');rcases hghs u with ⟨e1,e2⟩|e1
   ·rw[e1]at hb;obtain⟨E,S,d,m,r1,r2,r3⟩:=hre b hb;exact⟨l++E,S,d,m,by rw[r1,List.append_assoc],by simp at hi |-;omega,r2,by rw[e2];exact r3⟩
   ·rw[e1]at hb;simp at hb
  ·rw[show gh v::(l.map gh++rest)=(v::l).map gh++rest from rfl,List.getElem?_append_right (by simp at hi |-;omega)]at hg;simp only[length_map]at hg;obtain⟨E,S,d,m,r1,r2,r3,r4⟩:=h.reach (i-(v::l).length+1) g (by simpa using hg) b hb;refine⟨l++E,S,d,m+1,by rw[r1,List.append_assoc],?_,.on r3 hs1,r4⟩;simp at hi r2 |-;omega
 ·simp only[map_cons,map_append,map_map,cons_append,List.cons.injEq];exact⟨hghe v,by congr 1;exact List.map_congr_left fun u _=>hghe u⟩
theorem Hist.pop {p:Prog1}{n outN:Nat}{t e:Ghost}{rest:List Ghost} (h:Hist p n outN t (e::rest)) {k:Nat} (hs:(stepW p t.e.w=.ways []/\k=0)∨(stepW p t.e.w=.done/\k=1)):Hist p n (outN+k) e rest:=by
 refine⟨fun g hg=>?_,fun g hg=>h.at_ g (mem_cons_of_mem _ hg),fun g hg=>(h.chain g (mem_cons_of_mem _ hg)).mono (by omega),fun i g hg b hb=>?_⟩
 ·have:=h.idle g (mem_cons_of_mem _ hg);exact⟨this.1,by omega⟩
 ·obtain⟨E,S,d,m,r1,r2,r3,r4⟩:=h.reach (i+1) g (by simpa using hg) b hb;cases E with
  | nil=>simp at r2
  | cons x E=>
    simp only[map_cons,cons_append,List.cons.injEq]at r1;obtain⟨rfl,r1⟩:=r1;rcases hs with ⟨hs,rfl⟩|⟨hs,rfl⟩
    ·exact⟨E,S,d,m+1,r1,by simpa using r2,.pop r3 hs,r4⟩
    ·exact⟨E,S,d+1,m+1,r1,by simpa using r2,.found r3 hs,by omega⟩
end Go.Ev
namespace Go.Ev
attribute [local go_sem] evBin AV.cells AV.ok frzB Av BG bndO bnd evEq eqCells not_false_eq_true not_true_eq_false Af Array.size_empty length_append map_append
section
attribute [local go_sem] evAppend
def assertI (n:Int) (b a:Option Int):Bool:=
 let w:=fun(o:Option Int)=>match o with
  | some x=>wordI x
  | none=>false
 let e:=fun(o:Option Int)=>match o with
  | some x=>x==10
  | none=>true
 if n=0 then b.isNone else if n=1 then a.isNone else if n=2 then e b else if n=3 then e a else if n=4 then w b != w a else if n=5 then w b==w a else false
def befS (t:List Int) (k:Nat):Option Int:=if k=0 then none else t[k-1]?
end
end Go.Ev
namespace Go.Ev
structure Okay (g:Prg):Prop where
 len:1<=g.ins.length/\g.ins.length<=8192
 caps:0<=g.caps/\g.caps<=9
 ok:∀ i∈g.ins,okIns g.ins.length g.caps g.runes i=true
 last:lastGood g=true
theorem Okay.next {g:Prg} (h:Okay g) {pc:Nat}{i:Ins} (hi:g.ins[pc]?=some i) (ho:¬ (i.op=0∨i.op=2∨i.op=3)):pc+1<g.ins.length:=by
 have hlt:=(List.getElem?_eq_some_iff.1 hi).1;rcases lt_or_ge (pc+1) g.ins.length with hh|hh
 ·exact hh
 ·have hl:=h.last;have:g.ins.length-1=pc:=by omega
  simp only[lastGood,this,hi]at hl;simp at hl;omega
end Go.Ev
namespace Go.Ev
attribute [local go_sem] evBin AV.cells AV.ok frzB Av BG bndO bnd evEq eqCells not_false_eq_true not_true_eq_false Af Array.size_empty length_append map_append
section
attribute [local go_sem] evAppend tySzE head?_drop mul_one AR AY AP AS AT Ad
theorem PB {P:Program}{pol:Pol}{f:Nat}{args l:List AV}{H H1:List MB} (hp:pol.pure f=true) (h:frzArgs pol f 0 args H=some (l,H1)) (ha:AV.plainL l=true) :
  call P pol f args H=call P pol f l H1:=by
 have hf:∀(l:List AV) (i:Nat),AV.plainL l=true->frzArgs pol f i l H1=some (l,H1):=by
  intro l
  induction l with
  | nil=>intro i _;rfl
  | cons x l ih=>
    intro i h;simp only[AV.plainL,and_eq_true]at h;simp only[frzArgs,Az H1 h.1,ih (i+1) h.2];split<;>simp_all
 rw[Bk,Bk];unfold evStep;simp only[hp,if_true,h,hf l 0 ha]
end
section
attribute [local go_sem] evAppend tySzE head?_drop mul_one AR AY AP AS AT Ad
theorem Fj (ins:List Int):∀ l:List Re,compL ins l=true↔∀ k∈l,compG ins k=true
 | []=>by simp[compL]
 | k::ks=>by simp[compL,Fj ins ks]
theorem Cf {ins:List Int}{l:List Re}{k:Re} (h:k∈l) (hk:compG ins k=false):compL ins l=false:=by
 rw[Bool.eq_false_iff];intro hw;rw[Fj]at hw;rw[hw k h]at hk;cases hk
theorem C7 {ins:List Int}{l:List Re} (h:∀(i:Nat) (k:Re),i<l.length->l[i]?=some k->compG ins k=true):compL ins l=true:=by
 rw[Fj];intro k hk;obtain⟨i,hi,e⟩:=List.getElem_of_mem hk;exact h i k hi (by rw[<- e];exact getElem?_eq_getElem hi)
theorem f115 (l:List Int) (x:Int) (hl:l.length<=10000000) (H:List MB):call Pg pol1 60 [.sl false (l.map I),I x] H=some (.bool (decide (x∈l)),H):=by
 refine AX Tryz.func60 rfl rfl rfl rfl rfl rfl (fun _=>rfl) (by simp[AV.plain,AV.plainL,AG]) rfl ?_ H;simp +contextual (disch:=omega) only[Tryz.f60,dd60,go_sem,simprocAttr,mu60,↓AD,↓AC,↓AB,↓AA];refine Ae (M:=(mskOf (pol1.mask 60) (pol1.gc 60) (pol1.acts 60) 0 2)) rfl l.length (fun i=>(⟨18,[(5,I i),(1,I x),(0,.sl false (l.map I))],[]⟩:St)) (fun i=>∀ k p,k<i->l[k]?=some p->p≠x) ?_ ?_ (fun k p h=>by omega) _ (by first|rfl|(simp[keepT,AV.underL,AV.under,MB.under,AE,AH,AJ,AG,AF,AI,AK,-map_take,-map_replicate,-map_set];done))
 ·intro i hi hg;obtain⟨p,hp⟩:∃ p,l[i]?=some p:=⟨_,getElem?_eq_getElem hi⟩;by_cases hpx:p=x
  ·subst hpx;rw[decide_eq_true (mem_of_getElem? hp)];simp +contextual (disch:=omega) only[Tryz.f60,dd60,go_sem,simprocAttr,mu60,↓AD,↓AC,↓AB,↓AA,hp];exact fzEq rfl rfl
  ·simp +contextual (disch:=omega) only[Tryz.f60,dd60,go_sem,simprocAttr,mu60,↓AD,↓AC,↓AB,↓AA,hp];refine⟨fun k q hk hq=>?_,(by first|rfl|(simp[keepT,AV.underL,AV.under,MB.under,AE,AH,AJ,AG,AF,AI,AK,-map_take,-map_replicate,-map_set];done))⟩;rcases lt_or_ge k i with h|h
   ·exact hg k q h hq
   ·obtain rfl:k=i:=by omega
    rw[hp]at hq;obtain rfl:=Option.some.inj hq;exact hpx
 ·intro hg;have:¬ x∈l:=fun hm=>by
   obtain⟨i,hi,e⟩:=List.getElem_of_mem hm;exact hg i x hi (by rw[<- e];exact getElem?_eq_getElem hi) rfl
  rw[decide_eq_false this];simp +contextual (disch:=omega) only[Tryz.f60,dd60,go_sem,simprocAttr,mu60,↓AD,↓AC,↓AB,↓AA];exact fzEq rfl rfl
theorem f134 (l:List Int) (x:Int) (hl:l.length<=10000000):∃ r:Int,(0<=r↔x∈l)/\∀ H,call Pg pol1 109 [.sl false (l.map I),I x] H=some (I r,H):=by
 have h:∃ r,(∃ i:Int,(0<=i↔x∈l)/\r=I i)/\∀ H,call Pg pol1 109 [.sl false (l.map I),I x] H=some (r,H):=by
  refine Fm Tryz.func109 rfl rfl rfl rfl rfl rfl (fun _=>rfl) (by simp[AV.plain,AV.plainL,AG]) ?_ ?_
  ·rintro _ ⟨i,_,rfl⟩;rfl
  simp +contextual (disch:=omega) only[Tryz.f109,Mp,go_sem,simprocAttr,Mc,↓AD,↓AC,↓AB,↓AA];refine Ae (M:=(mskOf (pol1.mask 109) (pol1.gc 109) (pol1.acts 109) 0 2)) rfl l.length (fun i=>(⟨19,[(8,I i),(7,I l.length),(1,I x),(0,.sl false (l.map I))],[]⟩:St)) (fun i=>∀ k p,k<i->l[k]?=some p->p≠x) ?_ ?_ (fun k p h=>by omega) _ (by first|rfl|(simp[keepT,AV.underL,AV.under,MB.under,AE,AH,AJ,AG,AF,AI,AK,-map_take,-map_replicate,-map_set];done))
  ·intro i hi hg;obtain⟨p,hp⟩:∃ p,l[i]?=some p:=⟨_,getElem?_eq_getElem hi⟩;by_cases hpx:p=x
   ·subst hpx;simp +contextual (disch:=omega) only[Tryz.f109,Mp,go_sem,simprocAttr,Mc,↓AD,↓AC,↓AB,↓AA,hp];exact⟨_,⟨i,⟨fun _=>mem_of_getElem? hp,fun _=>by omega⟩,rfl⟩,_,rfl⟩
   ·simp +contextual (disch:=omega) only[Tryz.f109,Mp,go_sem,simprocAttr,Mc,↓AD,↓AC,↓AB,↓AA,hp];refine⟨fun k q hk hq=>?_,(by first|rfl|(simp[keepT,AV.underL,AV.under,MB.under,AE,AH,AJ,AG,AF,AI,AK,-map_take,-map_replicate,-map_set];done))⟩;rcases lt_or_ge k i with h|h
    ·exact hg k q h hq
    ·obtain rfl:k=i:=by omega
     rw[hp]at hq;obtain rfl:=Option.some.inj hq;exact hpx
  ·intro hg;have:¬ x∈l:=fun hm=>by
    obtain⟨i,hi,e⟩:=List.getElem_of_mem hm;exact hg i x hi (by rw[<- e];exact getElem?_eq_getElem hi) rfl
   simp +contextual (disch:=omega) only[Tryz.f109,Mp,go_sem,simprocAttr,Mc,↓AD,↓AC,↓AB,↓AA];exact⟨_,⟨-1,⟨fun h=>by omega,fun h=>absurd h this⟩,rfl⟩,_,rfl⟩
 obtain⟨_,⟨i,h1,rfl⟩,h2⟩:=h;exact⟨i,h1,h2⟩
theorem f106 (l:List Int) (x:Int) (hl:l.length<=10000000) (H:List MB):call Pg pol1 84 [.sl false (l.map I),I x] H=some (.bool (decide (x∈l)),H):=by
 refine AX Tryz.func84 rfl rfl rfl rfl rfl rfl (fun _=>rfl) (by simp[AV.plain,AV.plainL,AG]) rfl ?_ H;obtain⟨r,h1,h2⟩:=f134 l x hl;simp +contextual (disch:=omega) only[Tryz.f84,dd84,go_sem,simprocAttr,mu84,↓AD,↓AC,↓AB,↓AA,h2];refine fzEq rfl (congrArg AV.bool ?_);rw[decide_eq_decide];exact h1
def zi (m:Nat):Nat->Nat
 | 0=>0
 | _+1=>m
theorem Nl (m i:Nat):max (zi m i) m=m:=by cases i<;>simp[zi]
theorem f53 (caps top:Int):∀(N:Nat) (r:Re) (ins:List Int),r.wt<=N->r.wt<=1000000->ins.length+r.wt<=2000000->wholeG caps top r=true->∀ H,call Pg pol1 28 [reAV r,.sl false (ins.map I)] H=some (.bool (compG ins r),H)
 | 0,r,_,h,_,_,_=>by have:=r.wt_pos;omega
 | N+1,.mk op set kids mn mx md n neg,ins,h,hN,hI,hw=>by
   intro H;have hkl:=Re.wtL_len kids;have hwt:1+set.length+Re.wtL kids=(Re.mk op set kids mn mx md n neg).wt:=by simp[Re.wt]
   obtain⟨hwk,hkd,hrp,_,ho1,ho2⟩:=BC hw;have ih:=fun k (hk:k∈kids) (ins':List Int) (hi:ins'.length<=ins.length+1)=>f53 caps top N k ins' (by have:=Re.wtL_mem hk;omega) (by have:=Re.wtL_mem hk;omega) (by have:=Re.wtL_mem hk;omega) (hwk k hk);have h20:=fun k (hk:k∈kids)=>f20 k.wt k (le_refl _) (by have:=Re.wtL_mem hk;omega);have h115:=f115 ins n (by omega);rw[show reAV (.mk op set kids mn mx md n neg)=.agg (nodeL op set kids mn mx md n neg) from congrArg AV.agg Bh];refine AX Tryz.func28 rfl rfl rfl rfl rfl rfl (fun _=>rfl) (by simp[AV.plain,AV.plainL,AF,AN,AG]) rfl ?_ H;rw[compG];by_cases h4:op=4/\(md=2∨nullHd kids=true)
   ·rw[if_pos h4];obtain⟨rfl,h4⟩:=h4;by_cases hmd:md=2
    ·simp +contextual (disch:=omega) only[Tryz.f28,dd28,go_sem,simprocAttr,mu28,↓AD,↓AC,↓AB,↓AA];exact fzEq rfl rfl
    ·have hnl:nullHd kids=true:=by rcases h4 with h|h;exact absurd h hmd;exact h
     cases kids with
     | nil=>simp[nullHd]at hnl
     | cons k ks=>
       have h20k:=h20 k (mem_cons_self ..);rw[show nullG k=true from hnl]at h20k;have hl8:=AM k;have ht8:=AU k;simp only[length_cons]at hkl;simp +contextual (disch:=omega) only[Tryz.f28,dd28,go_sem,simprocAttr,mu28,↓AD,↓AC,↓AB,↓AA,h20k,hl8,ht8];exact fzEq rfl rfl
   rw[if_neg h4];by_cases h5:op=5
   ·subst h5;rw[if_pos rfl];by_cases hm:n∈ins
    ·rw[if_pos hm];rw[decide_eq_true hm]at h115;simp +contextual (disch:=omega) only[Tryz.f28,dd28,go_sem,simprocAttr,mu28,↓AD,↓AC,↓AB,↓AA,h115];exact fzEq rfl rfl
    ·rw[if_neg hm];rw[decide_eq_false hm]at h115;have hcall:∀(b0:MB) (z:Nat) (k:Re),k∈kids->call Pg pol1 28 [reAV k,.ms 1 1 (ins.length+1) 0 (ins.length+1)] [b0,.row 1 ((ins++[n]).map I) z]=some (.bool (compG (ins++[n]) k),[b0,.row 1 ((ins++[n]).map I) (max z (ins.length+1))]):=fun b0 z k hk=>by
      have h1:frzArgs pol1 28 0 [reAV k,.ms 1 1 (ins.length+1) 0 (ins.length+1)] [b0,.row 1 ((ins++[n]).map I) z]=some ([reAV k,.sl false ((ins++[n]).map I)],[b0,.row 1 ((ins++[n]).map I) (max z (ins.length+1))]):=by
       have h2:fz (.ms 1 1 (ins.length+1) 0 (ins.length+1)) [b0,.row 1 ((ins++[n]).map I) z]=some (.sl false ((ins++[n]).map I),[b0,.row 1 ((ins++[n]).map I) (max z (ins.length+1))]):=
        De (k:=1) (z:=z) rfl (by simp) (AG _)
       have hby:∀ i,pol1.byref 28 i=false:=fun i=>rfl;simp only[frzArgs,hby,Bool.false_eq_true,if_false,Az _ (show AV.plain (reAV k)=true from AZ k),h2]
      rw[PB rfl h1 (by simp[AV.plainL,AV.plain,AZ,AG,-map_append])];exact ih k hk (ins++[n]) (by simp) _
     have hmm:∀ z,z=0∨z=ins.length+1->max z (ins.length+1)=ins.length+1:=fun z hz=>by omega
     have hinl:ins.length<=2000000:=by omega
     cases ins with
     | nil=>
       simp only[map_nil,map_cons,List.nil_append,List.length_nil,Nat.zero_add]at h115 hcall;simp +contextual (disch:=omega) only[Tryz.f28,dd28,go_sem,simprocAttr,mu28,↓AD,↓AC,↓AB,↓AA,h115];repeat' (first|intro _|apply And.intro|(unfold dOk;kernel_rfl)|(show (_||_)=true;kernel_rfl)|(show (_&&_)=true;kernel_rfl))
       refine Ae (M:=(mskOf (pol1.mask 28) (pol1.gc 28) (pol1.acts 28) 0 12)) rfl kids.length (fun i=>(⟨61,[(7,I i),(2,.rf 0 1 0 0),(1,.ms 1 1 (1) 0 (1))],[.row 8 [.agg (nodeL 5 set kids mn mx md n neg)] 0,.row 1 ([I n]) (zi (1) i)]⟩:St)) (fun i=>∀ j k,j<i->kids[j]?=some k->compG ([n]) k=true) ?_ ?_ (fun j k h=>by omega) _ (by first|rfl|(refine Ar (n:=2) (m:=⟨some [7,2,1],some 2,[]⟩) rfl rfl ?_ ?_ ?_<;>first|rfl|(simp[keepT,AV.underL,AV.under,MB.under,AE,AH,AJ,AG,AF,AI,AK,-map_take,-map_replicate,-map_set,AN,zi];done)|(simp[keepT,AV.underL,AV.under,MB.under,AE,AH,AJ,AG,AF,AI,AK,-map_take,-map_replicate,-map_set,AN,zi];omega)))
       ·intro i hi hg;obtain⟨k,hk⟩:∃ k,kids[i]?=some k:=⟨_,getElem?_eq_getElem hi⟩;have ihk:=fun b0 z=>hcall b0 z k (mem_of_getElem? hk);have hl8:=AM k;have ht8:=AU k;have hz:=Nl (1) i;cases hn:compG ([n]) k with
        | false=>
          rw[hn]at ihk;rw[show compL [n] kids=false from Cf (mem_of_getElem? hk) hn];simp +contextual (disch:=omega) only[Tryz.f28,dd28,go_sem,simprocAttr,mu28,↓AD,↓AC,↓AB,↓AA,hk,ihk,hl8,ht8];exact fzEq rfl rfl
        | true=>
          rw[hn]at ihk;simp +contextual (disch:=omega) only[Tryz.f28,dd28,go_sem,simprocAttr,mu28,↓AD,↓AC,↓AB,↓AA,hk,ihk,hl8,ht8,hz];refine⟨fun j q hj hq=>?_,(by first|rfl|(refine Ar (n:=2) (m:=⟨some [7,2,1],some 2,[]⟩) rfl rfl ?_ ?_ ?_<;>first|rfl|(simp[keepT,AV.underL,AV.under,MB.under,AE,AH,AJ,AG,AF,AI,AK,-map_take,-map_replicate,-map_set,AN,AG];done)|(simp[keepT,AV.underL,AV.under,MB.under,AE,AH,AJ,AG,AF,AI,AK,-map_take,-map_replicate,-map_set,AN,AG];omega)))⟩;rcases lt_or_ge j i with h|h
          ·exact hg j q h hq
          ·obtain rfl:j=i:=by omega
           rw[hk]at hq;obtain rfl:=Option.some.inj hq;exact hn
       ·intro hg;rw[show compL [n] kids=true from C7 fun j k hj hk=>hg j k hj hk];simp +contextual (disch:=omega) only[Tryz.f28,dd28,go_sem,simprocAttr,mu28,↓AD,↓AC,↓AB,↓AA];exact fzEq rfl rfl
     | cons x xs=>
       simp only[map_nil,map_cons,map_append,cons_append,length_cons]at h115 hcall hinl;have hto:List.take (xs.length+1) (I x::List.map I xs)=I x::List.map I xs:=by rw[List.take_succ_cons];rw[DY rfl]
       have hsn:x::(xs++[n])=(x::xs)++[n]:=rfl;have hal:=LM (x::xs);simp +contextual (disch:=omega) only[Tryz.f28,dd28,go_sem,simprocAttr,mu28,↓AD,↓AC,↓AB,↓AA,h115,hto];repeat' (first|intro _|apply And.intro|(unfold dOk;kernel_rfl)|(show (_||_)=true;kernel_rfl)|(show (_&&_)=true;kernel_rfl))
       ·exact LM xs
       refine Ae (M:=(mskOf (pol1.mask 28) (pol1.gc 28) (pol1.acts 28) 0 12)) rfl kids.length (fun i=>(⟨61,[(7,I i),(2,.rf 0 1 0 0),(1,.ms 1 1 (xs.length+1+1) 0 (xs.length+1+1))],[.row 8 [.agg (nodeL 5 set kids mn mx md n neg)] 0,.row 1 (I x::(List.map I xs++[I n])) (zi (xs.length+1+1) i)]⟩:St)) (fun i=>∀ j k,j<i->kids[j]?=some k->compG (x::(xs++[n])) k=true) ?_ ?_ (fun j k h=>by omega) _ (by first|rfl|(refine Ar (n:=2) (m:=⟨some [7,2,1],some 2,[]⟩) rfl rfl ?_ ?_ ?_<;>first|rfl|(simp[keepT,AV.underL,AV.under,MB.under,AE,AH,AJ,AG,AF,AI,AK,-map_take,-map_replicate,-map_set,AN,zi];done)|(simp[keepT,AV.underL,AV.under,MB.under,AE,AH,AJ,AG,AF,AI,AK,-map_take,-map_replicate,-map_set,AN,zi];omega)))
       ·intro i hi hg;obtain⟨k,hk⟩:∃ k,kids[i]?=some k:=⟨_,getElem?_eq_getElem hi⟩;have ihk:=fun b0 z=>hcall b0 z k (mem_of_getElem? hk);have hl8:=AM k;have ht8:=AU k;have hz:=Nl (xs.length+1+1) i;cases hn:compG (x::(xs++[n])) k with
        | false=>
          rw[hn]at ihk;rw[show compL (x::(xs++[n])) kids=false from Cf (mem_of_getElem? hk) hn];simp +contextual (disch:=omega) only[Tryz.f28,dd28,go_sem,simprocAttr,mu28,↓AD,↓AC,↓AB,↓AA,hk,ihk,hl8,ht8];exact fzEq rfl rfl
        | true=>
          rw[hn]at ihk;simp +contextual (disch:=omega) only[Tryz.f28,dd28,go_sem,simprocAttr,mu28,↓AD,↓AC,↓AB,↓AA,hk,ihk,hl8,ht8,hz];refine⟨fun j q hj hq=>?_,(by first|rfl|(refine Ar (n:=2) (m:=⟨some [7,2,1],some 2,[]⟩) rfl rfl ?_ ?_ ?_<;>first|rfl|(simp[keepT,AV.underL,AV.under,MB.under,AE,AH,AJ,AG,AF,AI,AK,-map_take,-map_replicate,-map_set,AN,AG];done)|(simp[keepT,AV.underL,AV.under,MB.under,AE,AH,AJ,AG,AF,AI,AK,-map_take,-map_replicate,-map_set,AN,AG];omega)))⟩;rcases lt_or_ge j i with h|h
          ·exact hg j q h hq
          ·obtain rfl:j=i:=by omega
           rw[hk]at hq;obtain rfl:=Option.some.inj hq;exact hn
       ·intro hg;rw[show compL (x::(xs++[n])) kids=true from C7 fun j k hj hk=>hg j k hj hk];simp +contextual (disch:=omega) only[Tryz.f28,dd28,go_sem,simprocAttr,mu28,↓AD,↓AC,↓AB,↓AA];exact fzEq rfl rfl
   rw[if_neg h5];by_cases h6:5<op/\op≠11
   ·rw[if_pos h6];have hnl:op=4->¬ nullHd kids=true:=fun h=>by omega
    simp +contextual (disch:=omega) only[Tryz.f28,dd28,go_sem,simprocAttr,mu28,↓AD,↓AC,↓AB,↓AA];exact fzEq rfl rfl
   rw[if_neg h6];have hfrz:∀ k (H:List MB),k∈kids->call Pg pol1 28 [reAV k,.sl false (ins.map I)] H=some (.bool (compG ins k),H):=fun k H hk=>ih k hk ins (by omega) H;have hmain:∀ k',kids.head?=some k'->op=4->∀ H,call Pg pol1 59 [reAV k'] H=some (.bool false,H):=fun k' hk' hop4=>by
    cases kids with
    | nil=>cases hk'
    | cons k ks=>
      have e:k=k':=by simpa using hk'
      subst e;have h1:=h20 k (mem_cons_self ..);have:nullG k=false:=by
       cases hn:nullG k with
       | false=>rfl
       | true=>exact absurd ⟨hop4,.inr hn⟩ h4
      rw[this]at h1;exact h1
   have hloop:∀ r,r=compL ins kids->op≠5->True:=fun _ _ _=>trivial;have hone:op=4->kids.length=1:=fun h=>by subst h;simpa [kidsG] using hkd
   by_cases ho4:op=4
   ·subst ho4;have hmd:¬ md=2:=fun h=>h4 ⟨rfl,.inl h⟩;have hk1:=hone rfl
    match kids,hk1 with
    | [k],_=>
      have h20k:=hmain k rfl rfl;have hl8:=AM k;have ht8:=AU k;have hf:=fun H=>hfrz k H (mem_cons_self ..);generalize hks:([k]:List Re)=kids at *;have hkk:kids.map reAV=[reAV k]:=by rw[<- hks];rfl
      have hget:(kids.map reAV)[0]?=some (reAV k):=by rw[hkk];rfl
      have hget':kids[0]?=some k:=by rw[<- hks];rfl
      have hlen1:kids.length=1:=by rw[<- hks];rfl
      clear hmain hloop hone;simp +contextual (disch:=omega) only[Tryz.f28,dd28,go_sem,simprocAttr,mu28,↓AD,↓AC,↓AB,↓AA,h20k,hl8,ht8,hget'];refine Ae (M:=(mskOf (pol1.mask 28) (pol1.gc 28) (pol1.acts 28) 0 12)) rfl (kids).length (fun i=>(⟨61,[(7,I i),(2,.rf 0 1 0 0),(1,.sl false (ins.map I))],[.row 8 [.agg (nodeL _ set (kids) mn mx md n neg)] 0]⟩:St)) (fun i=>∀ j k,j<i->(kids)[j]?=some k->compG ins k=true) ?_ ?_ (fun j k h=>by omega) _ (by first|rfl|(refine Ar (n:=2) (m:=⟨some [7,2,1],some 2,[]⟩) rfl rfl ?_ ?_ ?_<;>first|rfl|(simp[keepT,AV.underL,AV.under,MB.under,AE,AH,AJ,AG,AF,AI,AK,-map_take,-map_replicate,-map_set,AN,AZ];done)|(simp[keepT,AV.underL,AV.under,MB.under,AE,AH,AJ,AG,AF,AI,AK,-map_take,-map_replicate,-map_set,AN,AZ];omega)))
      ·intro i hi hg;obtain⟨k,hk⟩:∃ k,(kids)[i]?=some k:=⟨_,getElem?_eq_getElem hi⟩;have ihk:=fun H=>hfrz k H (mem_of_getElem? hk);have hl8:=AM k;have ht8:=AU k;cases hn:compG ins k with
       | false=>
         rw[hn]at ihk;rw[show compL ins (kids)=false from Cf (mem_of_getElem? hk) hn];simp +contextual (disch:=omega) only[Tryz.f28,dd28,go_sem,simprocAttr,mu28,↓AD,↓AC,↓AB,↓AA,hk,ihk,hl8,ht8];exact fzEq rfl rfl
       | true=>
         rw[hn]at ihk;simp +contextual (disch:=omega) only[Tryz.f28,dd28,go_sem,simprocAttr,mu28,↓AD,↓AC,↓AB,↓AA,hk,ihk,hl8,ht8];refine⟨fun j q hj hq=>?_,(by first|rfl|(refine Ar (n:=2) (m:=⟨some [7,2,1],some 2,[]⟩) rfl rfl ?_ ?_ ?_<;>first|rfl|(simp[keepT,AV.underL,AV.under,MB.under,AE,AH,AJ,AG,AF,AI,AK,-map_take,-map_replicate,-map_set,AN,AZ];done)|(simp[keepT,AV.underL,AV.under,MB.under,AE,AH,AJ,AG,AF,AI,AK,-map_take,-map_replicate,-map_set,AN,AZ];omega)))⟩;rcases lt_or_ge j i with h|h
         ·exact hg j q h hq
         ·obtain rfl:j=i:=by omega
          rw[hk]at hq;obtain rfl:=Option.some.inj hq;exact hn
      ·intro hg;rw[show compL ins (kids)=true from C7 fun j k hj hk=>hg j k hj hk];simp +contextual (disch:=omega) only[Tryz.f28,dd28,go_sem,simprocAttr,mu28,↓AD,↓AC,↓AB,↓AA];exact fzEq rfl rfl
   ·have hop:op=0∨op=1∨op=2∨op=3∨op=11:=by omega
    clear hmain hloop hone h4;rcases hop with rfl|rfl|rfl|rfl|rfl
    all_goals (
     simp +contextual (disch:=omega) only[Tryz.f28,dd28,go_sem,simprocAttr,mu28,↓AD,↓AC,↓AB,↓AA];refine Ae (M:=(mskOf (pol1.mask 28) (pol1.gc 28) (pol1.acts 28) 0 12)) rfl (kids).length (fun i=>(⟨61,[(7,I i),(2,.rf 0 1 0 0),(1,.sl false (ins.map I))],[.row 8 [.agg (nodeL _ set (kids) mn mx md n neg)] 0]⟩:St)) (fun i=>∀ j k,j<i->(kids)[j]?=some k->compG ins k=true) ?_ ?_ (fun j k h=>by omega) _ (by first|rfl|(refine Ar (n:=2) (m:=⟨some [7,2,1],some 2,[]⟩) rfl rfl ?_ ?_ ?_<;>first|rfl|(simp[keepT,AV.underL,AV.under,MB.under,AE,AH,AJ,AG,AF,AI,AK,-map_take,-map_replicate,-map_set,AN,AZ];done)|(simp[keepT,AV.underL,AV.under,MB.under,AE,AH,AJ,AG,AF,AI,AK,-map_take,-map_replicate,-map_set,AN,AZ];omega)))
     ·intro i hi hg;obtain⟨k,hk⟩:∃ k,(kids)[i]?=some k:=⟨_,getElem?_eq_getElem hi⟩;have ihk:=fun H=>hfrz k H (mem_of_getElem? hk);have hl8:=AM k;have ht8:=AU k;cases hn:compG ins k with
      | false=>
        rw[hn]at ihk;rw[show compL ins (kids)=false from Cf (mem_of_getElem? hk) hn];simp +contextual (disch:=omega) only[Tryz.f28,dd28,go_sem,simprocAttr,mu28,↓AD,↓AC,↓AB,↓AA,hk,ihk,hl8,ht8];exact fzEq rfl rfl
      | true=>
        rw[hn]at ihk;simp +contextual (disch:=omega) only[Tryz.f28,dd28,go_sem,simprocAttr,mu28,↓AD,↓AC,↓AB,↓AA,hk,ihk,hl8,ht8];refine⟨fun j q hj hq=>?_,(by first|rfl|(refine Ar (n:=2) (m:=⟨some [7,2,1],some 2,[]⟩) rfl rfl ?_ ?_ ?_<;>first|rfl|(simp[keepT,AV.underL,AV.under,MB.under,AE,AH,AJ,AG,AF,AI,AK,-map_take,-map_replicate,-map_set,AN,AZ];done)|(simp[keepT,AV.underL,AV.under,MB.under,AE,AH,AJ,AG,AF,AI,AK,-map_take,-map_replicate,-map_set,AN,AZ];omega)))⟩;rcases lt_or_ge j i with h|h
        ·exact hg j q h hq
        ·obtain rfl:j=i:=by omega
         rw[hk]at hq;obtain rfl:=Option.some.inj hq;exact hn
     ·intro hg;rw[show compL ins (kids)=true from C7 fun j k hj hk=>hg j k hj hk];simp +contextual (disch:=omega) only[Tryz.f28,dd28,go_sem,simprocAttr,mu28,↓AD,↓AC,↓AB,↓AA];exact fzEq rfl rfl)
end
section
attribute [local go_sem] evAppend tySzE head?_drop mul_one AR AY AP AS AT Ad
def insSplit (md next other:Int):Ins:=if md=1 then⟨2,other,next,0,[]⟩ else⟨2,next,other,0,[]⟩
mutual
def codeG:Re->Nat->List Ins
 | .mk op set kids mn mx md n neg,f=>
   if op=1 then [⟨1,0,0,0,set⟩] else if op=11 then [⟨5,0,0,n,[]⟩] else if op=2 then codeCat kids f else if op=3 then codeAlt kids f
   else if op=5 then⟨4,0,0,2*n-2,[]⟩::(codeHd kids (f+1)++[⟨4,0,0,2*n-1,[]⟩])
   else if op=4 then
    let L:=lenL kids
    let copies:=(List.range mn.toNat).flatMap fun i=>codeHd kids (f+i*L)
    let p:=f+mn.toNat*L
    if mx = -1 then copies++(insSplit md ((p+1:Nat):Int) ((p+L+2:Nat):Int)::(codeHd kids (p+1)++[⟨3,(p:Int),0,0,[]⟩]))
    else copies++(List.range (mx.toNat-mn.toNat)).flatMap fun j=>insSplit md ((p+j*(L+1)+1:Nat):Int) ((f+mx.toNat*L+(mx.toNat-mn.toNat):Nat):Int)::codeHd kids (p+j*(L+1)+1)
   else []
def codeCat:List Re->Nat->List Ins
 | [],_=>[]
 | k::ks,f=>codeG k f++codeCat ks (f+lenG k)
def codeAlt:List Re->Nat->List Ins
 | [],_=>[]
 | k::ks,f=>if ks.length=0 then codeG k f else
    ⟨2,((f+1:Nat):Int),((f+lenG k+2:Nat):Int),0,[]⟩::(codeG k (f+1)++(⟨3,((f+lenL (k::ks)+2*ks.length:Nat):Int),0,0,[]⟩::codeAlt ks (f+lenG k+2)))
def codeHd:List Re->Nat->List Ins
 | [],_=>[]
 | k::_,f=>codeG k f
end
mutual
def codable:Re->Bool
 | .mk op set kids mn mx md n neg=>(decide (op<=5)||op==11)&&codableL kids
def codableL:List Re->Bool
 | []=>true
 | k::ks=>codable k&&codableL ks
end
theorem FJ:∀ l:List Re,codableL l=true↔∀ k∈l,codable k=true
 | []=>by simp[codableL]
 | k::ks=>by simp[codableL,FJ ks]
mutual
theorem C8:∀(r:Re) (ins:List Int),compG ins r=true->codable r=true
 | .mk op set kids mn mx md n neg,ins,h=>by
   rw[compG]at h;rw[codable,and_eq_true,or_eq_true,decide_eq_true_eq,beq_iff_eq];split at h
   ·cases h
   ·split at h
    ·split at h
     ·cases h
     ·exact⟨.inl (by omega),D5 kids _ h⟩
    ·split at h
     ·cases h
     ·exact⟨by omega,D5 kids _ h⟩
theorem D5:∀(l:List Re) (ins:List Int),compL ins l=true->codableL l=true
 | [],_,_=>rfl
 | k::ks,ins,h=>by
   rw[compL,and_eq_true]at h;rw[codableL,C8 k ins h.1,D5 ks ins h.2];rfl
end
structure GoodC (caps top:Int) (r:Re):Prop where
 whole:wholeG caps top r=true
 cod:codable r=true
theorem GoodC.kids {caps top op:Int}{set:List (Int×Int)}{kids:List Re}{mn mx md n:Int}{neg:Bool} (h:GoodC caps top (.mk op set kids mn mx md n neg)):∀ k∈kids,GoodC caps top k:=by
 intro k hk;have h2:=h.cod;rw[codable,and_eq_true,FJ]at h2;exact⟨(BC h.whole).1 k hk,h2.2 k hk⟩
theorem GoodC.op {caps top op:Int}{set:List (Int×Int)}{kids:List Re}{mn mx md n:Int}{neg:Bool} (h:GoodC caps top (.mk op set kids mn mx md n neg)):op=0∨op=1∨op=2∨op=3∨op=4∨op=5∨op=11:=by
 have h2:=h.cod;rw[codable,and_eq_true,or_eq_true,decide_eq_true_eq,beq_iff_eq]at h2;have h3:=(BC h.whole).2.2.2.2;omega
theorem Dw {α:Type} (g:Nat->List α) (L:Nat):∀ m,(∀ i,i<m->(g i).length=L)->((List.range m).flatMap g).length=m*L
 | 0,_=>by simp
 | m+1,h=>by
   rw[List.range_succ,List.flatMap_append,length_append,Dw g L m (fun i hi=>h i (by omega))];simp only[List.flatMap_cons,List.flatMap_nil,List.append_nil,h m (by omega),Nat.succ_mul]
mutual
theorem BE (caps top:Int):∀(r:Re) (f:Nat),GoodC caps top r->(codeG r f).length=lenG r
 | .mk op set kids mn mx md n neg,f,hw=>by
   have hop:=hw.op;obtain⟨_,hkd,hrp,_,ho1,ho2⟩:=BC hw.whole;have hwk:=hw.kids;have hcat:=D0 caps top kids f hwk;have halt:=GB caps top kids f hwk;have hhd:=fun f=>L6 caps top kids f hwk;rw[codeG,lenG];by_cases h1:op=1
   ·rw[if_pos h1,if_pos (.inl h1)];rfl
   rw[if_neg h1];by_cases h11:op=11
   ·rw[if_pos h11,if_pos (.inr h11)];rfl
   rw[if_neg h11,if_neg (show ¬ (op=1∨op=11) by omega)];by_cases h2:op=2
   ·rw[if_pos h2,if_neg (show ¬ op=3 by omega),if_neg (show ¬ op=5 by omega),if_neg (show ¬ op=4 by omega)];exact hcat
   rw[if_neg h2];by_cases h3:op=3
   ·subst h3;rw[if_pos rfl,if_pos rfl];have:2<=kids.length:=by simpa [kidsG] using hkd
    exact halt (by omega)
   rw[if_neg h3,if_neg h3];have hone:op=4∨op=5->kids.length=1:=fun e=>by rcases e with rfl|rfl<;>simpa [kidsG] using hkd
   by_cases h5:op=5
   ·rw[if_pos h5,if_pos h5];simp[hhd _ (hone (.inr h5))]
   rw[if_neg h5,if_neg h5];by_cases h4:op=4
   ·rw[if_pos h4,if_pos h4];have hh:=fun f=>hhd f (hone (.inl h4));have hr:=hrp h4;simp only[repG,and_eq_true,or_eq_true,decide_eq_true_eq,beq_iff_eq]at hr;by_cases hm:mx = -1
    ·simp only[if_pos hm,length_append,length_cons,List.length_nil];rw[Dw _ (lenL kids) _ (fun i _=>hh _),hh,Nat.succ_mul];omega
    ·simp only[if_neg hm,length_append];rw[Dw _ (lenL kids) _ (fun i _=>hh _),Dw _ (lenL kids+1) _ (fun i _=>by simp[hh])];obtain⟨e,he⟩:∃ e,mx.toNat=mn.toNat+e:=⟨mx.toNat-mn.toNat,by omega⟩;rw[he,Nat.add_sub_cancel_left,Nat.add_mul,Nat.mul_add];omega
   rw[if_neg h4,if_neg h4];have hk0:kids=[]:=by
    have:op=0:=by omega
    subst this;exact length_eq_zero_iff.1 (by simpa [kidsG] using hkd)
   rw[hk0];rfl
theorem D0 (caps top:Int):∀(l:List Re) (f:Nat),(∀ k∈l,GoodC caps top k)->(codeCat l f).length=lenL l
 | [],f,_=>rfl
 | k::ks,f,h=>by
   rw[codeCat,lenL,length_append,BE caps top k f (h k (mem_cons_self ..)),D0 caps top ks _ (fun k hk=>h k (mem_cons_of_mem _ hk))]
theorem GB (caps top:Int):∀(l:List Re) (f:Nat),(∀ k∈l,GoodC caps top k)->1<=l.length->(codeAlt l f).length=lenL l+2*(l.length-1)
 | [],f,_,h=>by simp at h
 | k::ks,f,h,_=>by
   have hk:=fun f=>BE caps top k f (h k (mem_cons_self ..));rw[codeAlt];split
   ·rename_i h0;have:ks=[]:=length_eq_zero_iff.1 h0;subst this;simp[hk,lenL]
   ·rename_i h0;have:=GB caps top ks (f+lenG k+2) (fun k hk=>h k (mem_cons_of_mem _ hk)) (by omega);simp only[length_cons,length_append,hk,this,lenL];omega
theorem L6 (caps top:Int):∀(l:List Re) (f:Nat),(∀ k∈l,GoodC caps top k)->l.length=1->(codeHd l f).length=lenL l
 | [],f,_,h=>by simp at h
 | k::ks,f,h,hl=>by
   have:ks=[]:=length_eq_zero_iff.1 (by simpa using hl);subst this;rw[codeHd,BE caps top k f (h k (mem_cons_self ..))];simp[lenL]
end
end
section
attribute [local go_sem] tySzE head?_drop mul_one AR AY AP AS AT Ad
theorem HB {j:List AV->List MB->Option (List AV×List MB)} (l:List Ins):KeepL j (l.map insAV) (l.map insAV):=KeepL.plain (AI l)
theorem Pl {f id n:Nat}{els:List AV}{c:List Ins}{H:List MB} (hk:pol1.keep f=false) (ho:pol1.own f=true) (hr:getRow H id=some (5,els,0)) (hn:c.length=n) (hK:∀ j,KeepL j els (c.map insAV)) :
  retPol pol1 f [] (.ms id 5 n 0 n) H=some (.ms 0 5 n 0 n,[.row 5 (c.map insAV) 0]):=by
 have hl:=(hK (fun _ _=>none)).len;rw[length_map]at hl;exact Li (els:=els) hk ho hr (by omega) ((hK _).fz H) hr (AI c) (by simp[hn])
theorem Pm {f id n:Nat}{els xs:List AV}{c:List Ins}{H:List MB} (hk:pol1.keep f=false) (ho:pol1.own f=true) (hr:getRow H id=some (5,els,0)) (hn:c.length=n) (hx:xs=c.map insAV) (hK:∀ j,KeepL j els (c.map insAV)) :
 retPol pol1 f [] (.ms id 5 n 0 n) H=some (.ms 0 5 n 0 n,[.row 5 xs 0]):=hx ▸ Pl hk ho hr hn hK
def copiesG (k:Re) (f i:Nat):List Ins:=(List.range i).flatMap fun i=>codeG k (f+i*lenG k)
theorem Kz (k:Re) (f i:Nat):copiesG k f (i+1)=copiesG k f i++codeG k (f+i*lenG k):=by
 simp[copiesG,List.range_succ,List.flatMap_append]
theorem HY {caps top:Int}{k:Re} (h:GoodC caps top k) (f i:Nat):(copiesG k f i).length=i*lenG k:=Dw _ _ _ (fun i _=>BE caps top k _ h)
def optsG (md:Int) (k:Re) (p e i:Nat):List Ins:=(List.range i).flatMap fun j=>insSplit md ((p+j*(lenG k+1)+1:Nat):Int) (e:Nat)::codeG k (p+j*(lenG k+1)+1)
def restG (md:Int) (k:Re) (f m e i:Nat):List Ins:=copiesG k f m++optsG md k (f+m*lenG k) e i
end
section
attribute [local go_sem] tySzE head?_drop mul_one AR AY AP AS AT Ad
theorem Nc {P:Program}{pol:Pol}{f:Nat}{args l:List AV}{H H1:List MB} (hp:pol.pure f=true) (h:frzArgs pol f 0 args H=some (l,H1)) (ha:AV.plainL l=true) :
  call P pol f args H=call P pol f l H1:=by
 have hf:∀(l:List AV) (i:Nat),AV.plainL l=true->frzArgs pol f i l H1=some (l,H1):=by
  intro l
  induction l with
  | nil=>intro i _;rfl
  | cons x l ih=>
    intro i h;simp only[AV.plainL,and_eq_true]at h;simp only[frzArgs,Az H1 h.1,ih (i+1) h.2];split<;>simp_all
 rw[Bk,Bk];unfold evStep;simp only[hp,if_true,h,hf l 0 ha]
theorem D4:∀(a b:List Re) (f:Nat),codeCat (a++b) f=codeCat a f++codeCat b (f+lenL a)
 | [],b,f=>by simp[codeCat,lenL]
 | k::ks,b,f=>by simp[codeCat,lenL,D4 ks b,add_assoc]
theorem Jj {l:List Re}{i:Nat}{k:Re} (h:l[i]?=some k) (f:Nat):codeCat (l.take (i+1)) f=codeCat (l.take i) f++codeG k (f+lenL (l.take i)):=by
 rw[List.take_add_one,h,D4];simp[codeCat]
theorem FD:∀(l:List Re) (i:Nat),lenL (l.take i)<=lenL l:=fun l i=>by
 have:=Ds (l.take i) (l.drop i);rw[List.take_append_drop]at this;omega
end
section
attribute [local go_sem] evAppend tySzE head?_drop mul_one AR AY AP AS AT Ad
theorem f103 (b0 b3:MB) (pc tc:List AV) (hp:AV.plainL pc=true) (htc:AV.plainL tc=true) (caps top:Int) (ht:top<=1114111) (hpc:pc[8]?=some (I caps)) (htc2:tc=[I top]):∀(N:Nat) (r:Re),r.wt<=N->r.wt<=1000000 ->
  ∀(d s:Nat) (g:Bool),s<=256->d<=1000000 ->
  ∃(ok g':Bool) (s':Nat),call Pg pol1 81 [.pt (reC r),I d,.rf 1 1 0 0,.rf 2 1 0 0,.pt pc,.pt tc,.rf 4 1 0 0]
    [b0,.row 1 [I s] 0,.row 1 [.bool g] 0,b3,.row 1 [.clo 81 [.rf 1 1 0 0,.rf 2 1 0 0,.pt pc,.pt tc,.rf 4 1 0 0]] 0] =
   some (.bool ok,[b0,.row 1 [I s'] 0,.row 1 [.bool g'] 0,b3,.row 1 [.clo 81 [.rf 1 1 0 0,.rf 2 1 0 0,.pt pc,.pt tc,.rf 4 1 0 0]] 0]) /\
   ok=decide (s+r.size<=256/\d+r.depth<=25)/\(ok=true->s' = s+r.size/\g' = (g&&wholeG caps top r))
 | 0,r,h,_,_,_,_,_,_=>by have:=r.wt_pos;omega
 | N+1,.mk op set kids mn mx md n neg,h,hN,d,s,g,hs,hd=>by
   have hkl:=Re.wtL_len kids;have hwt:1+set.length+Re.wtL kids=(Re.mk op set kids mn mx md n neg).wt:=by simp[Re.wt]
   have ih:=fun k (hk:k∈kids)=>f103 b0 b3 pc tc hp htc caps top ht hpc htc2 N k (by have:=Re.wtL_mem hk;omega) (by have:=Re.wtL_mem hk;omega);have f104':=f104 caps top ht op set kids mn mx md n neg (by omega) (by omega);rw[show (.pt (reC (.mk op set kids mn mx md n neg)):AV)=.pt (nodeL op set kids mn mx md n neg) from congrArg AV.pt Bh];have hsz:(Re.mk op set kids mn mx md n neg).size=1+Re.sizeL kids:=by simp[Re.size]
   have hdz:(Re.mk op set kids mn mx md n neg).depth=1+Re.depthL kids:=by simp[Re.depth]
   have hwh:wholeG caps top (.mk op set kids mn mx md n neg)=(formedG caps top (.mk op set kids mn mx md n neg)&&wholeL caps top kids):=by rw[wholeG]
   have fr:∀(s:Int) (g:Bool),frzArgs pol1 81 0 [.pt (nodeL op set kids mn mx md n neg),I d,.rf 1 1 0 0,.rf 2 1 0 0,.pt pc,.pt tc,.rf 4 1 0 0]
     [b0,.row 1 [I s] 0,.row 1 [.bool g] 0,b3,.row 1 [.clo 81 [.rf 1 1 0 0,.rf 2 1 0 0,.pt pc,.pt tc,.rf 4 1 0 0]] 0] =
     some ([.pt (nodeL op set kids mn mx md n neg),I d,.rf 1 1 0 0,.rf 2 1 0 0,.pt pc,.pt tc,.rf 4 1 0 0],[b0,.row 1 [I s] 0,.row 1 [.bool g] 0,b3,.row 1 [.clo 81 [.rf 1 1 0 0,.rf 2 1 0 0,.pt pc,.pt tc,.rf 4 1 0 0]] 0]):=fun s g=>
    AL _ _ _ (by simp[mixOk,show pol1.byref 81 2=true from rfl,show pol1.byref 81 3=true from rfl,show pol1.byref 81 4=true from rfl,show pol1.byref 81 5=true from rfl,show pol1.byref 81 6=true from rfl,AV.plain,AV.plainL,AF,AN])
   have rt:∀(x:Bool) (s s':Int) (g g':Bool),retPol pol1 81 [b0,.row 1 [I s] 0,.row 1 [.bool g] 0,b3,.row 1 [.clo 81 [.rf 1 1 0 0,.rf 2 1 0 0,.pt pc,.pt tc,.rf 4 1 0 0]] 0] (.bool x) [b0,.row 1 [I s'] 0,.row 1 [.bool g'] 0,b3,.row 1 [.clo 81 [.rf 1 1 0 0,.rf 2 1 0 0,.pt pc,.pt tc,.rf 4 1 0 0]] 0] =
     some (.bool x,[b0,.row 1 [I s'] 0,.row 1 [.bool g'] 0,b3,.row 1 [.clo 81 [.rf 1 1 0 0,.rf 2 1 0 0,.pt pc,.pt tc,.rf 4 1 0 0]] 0]):=fun x s s' g g'=>
    Bt rfl rfl rfl (by simp[keptOk,MB.beq_refl,MB.under,AV.underL,AV.under]) rfl
   have hs1:((s:Int)+1)=((s+1:Nat):Int):=rfl;subst htc2;by_cases hc:256<s+1∨24<d
   ·refine⟨false,g,s+1,?_,?_,fun h=>by cases h⟩
    ·refine AO (pol:=pol1) Tryz.func81 rfl rfl rfl rfl (fr s g) ?_;have hc':256<s+1∨(¬ 256<s+1/\24<d):=by omega
     rcases hc' with h1|⟨h1,h2⟩
     all_goals (
      simp +contextual (disch:=omega) only[Tryz.f81,dd81,go_sem,simprocAttr,mu81,↓AD,↓AC,↓AB,↓AA,hs1,rt];repeat' (first|intro _|apply And.intro|(unfold dOk;kernel_rfl)|(show (_||_)=true;kernel_rfl)|(show (_&&_)=true;kernel_rfl)))
    ·rw[hsz,hdz]
     symm;rw[decide_eq_false_iff_not]
     omega
   ·have key:∃ r:AV×List MB,(∃(ok g':Bool) (s':Nat),r=(.bool ok,[b0,.row 1 [I s'] 0,.row 1 [.bool g'] 0,b3,.row 1 [.clo 81 [.rf 1 1 0 0,.rf 2 1 0 0,.pt pc,.pt [I top],.rf 4 1 0 0]] 0]) /\
      ok=decide (s+(Re.mk op set kids mn mx md n neg).size<=256/\d+(Re.mk op set kids mn mx md n neg).depth<=25)/\(ok=true->s' = s+(Re.mk op set kids mn mx md n neg).size/\g' = (g&&wholeG caps top (.mk op set kids mn mx md n neg)))) /\
      call Pg pol1 81 [.pt (nodeL op set kids mn mx md n neg),I d,.rf 1 1 0 0,.rf 2 1 0 0,.pt pc,.pt [I top],.rf 4 1 0 0]
       [b0,.row 1 [I s] 0,.row 1 [.bool g] 0,b3,.row 1 [.clo 81 [.rf 1 1 0 0,.rf 2 1 0 0,.pt pc,.pt [I top],.rf 4 1 0 0]] 0]=some r:=by
     rw[hsz,hdz,hwh];refine CJ (pol:=pol1) Tryz.func81 rfl rfl rfl rfl (fr s g) ?_;generalize formedG caps top (.mk op set kids mn mx md n neg)=fg at *;clear hwh hsz hdz;have hd0:d<=24:=by omega
     have hs0:s+1<=256:=by omega
     cases g
     ·simp +contextual (disch:=omega) only[Tryz.f81,dd81,go_sem,simprocAttr,mu81,↓AD,↓AC,↓AB,↓AA,hs1]
      refine Ae (M:=(mskOf (pol1.mask 81) (pol1.gc 81) (pol1.acts 81) 0 6)) rfl kids.length (fun i=>(⟨47,[(32,I i),(31,I kids.length),(6,.rf 4 1 0 0),(1,I d),(0,.pt (nodeL op set kids mn mx md n neg))],[b0,.row 1 [I ((s+1+Re.sizeL (kids.take i):Nat):Int)] 0,.row 1 [.bool (false&&wholeL caps top (kids.take i))] 0,b3,.row 1 [.clo 81 [.rf 1 1 0 0,.rf 2 1 0 0,.pt pc,.pt [I top],.rf 4 1 0 0]] 0]⟩:St))
       (fun i=>s+1+Re.sizeL (kids.take i)<=256/\d+1+Re.depthL (kids.take i)<=25) ?_ ?_ ⟨by simp[Re.sizeL];omega,by simp[Re.depthL];omega⟩ _ ?_
      ·rintro i hi ⟨hb1,hb2⟩;obtain⟨k,hk⟩:∃ k,kids[i]?=some k:=⟨_,getElem?_eq_getElem hi⟩;obtain⟨ok,g2,s2,hcall,hok,himp⟩:=ih k (mem_of_getElem? hk) (d+1) (s+1+Re.sizeL (kids.take i)) (false&&wholeL caps top (kids.take i)) (by omega) (by omega);have e1:=Re.sizeL_take hk;have e2:=Re.depthL_take hk;have e3:=Dm (caps:=caps) (top:=top) hk;have e4:=Re.sizeL_le (l:=kids) (i:=i+1);have e5:=Re.depthL_le (l:=kids) (i:=i+1);have hl8:=AM k;have ht8:=AU k;have hd1:((d:Int)+1)=((d+1:Nat):Int):=rfl;cases ok with
       | false=>
         have hcf:=of_decide_eq_false hok.symm;simp +contextual (disch:=omega) only[Tryz.f81,dd81,go_sem,simprocAttr,mu81,↓AD,↓AC,↓AB,↓AA,hk,hl8,ht8,hd1,hcall];repeat' (first|intro _|apply And.intro|(unfold dOk;kernel_rfl)|(show (_||_)=true;kernel_rfl)|(show (_&&_)=true;kernel_rfl))
         refine⟨_,⟨false,g2,s2,rfl,?_,fun h=>by cases h⟩,rt false _ _ _ _⟩
         symm;rw[decide_eq_false_iff_not];omega
       | true=>
         have hct:=of_decide_eq_true hok.symm;obtain⟨rfl,rfl⟩:=himp rfl;rw[e1,e2,e3,<- Bool.and_assoc];simp +contextual (disch:=omega) only[Tryz.f81,dd81,go_sem,simprocAttr,mu81,↓AD,↓AC,↓AB,↓AA,hk,hl8,ht8,hd1,hcall];repeat' (first|intro _|apply And.intro|(unfold dOk;kernel_rfl)|(show (_||_)=true;kernel_rfl)|(show (_&&_)=true;kernel_rfl))
         rw[add_assoc (s+1)];rfl
      ·rintro⟨hb1,hb2⟩;rw[List.take_length]at hb1 hb2 |-;simp +contextual (disch:=omega) only[Tryz.f81,dd81,go_sem,simprocAttr,mu81,↓AD,↓AC,↓AB,↓AA];refine⟨_,⟨true,(false&&wholeL caps top kids),s+1+Re.sizeL kids,rfl,?_,fun _=>⟨by omega,by simp⟩⟩,rt true _ _ _ _⟩;rfl
      ·rfl
     ·simp +contextual (disch:=omega) only[Tryz.f81,dd81,go_sem,simprocAttr,mu81,↓AD,↓AC,↓AB,↓AA,hs1,f104',hpc]
      refine Ae (M:=(mskOf (pol1.mask 81) (pol1.gc 81) (pol1.acts 81) 0 6)) rfl kids.length (fun i=>(⟨47,[(32,I i),(31,I kids.length),(6,.rf 4 1 0 0),(1,I d),(0,.pt (nodeL op set kids mn mx md n neg))],[b0,.row 1 [I ((s+1+Re.sizeL (kids.take i):Nat):Int)] 0,.row 1 [.bool (fg&&wholeL caps top (kids.take i))] 0,b3,.row 1 [.clo 81 [.rf 1 1 0 0,.rf 2 1 0 0,.pt pc,.pt [I top],.rf 4 1 0 0]] 0]⟩:St))
       (fun i=>s+1+Re.sizeL (kids.take i)<=256/\d+1+Re.depthL (kids.take i)<=25) ?_ ?_ ⟨by simp[Re.sizeL];omega,by simp[Re.depthL];omega⟩ _ ?_
      ·rintro i hi ⟨hb1,hb2⟩;obtain⟨k,hk⟩:∃ k,kids[i]?=some k:=⟨_,getElem?_eq_getElem hi⟩;obtain⟨ok,g2,s2,hcall,hok,himp⟩:=ih k (mem_of_getElem? hk) (d+1) (s+1+Re.sizeL (kids.take i)) (fg&&wholeL caps top (kids.take i)) (by omega) (by omega);have e1:=Re.sizeL_take hk;have e2:=Re.depthL_take hk;have e3:=Dm (caps:=caps) (top:=top) hk;have e4:=Re.sizeL_le (l:=kids) (i:=i+1);have e5:=Re.depthL_le (l:=kids) (i:=i+1);have hl8:=AM k;have ht8:=AU k;have hd1:((d:Int)+1)=((d+1:Nat):Int):=rfl;cases ok with
       | false=>
         have hcf:=of_decide_eq_false hok.symm;simp +contextual (disch:=omega) only[Tryz.f81,dd81,go_sem,simprocAttr,mu81,↓AD,↓AC,↓AB,↓AA,hk,hl8,ht8,hd1,hcall];repeat' (first|intro _|apply And.intro|(unfold dOk;kernel_rfl)|(show (_||_)=true;kernel_rfl)|(show (_&&_)=true;kernel_rfl))
         refine⟨_,⟨false,g2,s2,rfl,?_,fun h=>by cases h⟩,rt false _ _ _ _⟩
         symm;rw[decide_eq_false_iff_not];omega
       | true=>
         have hct:=of_decide_eq_true hok.symm;obtain⟨rfl,rfl⟩:=himp rfl;rw[e1,e2,e3,<- Bool.and_assoc];simp +contextual (disch:=omega) only[Tryz.f81,dd81,go_sem,simprocAttr,mu81,↓AD,↓AC,↓AB,↓AA,hk,hl8,ht8,hd1,hcall];repeat' (first|intro _|apply And.intro|(unfold dOk;kernel_rfl)|(show (_||_)=true;kernel_rfl)|(show (_&&_)=true;kernel_rfl))
         rw[add_assoc (s+1)];rfl
      ·rintro⟨hb1,hb2⟩;rw[List.take_length]at hb1 hb2 |-;simp +contextual (disch:=omega) only[Tryz.f81,dd81,go_sem,simprocAttr,mu81,↓AD,↓AC,↓AB,↓AA];refine⟨_,⟨true,(fg&&wholeL caps top kids),s+1+Re.sizeL kids,rfl,?_,fun _=>⟨by omega,by simp⟩⟩,rt true _ _ _ _⟩;rfl
      ·rw[show (fg&&wholeL caps top (List.take 0 kids))=fg by simp[wholeL]];rfl
    obtain⟨r,⟨ok,g',s',rfl,h1,h2⟩,h3⟩:=key;exact⟨ok,g',s',h3,h1,h2⟩
structure Pat where
 re:Re
 caps:Int
 runes:Bool
abbrev patC (p:Pat):List AV:=reC p.re++[I p.caps,.bool p.runes]
abbrev patAV (p:Pat):AV:=.agg (patC p)
theorem Aw (p:Pat):AV.plainL (patC p)=true:=by
 rw[Ea];intro x hx;rcases List.mem_append.1 hx with h|h
 ·exact(Ea _).1 (AZ p.re) x h
 ·simp at h;rcases h with rfl|rfl<;>rfl
def topI (r:Bool):Int:=if r then 1114111 else 255
theorem JC (r:Bool):topI r<=1114111:=by cases r<;>simp[topI]
def validP (p:Pat):Int:=if 256<p.re.size∨24<p.re.depth then 4 else if p.caps<0∨9<p.caps∨wholeG p.caps (topI p.runes) p.re=false then 1 else 0
theorem f48 (p:Pat) (hw:p.re.wt<=1000000) (H:List MB):call Pg pol1 49 [patAV p] H=some (I (validP p),H):=by
 obtain⟨re,caps,runes⟩:=p;simp only at hw;refine AX Tryz.func49 rfl rfl rfl rfl rfl rfl (fun _=>rfl) (by simp[AV.plainL,AV.plain];exact Aw _) rfl ?_ H;have hl8:=AM re;have hpl:=Aw ⟨re,caps,runes⟩;have hget8:(reC re++[I caps,.bool runes])[8]?=some (I caps):=by rw[List.getElem?_append_right (by omega),hl8];rfl
 have hget9:(reC re++[I caps,.bool runes])[9]?=some (.bool runes):=by rw[List.getElem?_append_right (by omega),hl8];rfl
 have hz:fz (.rf 0 1 0 0) [.row 10 [.agg (reC re++[I caps,.bool runes])] 0]=some (.pt (reC re++[I caps,.bool runes]),[.row 10 [.agg (reC re++[I caps,.bool runes])] 1]):=
  HK (x:=.agg (reC re++[I caps,.bool runes])) (k:=10) (z:=0) rfl rfl rfl hpl
 have hlen:(reC re).length+(0+1+1)=10:=by omega
 have h102:=f102 runes;have hall:=Au re;have hz2:∀(b0 b1 b2:MB) (t:Int),fz (.rf 3 1 0 0) [b0,b1,b2,.row 1 [I t] 0]=some (.pt [I t],[b0,b1,b2,.row 1 [I t] 1]):=fun b0 b1 b2 t=>HK (x:=I t) (k:=1) (z:=0) rfl rfl rfl rfl;have htk8:∀ l,List.take 8 (reC re++l)=reC re:=fun l=>by
  rw[List.take_append_of_le_length (by omega)];exact List.take_of_length_le (by omega)
 rw[show (if runes=true then(1114111:Int) else 255)=topI runes from rfl]at h102;have ht:=JC runes;have h103:=fun(b0 b3:MB) (g:Bool)=>f103 b0 b3 (reC re++[I caps,.bool runes]) [I (topI runes)] hpl rfl caps (topI runes) ht hget8 rfl re.wt re (le_refl _) hw 1 0 g (by omega) (by omega);unfold validP;simp only;have hcp:(0<=caps/\caps<=9)∨(0<=caps/\¬ caps<=9)∨¬ 0<=caps:=by omega
 generalize topI runes=top at *;rcases hcp with ⟨hc1,hc2⟩|⟨hc1,hc2⟩|hc1
 ·obtain⟨ok,g',s',hcall,hok,himp⟩:=h103 (.row 10 [.agg (reC re++[I caps,.bool runes])] 1) (.row 1 [I top] 1) true;rw[show ((1:Nat):Int)=1 from rfl,show ((0:Nat):Int)=0 from rfl]at hcall;cases ok with
  | false=>
    have hcf:=of_decide_eq_false hok.symm;rw[if_pos (by omega)];simp +contextual (disch:=omega) only[Tryz.f49,dd49,go_sem,simprocAttr,mu49,↓AD,↓AC,↓AB,↓AA,hl8,hget8,hget9,hz,hz2,h102,hall,htk8,hcall,all_append,lookD,look];exact fzEq rfl rfl
  | true=>
    have hct:=of_decide_eq_true hok.symm;obtain⟨_,hg'⟩:=himp rfl;rw[if_neg (by omega)];cases hwg:wholeG caps top re with
    | true=>
      rw[if_neg (by simp;omega)];rw[hwg]at hg';simp only[Bool.and_true]at hg';subst hg';simp +contextual (disch:=omega) only[Tryz.f49,dd49,go_sem,simprocAttr,mu49,↓AD,↓AC,↓AB,↓AA,hl8,hget8,hget9,hz,hz2,h102,hall,htk8,hcall,all_append,lookD,look];exact fzEq rfl rfl
    | false=>
      rw[if_pos (by simp)];rw[hwg]at hg';simp only[Bool.and_false]at hg';subst hg';simp +contextual (disch:=omega) only[Tryz.f49,dd49,go_sem,simprocAttr,mu49,↓AD,↓AC,↓AB,↓AA,hl8,hget8,hget9,hz,hz2,h102,hall,htk8,hcall,all_append,lookD,look];exact fzEq rfl rfl
 ·obtain⟨ok,g',s',hcall,hok,himp⟩:=h103 (.row 10 [.agg (reC re++[I caps,.bool runes])] 1) (.row 1 [I top] 1) false;rw[show ((1:Nat):Int)=1 from rfl,show ((0:Nat):Int)=0 from rfl]at hcall;cases ok with
  | false=>
    have hcf:=of_decide_eq_false hok.symm;rw[if_pos (by omega)];simp +contextual (disch:=omega) only[Tryz.f49,dd49,go_sem,simprocAttr,mu49,↓AD,↓AC,↓AB,↓AA,hl8,hget8,hget9,hz,hz2,h102,hall,htk8,hcall,all_append,lookD,look];exact fzEq rfl rfl
  | true=>
    have hct:=of_decide_eq_true hok.symm;obtain⟨_,hg'⟩:=himp rfl;rw[if_neg (by omega)];rw[if_pos (by omega)];simp only[Bool.false_and]at hg';subst hg';simp +contextual (disch:=omega) only[Tryz.f49,dd49,go_sem,simprocAttr,mu49,↓AD,↓AC,↓AB,↓AA,hl8,hget8,hget9,hz,hz2,h102,hall,htk8,hcall,all_append,lookD,look];exact fzEq rfl rfl
 ·obtain⟨ok,g',s',hcall,hok,himp⟩:=h103 (.row 10 [.agg (reC re++[I caps,.bool runes])] 1) (.row 1 [I top] 1) false;rw[show ((1:Nat):Int)=1 from rfl,show ((0:Nat):Int)=0 from rfl]at hcall;cases ok with
  | false=>
    have hcf:=of_decide_eq_false hok.symm;rw[if_pos (by omega)];simp +contextual (disch:=omega) only[Tryz.f49,dd49,go_sem,simprocAttr,mu49,↓AD,↓AC,↓AB,↓AA,hl8,hget8,hget9,hz,hz2,h102,hall,htk8,hcall,all_append,lookD,look];exact fzEq rfl rfl
  | true=>
    have hct:=of_decide_eq_true hok.symm;obtain⟨_,hg'⟩:=himp rfl;rw[if_neg (by omega)];rw[if_pos (by omega)];simp only[Bool.false_and]at hg';subst hg';simp +contextual (disch:=omega) only[Tryz.f49,dd49,go_sem,simprocAttr,mu49,↓AD,↓AC,↓AB,↓AA,hl8,hget8,hget9,hz,hz2,h102,hall,htk8,hcall,all_append,lookD,look];exact fzEq rfl rfl
end
section
attribute [local go_sem] evAppend tySzE head?_drop mul_one AR AY AP AS AT Ad
theorem f150 (op:Int) (H:List MB):call Pg pol1 134 [I op] H =
  some (.tup [I (if op=2∨op=3 then 2 else if op=4∨op=5∨op=7∨op=8∨op=9 then 1 else if op=10 then 2 else 0),I (if op=2∨op=3 then -1 else if op=4∨op=5∨op=7∨op=8∨op=9 then 1 else if op=10 then 2 else 0)],H):=by
 refine AX Tryz.func134 rfl rfl rfl rfl rfl rfl (fun _=>rfl) rfl rfl ?_ H;by_cases h1:op=2∨op=3
 ·rw[if_pos h1,if_pos h1];rcases h1 with rfl|rfl
  all_goals (
   simp +contextual (disch:=omega) only[Tryz.f134,Mn,go_sem,simprocAttr,Ma,↓AD,↓AC,↓AB,↓AA];exact fzEq rfl rfl)
 ·rw[if_neg h1,if_neg h1];by_cases h2:op=4∨op=5∨op=7∨op=8∨op=9
  ·rw[if_pos h2];rcases h2 with rfl|rfl|rfl|rfl|rfl
   all_goals (
    simp +contextual (disch:=omega) only[Tryz.f134,Mn,go_sem,simprocAttr,Ma,↓AD,↓AC,↓AB,↓AA];exact fzEq rfl rfl)
  ·rw[if_neg h2];by_cases h3:op=10
   ·rw[if_pos h3];subst h3;simp +contextual (disch:=omega) only[Tryz.f134,Mn,go_sem,simprocAttr,Ma,↓AD,↓AC,↓AB,↓AA];exact fzEq rfl rfl
   ·rw[if_neg h3];simp +contextual (disch:=omega) only[Tryz.f134,Mn,go_sem,simprocAttr,Ma,↓AD,↓AC,↓AB,↓AA];exact fzEq rfl rfl
theorem f151 (l:List (Int×Int)) (top:Int) (ht:top<=1114111) (hl:l.length<=1000000) (H:List MB):call Pg pol1 135 [.sl false (l.map spanAV),I top] H=some (.bool (spansG l top),H):=by
 refine AX Tryz.func135 rfl rfl rfl rfl rfl rfl (fun _=>rfl) (by simp[AV.plain,AV.plainL,AF]) rfl ?_ H;by_cases h64:64<l.length
 ·rw[Fu h64];simp +contextual (disch:=omega) only[Tryz.f135,HU,go_sem,simprocAttr,G4,↓AD,↓AC,↓AB,↓AA];exact fzEq rfl rfl
 ·simp +contextual (disch:=omega) only[Tryz.f135,HU,go_sem,simprocAttr,G4,↓AD,↓AC,↓AB,↓AA];refine Ae (M:=(mskOf (pol1.mask 135) (pol1.gc 135) (pol1.acts 135) 0 4)) rfl l.length (fun i=>(⟨62,[(5,I i),(1,I top),(0,.sl false (l.map spanAV))],[]⟩:St)) (fun i=>∀ k,k<i->badS l top k=false) ?_ ?_ (fun k h=>by omega) _ (by first|rfl|(refine Ar (n:=0) (m:=⟨some [5,1,0],some 0,[]⟩) rfl rfl ?_ ?_ ?_<;>first|rfl|(simp[keepT,AV.underL,AV.under,MB.under,AE,AH,AJ,AG,AF,AI,AK,-map_take,-map_replicate,-map_set];done)|(simp[keepT,AV.underL,AV.under,MB.under,AE,AH,AJ,AG,AF,AI,AK,-map_take,-map_replicate,-map_set];omega)))
  ·intro i hlt hg;obtain⟨p,hp⟩:∃ p,l[i]?=some p:=⟨_,getElem?_eq_getElem hlt⟩;have ext:badS l top i=false->∀ k,k<i+1->badS l top k=false:=fun h k hk=>by
    rcases lt_or_ge k i with h1|h1
    ·exact hg k h1
    ·obtain rfl:k=i:=by omega
     exact h
   by_cases hgd:p.1<0∨p.2<p.1∨top<p.2
   ·rw[DZ hlt (Mt hp hgd)];have hgd':p.1<0∨(¬ p.1<0/\p.2<p.1)∨(¬ p.1<0/\¬ p.2<p.1/\top<p.2):=by omega
    rcases hgd' with h|⟨h,h'⟩|⟨h,h',h''⟩
    all_goals (
     simp +contextual (disch:=omega) only[Tryz.f135,HU,go_sem,simprocAttr,G4,↓AD,↓AC,↓AB,↓AA,hp,spanAV];repeat' (first|intro _|apply And.intro|(unfold dOk;kernel_rfl)|(show (_||_)=true;kernel_rfl)|(show (_&&_)=true;kernel_rfl))
     all_goals exact fzEq rfl rfl)
   ·rcases i with _|i
    ·simp +contextual (disch:=omega) only[Tryz.f135,HU,go_sem,simprocAttr,G4,↓AD,↓AC,↓AB,↓AA,hp,spanAV];repeat' (first|intro _|apply And.intro|(unfold dOk;kernel_rfl)|(show (_||_)=true;kernel_rfl)|(show (_&&_)=true;kernel_rfl))
     ·exact ext (I4 hp hgd) _ ‹_›
     ·exact(by first|rfl|(refine Ar (n:=0) (m:=⟨some [5,1,0],some 0,[]⟩) rfl rfl ?_ ?_ ?_<;>first|rfl|(simp[keepT,AV.underL,AV.under,MB.under,AE,AH,AJ,AG,AF,AI,AK,-map_take,-map_replicate,-map_set];done)|(simp[keepT,AV.underL,AV.under,MB.under,AE,AH,AJ,AG,AF,AI,AK,-map_take,-map_replicate,-map_set];omega)))
    ·obtain⟨q,hq⟩:∃ q,l[i]?=some q:=⟨_,getElem?_eq_getElem (by omega)⟩;have hqb:=Mu hq (hg i (by omega));have hb:=I5 hp hq hgd;by_cases h2:p.1<q.2+2
     ·rw[DZ hlt (by rw[hb];simp[h2])];simp +contextual (disch:=omega) only[Tryz.f135,HU,go_sem,simprocAttr,G4,↓AD,↓AC,↓AB,↓AA,hp,hq,spanAV];repeat' (first|intro _|apply And.intro|(unfold dOk;kernel_rfl)|(show (_||_)=true;kernel_rfl)|(show (_&&_)=true;kernel_rfl))
      all_goals exact fzEq rfl rfl
     ·simp +contextual (disch:=omega) only[Tryz.f135,HU,go_sem,simprocAttr,G4,↓AD,↓AC,↓AB,↓AA,hp,hq,spanAV];repeat' (first|intro _|apply And.intro|(unfold dOk;kernel_rfl)|(show (_||_)=true;kernel_rfl)|(show (_&&_)=true;kernel_rfl))
      ·exact ext (by rw[hb];simp[h2]) _ ‹_›
      ·exact(by first|rfl|(refine Ar (n:=0) (m:=⟨some [5,1,0],some 0,[]⟩) rfl rfl ?_ ?_ ?_<;>first|rfl|(simp[keepT,AV.underL,AV.under,MB.under,AE,AH,AJ,AG,AF,AI,AK,-map_take,-map_replicate,-map_set];done)|(simp[keepT,AV.underL,AV.under,MB.under,AE,AH,AJ,AG,AF,AI,AK,-map_take,-map_replicate,-map_set];omega)))
  ·intro hg;rw[Fv (by omega) hg];simp +contextual (disch:=omega) only[Tryz.f135,HU,go_sem,simprocAttr,G4,↓AD,↓AC,↓AB,↓AA];exact fzEq rfl rfl
theorem f135 (caps top:Int) (ht:top<=1114111) (op:Int) (set:List (Int×Int)) (kids:List Re) (mn mx md n:Int) (neg:Bool) (hs:set.length<=1000000) (hk:kids.length<=1000000) (H:List MB) :
  call Pg pol1 99 [.agg (nodeL op set kids mn mx md n neg),I caps,I top] H=some (.bool (formedG caps top (.mk op set kids mn mx md n neg)),H):=by
 refine AX Tryz.func99 rfl rfl rfl rfl rfl rfl (fun _=>rfl) (by simp[AV.plain,AV.plainL,AF,AN]) rfl ?_ H;have h151:=f151 set top ht hs;have h150:=f150 op;by_cases h0:op<0∨11<op
 ·have e:formedG caps top (.mk op set kids mn mx md n neg)=false:=by
   have:¬ (0<=op/\op<=11):=by omega
   simp only[formedG,Bool.and_eq_false_iff,decide_eq_false_iff_not];omega
  rw[e];have h0':op<0∨(¬ op<0/\11<op):=by omega
  rcases h0' with h|⟨h,h'⟩
  all_goals (
   simp +contextual (disch:=omega) only[Tryz.f99,dd99,go_sem,simprocAttr,mu99,↓AD,↓AC,↓AB,↓AA,h150];repeat' (first|intro _|apply And.intro|(unfold dOk;kernel_rfl)|(show (_||_)=true;kernel_rfl)|(show (_&&_)=true;kernel_rfl))
   all_goals exact fzEq rfl rfl)
 have hop:op=1∨op=4∨op=0∨op=2∨op=3∨op=5∨op=6∨op=7∨op=8∨op=9∨op=10∨op=11:=by omega
 clear h0;rcases hop with rfl|rfl|rfl|rfl|rfl|rfl|rfl|rfl|rfl|rfl|rfl|rfl
 ·cases hsp:spansG set top
  all_goals (
   rw[hsp]at h151;simp at h150;cases neg <;>
   simp +contextual (disch:=omega) only[Tryz.f99,dd99,go_sem,simprocAttr,mu99,↓AD,↓AC,↓AB,↓AA,h150,h151];repeat' (first|intro _|apply And.intro|(unfold dOk;kernel_rfl)|(show (_||_)=true;kernel_rfl)|(show (_&&_)=true;kernel_rfl))
   all_goals (clear h151 h150;refine fzEq rfl (congrArg AV.bool ?_);first|(simp_all [formedG,kidsG,repG,-length_eq_zero_iff];done)|(simp_all [formedG,kidsG,repG,-length_eq_zero_iff];omega)))
 all_goals (
  simp at h150;cases neg <;>
  simp +contextual (disch:=omega) only[Tryz.f99,dd99,go_sem,simprocAttr,mu99,↓AD,↓AC,↓AB,↓AA,h150];repeat' (first|intro _|apply And.intro|(unfold dOk;kernel_rfl)|(show (_||_)=true;kernel_rfl)|(show (_&&_)=true;kernel_rfl))
  all_goals (clear h151 h150;refine fzEq rfl (congrArg AV.bool ?_);first|(simp_all [formedG,kidsG,repG,-length_eq_zero_iff];done)|(simp_all [formedG,kidsG,repG,-length_eq_zero_iff];omega)))
end
end Go.Ev
