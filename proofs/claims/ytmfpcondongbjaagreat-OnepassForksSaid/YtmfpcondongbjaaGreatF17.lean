/- The plain law on paths: a way that goes in a circle is never left. No program in sight. -/
import Derived.Test.YtmfpcondongbjaaGreatF13
import Derived.Test.YtmfpcondongbjaaGreatF16
import Derived.Test.YtmfpcondongbjaaGreatF12
import Derived.Test.YtmfpcondongbjaaGreatF07
import Derived.Test.YtmfpcondongbjaaGreatF14
set_option linter.unusedVariables false
set_option linter.unusedSimpArgs false
namespace Go.Ev
structure Way where
 pc:Nat
 at_:Nat
 regs:List Int
inductive Out where
 | done
 | ways (l:List Way)
structure Prog1 where
 ins:Nat→Option Ins
 has:List (Int×Int)→Nat→Bool
 holds:Int→Nat→Bool
def stepW (p:Prog1) (w:Way):Out:=
 match p.ins w.pc with
 | none=>.ways []
 | some i=>
   if i.op=0 then .done
   else if i.op=1 then(if p.has i.set w.at_ then .ways [⟨w.pc+1,w.at_+1,w.regs⟩] else .ways [])
   else if i.op=2 then .ways [⟨i.x.toNat,w.at_,w.regs⟩,⟨i.y.toNat,w.at_,w.regs⟩]
   else if i.op=3 then .ways [⟨i.x.toNat,w.at_,w.regs⟩]
   else if i.op=4 then .ways [⟨w.pc+1,w.at_,w.regs.set i.n.toNat w.at_⟩]
   else(if p.holds i.n w.at_ then .ways [⟨w.pc+1,w.at_,w.regs⟩] else .ways [])
def runW (p:Prog1) (most:Int):Nat→List Way→List Way→Option (List Way)
 | fuel,todo,out=>
   match todo with
   | []=>some out
   | w::rest=>
     if(out.length:Int)=most then some out
     else
      match fuel with
      | 0=>none
      | fuel+1=>
        match stepW p w with
        | .done=>runW p most fuel rest (out++[w])
        | .ways l=>runW p most fuel (l++rest) out
def Way.like (a b:Way):Prop:=a.pc=b.pc∧a.at_=b.at_
def likeL:List Way→List Way→Prop
 | [],[]=>True
 | a::l,b::m=>a.like b∧likeL l m
 | _,_=>False
theorem likeL_append:∀ {a b c d:List Way},likeL a b→likeL c d→likeL (a++c) (b++d)
 | [],[],_,_,_,h=>h
 | _::_,_::_,_,_,h1,h2=>⟨h1.1,likeL_append h1.2 h2⟩
 | [],_::_,_,_,h,_=>h.elim
 | _::_,[],_,_,h,_=>h.elim
def likeO:Out→Out→Prop
 | .done,.done=>True
 | .ways l,.ways m=>likeL l m
 | _,_=>False
theorem stepW_like (p:Prog1) {a b:Way} (h:a.like b):likeO (stepW p a) (stepW p b):=by
 obtain⟨h1,h2⟩:=h
 unfold stepW
 rw[h1,h2]
 cases p.ins b.pc with
 | none=>exact trivial
 | some i=>
   simp only[]
   repeat' split
   all_goals first|exact trivial|exact⟨⟨rfl,rfl⟩,trivial⟩|exact⟨⟨rfl,rfl⟩,⟨rfl,rfl⟩,trivial⟩
inductive Reach (p:Prog1):Way→Way→List Way→Nat→Nat→Prop where
 | refl (w:Way):Reach p w w [] 0 0
 | on {w0 w w':Way} {E l:List Way} {d m:Nat} (h:Reach p w0 w E d m) (hs:stepW p w=.ways (w'::l)):Reach p w0 w' (l++E) d (m+1)
 | pop {w0 w e:Way} {E:List Way} {d m:Nat} (h:Reach p w0 w (e::E) d m) (hs:stepW p w=.ways []):Reach p w0 e E d (m+1)
 | found {w0 w e:Way} {E:List Way} {d m:Nat} (h:Reach p w0 w (e::E) d m) (hs:stepW p w=.done):Reach p w0 e E (d+1) (m+1)
theorem Reach.like {p:Prog1} {w0 w:Way} {E:List Way} {d m:Nat} (h:Reach p w0 w E d m) {v0:Way} (hv:w0.like v0):∃ v F,w.like v∧likeL E F∧Reach p v0 v F d m:=by
 induction h with
 | refl=>exact⟨v0,[],hv,trivial,.refl v0⟩
 | on h hs ih=>
   obtain⟨v,F,h1,h2,h3⟩:=ih
   have h4:=stepW_like p h1
   rw[hs]at h4
   cases hq:stepW p v with
   | done=>rw[hq]at h4;exact h4.elim
   | ways l2=>
     rw[hq]at h4
     cases l2 with
     | nil=>exact h4.elim
     | cons a l2=>exact⟨a,l2++F,h4.1,likeL_append h4.2 h2,.on h3 hq⟩
 | pop h hs ih=>
   obtain⟨v,F,h1,h2,h3⟩:=ih
   have h4:=stepW_like p h1
   rw[hs]at h4
   cases hq:stepW p v with
   | done=>rw[hq]at h4;exact h4.elim
   | ways l2=>
     rw[hq]at h4
     cases l2 with
     | nil=>
       cases F with
       | nil=>exact h2.elim
       | cons f F=>exact⟨f,F,h2.1,h2.2,.pop h3 hq⟩
     | cons a l2=>exact h4.elim
 | found h hs ih=>
   obtain⟨v,F,h1,h2,h3⟩:=ih
   have h4:=stepW_like p h1
   rw[hs]at h4
   cases hq:stepW p v with
   | done=>
     cases F with
     | nil=>exact h2.elim
     | cons f F=>exact⟨f,F,h2.1,h2.2,.found h3 hq⟩
   | ways l2=>rw[hq]at h4;exact h4.elim
theorem runW_step {p:Prog1} {most:Int} {fuel:Nat} {w:Way} {rest out:List Way} (h:¬ (out.length:Int)=most) :
  runW p most (fuel+1) (w::rest) out=match stepW p w with
   | .done=>runW p most fuel rest (out++[w])
   | .ways l=>runW p most fuel (l++rest) out:=by
 conv=>lhs;unfold runW
 simp only[h,if_false]
theorem runW_zero {p:Prog1} {most:Int} {w:Way} {rest out:List Way} (h:¬ (out.length:Int)=most):runW p most 0 (w::rest) out=none:=by
 unfold runW
 simp only[h,if_false]
theorem Reach.run {p:Prog1} {most:Int} {w0 w:Way} {E:List Way} {d m:Nat} (h:Reach p w0 w E d m) (S out:List Way) (hm:most = -1∨(d=0∧¬ (out.length:Int)=most)) (fuel:Nat) :
  ∃ out',out'.length=out.length+d∧runW p most (m+fuel) (w0::S) out=runW p most fuel (w::(E++S)) out':=by
 induction h generalizing fuel with
 | refl=>exact⟨out,rfl,by rw[Nat.zero_add];rfl⟩
 | @on w w' E l d m h hs ih=>
   obtain⟨out',h1,h2⟩:=ih hm (fuel+1)
   refine⟨out',h1,?_⟩
   rw[show m+1+fuel=m+(fuel+1) by omega,h2,runW_step (by rcases hm with h|⟨h,h'⟩<;>omega),hs]
   simp only[List.cons_append,List.append_assoc]
 | @pop w e E d m h hs ih=>
   obtain⟨out',h1,h2⟩:=ih hm (fuel+1)
   refine⟨out',h1,?_⟩
   rw[show m+1+fuel=m+(fuel+1) by omega,h2,runW_step (by rcases hm with h|⟨h,h'⟩<;>omega),hs]
   rfl
 | @found w e E d m h hs ih=>
   rcases hm with hm|hm
   ·obtain⟨out',h1,h2⟩:=ih (.inl hm) (fuel+1)
    refine⟨out'++[w],by simp;omega,?_⟩
    rw[show m+1+fuel=m+(fuel+1) by omega,h2,runW_step (by omega),hs]
    rfl
   ·omega
theorem Reach.short {p:Prog1} {most:Int} {w0 w:Way} {E:List Way} {d m:Nat} (h:Reach p w0 w E d m) (S out:List Way) (hm:most = -1∨(d=0∧¬ (out.length:Int)=most)) (fuel:Nat) (hf:fuel < m) :
  runW p most fuel (w0::S) out=none:=by
 induction h generalizing fuel with
 | refl=>omega
 | @on w w' E l d m h hs ih=>
   rcases Nat.lt_or_ge fuel m with h1|h1
   ·exact ih hm fuel h1
   ·obtain rfl:fuel=m:=by omega
    obtain⟨out',h2,h3⟩:=h.run S out hm 0
    rw[Nat.add_zero]at h3
    rw[h3,runW_zero (by rcases hm with h|⟨h,h'⟩<;>omega)]
 | @pop w e E d m h hs ih=>
   rcases Nat.lt_or_ge fuel m with h1|h1
   ·exact ih hm fuel h1
   ·obtain rfl:fuel=m:=by omega
    obtain⟨out',h2,h3⟩:=h.run S out hm 0
    rw[Nat.add_zero]at h3
    rw[h3,runW_zero (by rcases hm with h|⟨h,h'⟩<;>omega)]
 | @found w e E d m h hs ih=>
   rcases hm with hm|hm
   ·rcases Nat.lt_or_ge fuel m with h1|h1
    ·exact ih (.inl hm) fuel h1
    ·obtain rfl:fuel=m:=by omega
     obtain⟨out',h2,h3⟩:=h.run S out (.inl hm) 0
     rw[Nat.add_zero]at h3
     rw[h3,runW_zero (by omega)]
   ·omega
theorem circle {p:Prog1} {most:Int} {w0 w:Way} {E:List Way} {d m:Nat} (h:Reach p w0 w E d (m+1)) (hl:w0.like w):∀(fuel:Nat) (v0:Way) (S out:List Way),w0.like v0→(most = -1∨(d=0∧¬ (out.length:Int)=most)) →
  runW p most fuel (v0::S) out=none:=by
 intro fuel
 induction fuel using Nat.strongRecOn with
 | ind fuel ih=>
   intro v0 S out hv hm
   obtain⟨v,F,h1,h2,h3⟩:=h.like hv
   rcases Nat.lt_or_ge fuel (m+1) with hf|hf
   ·exact h3.short S out hm fuel hf
   ·obtain⟨out',o1,o2⟩:=h3.run S out hm (fuel - (m+1))
    rw[show m+1+(fuel - (m+1))=fuel by omega]at o2
    rw[o2]
    refine ih _ (by omega) v (F++S) out' ⟨hl.1.trans h1.1,hl.2.trans h1.2⟩ ?_
    rcases hm with hm|⟨hm,hm'⟩
    ·exact .inl hm
    ·exact .inr ⟨hm,by omega⟩
end Go.Ev
set_option linter.unusedSectionVars false
namespace Go.Ev
def Ends (p:Prog1) (S:List Way) (r:Option (Nat×List Int)) (n:Nat):Prop:=
 ∃ n',n'≤n∧(match r with
   | some x=>∃ pc,∀ rest fuel,runW p 1 (n' + fuel) (S++rest) []=some [⟨pc,x.1,x.2⟩]
   | none=>∀ rest fuel,runW p 1 (n' + fuel) (S++rest) []=runW p 1 fuel rest [])
theorem Ends.nil (p:Prog1) (n:Nat):Ends p [] none n:=⟨0,Nat.zero_le _,fun rest fuel=>by simp⟩
theorem Ends.mono {p:Prog1} {S:List Way} {r:Option (Nat×List Int)} {n m:Nat} (h:Ends p S r n) (hm:n≤m):Ends p S r m:=by
 obtain⟨n',h1,h2⟩:=h
 exact⟨n',Nat.le_trans h1 hm,h2⟩
theorem Ends.fst {p:Prog1} {S T:List Way} {x:Nat×List Int} {n:Nat} (h:Ends p S (some x) n):Ends p (S++T) (some x) n:=by
 obtain⟨n',h1,pc,h2⟩:=h
 exact⟨n',h1,pc,fun rest fuel=>by rw[List.append_assoc];exact h2 _ _⟩
theorem Ends.app {p:Prog1} {S T:List Way} {r:Option (Nat×List Int)} {n m:Nat} (h:Ends p S none n) (g:Ends p T r m):Ends p (S++T) r (n+m):=by
 obtain⟨n',h1,h2⟩:=h
 obtain⟨m',g1,g2⟩:=g
 refine⟨n' + m',by omega,?_⟩
 cases r with
 | none=>exact fun rest fuel=>by rw[List.append_assoc,Nat.add_assoc,h2,g2]
 | some x=>
   obtain⟨pc,g2⟩:=g2
   exact⟨pc,fun rest fuel=>by rw[List.append_assoc,Nat.add_assoc,h2,g2]⟩
theorem Ends.or {p:Prog1} {S T:List Way} {r q:Option (Nat×List Int)} {n m:Nat} (h:Ends p S r n) (g:Ends p T q m):Ends p (S++T) (r.or q) (n+m):=by
 cases r with
 | none=>exact h.app g
 | some x=>exact(h.fst (T:=T)).mono (by omega)
theorem runW_one {p:Prog1} {fuel:Nat} {rest:List Way} {w:Way}:runW p 1 fuel rest [w]=some [w]:=by
 cases rest with
 | nil=>unfold runW;rfl
 | cons v rest=>unfold runW;simp
theorem Ends.done {p:Prog1} {w:Way} {S:List Way} {n:Nat} (hs:stepW p w=.done) (hn:1≤n):Ends p (w::S) (some (w.at_,w.regs)) n:=by
 refine⟨1,hn,w.pc,fun rest fuel=>?_⟩
 rw[Nat.add_comm,List.cons_append,runW_step (by simp),hs]
 exact runW_one
theorem Ends.step {p:Prog1} {w:Way} {S l:List Way} {r:Option (Nat×List Int)} {n:Nat} (hs:stepW p w=.ways l) (h:Ends p (l++S) r n):Ends p (w::S) r (n+1):=by
 obtain⟨n',h1,h2⟩:=h
 refine⟨n' + 1,by omega,?_⟩
 have e:∀ rest fuel,runW p 1 (n' + 1+fuel) (w::S++rest) []=runW p 1 (n' + fuel) (l++S++rest) []:=fun rest fuel=>by
  rw[show n' + 1+fuel=(n' + fuel)+1 by omega,List.cons_append,runW_step (by simp),hs,List.append_assoc]
 cases r with
 | none=>exact fun rest fuel=>by rw[e,h2]
 | some x=>
   obtain⟨pc,h2⟩:=h2
   exact⟨pc,fun rest fuel=>by rw[e,h2]⟩
structure ProgT (p:Prog1) (ins:List Ins) (t:List Int):Prop where
 ins:∀ n,p.ins n=ins[n]?
 has:∀ s n,p.has s n=match t[n]? with
  | some x=>hasSpan s x
  | none=>false
section
set_option linter.unusedSectionVars false
variable {ins:List Ins} {t:List Int} {P:Prog1} (h:OkP ins) (hP:ProgT P ins t) (p:Nat) (regs:List Int)
include h hP
end
structure Closed (ins:List Ins) (Q:Nat→Prop):Prop where
 lt:∀ st,Q st→st < ins.length
 nf:∀ st,Q st→¬ ForkS ins st
 next:∀ st s b,Q st→leadS ins st s=some b→Q b
theorem addS_pre (ins:List Ins) (i:Nat) (r:RS) (xs:List RS) (s:Int):xs <+: addS ins i r xs s∧∀ b,leadS ins r.st s=some b→b∈(addS ins i r xs s).map (·.st):=by
 unfold addS
 cases hq:leadS ins r.st s with
 | none=>exact⟨List.prefix_refl _,fun b h=>by cases h⟩
 | some c=>
   simp only
   split
   ·rename_i hc
    exact⟨List.prefix_refl _,fun b h=>by cases h;exact hc⟩
   ·exact⟨List.prefix_append _ _,fun b h=>by cases h;simp⟩
theorem adds_pre (ins:List Ins) (i:Nat) (r:RS):∀(syms:List Int) (xs:List RS),xs <+: syms.foldl (addS ins i r) xs∧∀ s∈syms,∀ b,leadS ins r.st s=some b→b∈(syms.foldl (addS ins i r) xs).map (·.st)
 | [],xs=>⟨List.prefix_refl _,fun s hs=>by cases hs⟩
 | s::syms,xs=>by
   obtain⟨h1,h2⟩:=addS_pre ins i r xs s
   obtain⟨h3,h4⟩:=adds_pre ins i r syms (addS ins i r xs s)
   refine⟨h1.trans h3,fun s' hs b hb=>?_⟩
   rcases List.mem_cons.1 hs with rfl|hs
   ·exact(h3.map (·.st)).subset (h2 b hb)
   ·exact h4 s' hs b hb
def Gone (ins:List Ins) (xs:List RS) (r:RS):Prop:=¬ ForkS ins r.st∧∀ n∈(exS ins r.st).rd,n+1∈xs.map (·.st)
theorem srch_gone {ins:List Ins} (h:OkP ins) {syms:List Int} (hL:LeastTo ins ins.length syms):∀(f i:Nat) (xs xs':List RS),XOk ins xs→ins.length < f+i→srch ins syms f i xs=(xs',false)→(∀ j r,j < i→xs[j]?=some r→Gone ins xs r) →
  xs <+: xs'∧∀ r∈xs',Gone ins xs' r
 | 0,i,xs,xs',hx,hf,hs,hg=>by
   simp only[srch,Prod.mk.injEq,and_true]at hs
   subst hs
   have:=hx.len
   refine⟨List.prefix_refl _,fun r hr=>?_⟩
   obtain⟨j,hj⟩:=List.mem_iff_getElem?.1 hr
   exact hg j r (by have:=(List.getElem?_eq_some_iff.1 hj).1;omega) hj
 | f+1,i,xs,xs',hx,hf,hs,hg=>by
   simp only[srch]at hs
   cases hi:xs[i]? with
   | none=>
     rw[hi]at hs
     simp only[Prod.mk.injEq,and_true]at hs
     subst hs
     refine⟨List.prefix_refl _,fun r hr=>?_⟩
     obtain⟨j,hj⟩:=List.mem_iff_getElem?.1 hr
     have h1:=(List.getElem?_eq_some_iff.1 hj).1
     have h2:=List.getElem?_eq_none_iff.1 hi
     exact hg j r (by omega) hj
   | some r=>
     rw[hi]at hs
     simp only at hs
     split at hs
     ·simp at hs
     ·rename_i hfk
      obtain⟨h1,h2⟩:=adds_pre ins i r syms xs
      obtain⟨h3,h4,h5⟩:=XOk.adds h syms hx hi
      have hil:=(List.getElem?_eq_some_iff.1 hi).1
      have hpre:∀ j,j≤i→(syms.foldl (addS ins i r) xs)[j]?=xs[j]?:=fun j hj=>by
       obtain⟨t,ht⟩:=h1
       rw[← ht,List.getElem?_append_left (by omega)]
      obtain⟨h6,h7⟩:=srch_gone h hL f (i+1) _ xs' h3 (by omega) hs (fun j q hj hq=>by
       rw[hpre j (by omega)]at hq
       by_cases e:j=i
       ·subst e
        rw[hi]at hq
        cases hq
        refine⟨hfk,fun n hn=>?_⟩
        obtain⟨x,hx1,hx2,hx3⟩:=rd_op h hn
        have hn2:n < ins.length:=(List.getElem?_eq_some_iff.1 hx1).1
        exact h2 (keyI ins n) (hL.has n x hn2 hx1 hx2 hx3) (n+1) (rd_lead h hfk hn hx1 (key_first h hx1 hx3).1)
       ·obtain⟨g1,g2⟩:=hg j q (by omega) hq
        exact⟨g1,fun n hn=>(h1.map (·.st)).subset (g2 n hn)⟩)
      exact⟨h1.trans h6,h7⟩
theorem closed_of {ins:List Ins} (h:OkP ins) {syms:List Int} (hL:LeastTo ins ins.length syms) {xs:List RS} (hx:Explored ins xs false):Closed ins (fun st=>st∈xs.map (·.st))∧0∈xs.map (·.st):=by
 obtain⟨h1,h2⟩:=srch_gone h hL (ins.length+1) 0 xs0 xs (xs0_ok h) (by omega) (hx.2 syms hL) (fun j r hj=>absurd hj (Nat.not_lt_zero _))
 refine⟨⟨fun st hst=>?_,fun st hst=>?_,fun st s b hst hl=>?_⟩,(h1.map (·.st)).subset (by simp[xs0])⟩
 ·obtain⟨r,hr,rfl⟩:=List.mem_map.1 hst
  exact hx.1.lt r hr
 ·obtain⟨r,hr,rfl⟩:=List.mem_map.1 hst
  exact(h2 r hr).1
 ·obtain⟨r,hr,rfl⟩:=List.mem_map.1 hst
  obtain⟨n,i,rfl,hn,_,_⟩:=lead_rd h hl
  exact(h2 r hr).2 n hn
def trail (ins:List Ins):Nat→List Int→Nat→Prop
 | st,[],e=>st=e
 | st,s::l,e=>¬ ForkS ins st∧∃ b,leadS ins st s=some b∧trail ins b l e
theorem trail_snoc {ins:List Ins} {b e:Nat} {s:Int} (hf:¬ ForkS ins b) (hl:leadS ins b s=some e):∀(l:List Int) (st:Nat),trail ins st l b→trail ins st (l++[s]) e
 | [],st,h=>by
   have h:st=b:=h
   subst h
   exact⟨hf,e,hl,rfl⟩
 | x::l,st,h=>by
   obtain⟨h1,c,h2,h3⟩:=h
   exact⟨h1,c,h2,trail_snoc hf hl l c h3⟩
theorem adds_trail {ins:List Ins} {i:Nat} {r:RS} (hf:¬ ForkS ins r.st) (hr:trail ins 0 r.tx r.st):∀(syms:List Int) (xs:List RS),(∀ q∈xs,trail ins 0 q.tx q.st)→∀ q∈syms.foldl (addS ins i r) xs,trail ins 0 q.tx q.st
 | [],xs,h=>h
 | s::syms,xs,h=>by
   refine adds_trail hf hr syms _ (fun q hq=>?_)
   unfold addS at hq
   cases hl:leadS ins r.st s with
   | none=>rw[hl]at hq;exact h q hq
   | some b=>
     rw[hl]at hq
     simp only at hq
     split at hq
     ·exact h q hq
     ·rcases List.mem_append.1 hq with hq|hq
      ·exact h q hq
      ·rw[List.mem_singleton.1 hq]
       exact trail_snoc hf hl r.tx 0 hr
theorem srch_trail {ins:List Ins} {syms:List Int}:∀(f i:Nat) (xs xs':List RS),(∀ q∈xs,trail ins 0 q.tx q.st)→srch ins syms f i xs=(xs',true)→∃ r,xs'[xs'.length - 1]?=some r∧trail ins 0 r.tx r.st∧ForkS ins r.st
 | 0,i,xs,xs',h,hs=>by simp[srch]at hs
 | f+1,i,xs,xs',h,hs=>by
   simp only[srch]at hs
   cases hi:xs[i]? with
   | none=>rw[hi]at hs;simp at hs
   | some r=>
     rw[hi]at hs
     simp only at hs
     have hr:=h r (List.mem_of_getElem? hi)
     have hil:=(List.getElem?_eq_some_iff.1 hi).1
     split at hs
     ·rename_i hf
      simp only[Prod.mk.injEq,and_true]at hs
      subst hs
      refine⟨r,?_,hr,hf⟩
      rw[List.length_take,Nat.min_eq_left (by omega),Nat.add_sub_cancel,List.getElem?_take,if_pos (by omega)]
      exact hi
     ·rename_i hf
      exact srch_trail f (i+1) _ xs' (adds_trail hf hr syms xs h) hs
theorem fork_trail {ins:List Ins} (h:OkP ins) {syms:List Int} (hL:LeastTo ins ins.length syms) {xs:List RS} {fk:Bool} (hx:Explored ins xs fk) :
  ∃ e,trail ins 0 (if fk=true then lastTx xs else []) e∧(fk=true↔ForkS ins e)∧e < ins.length:=by
 cases fk with
 | true=>
   obtain⟨r,h1,h2,h3⟩:=srch_trail (ins.length+1) 0 xs0 xs (fun q hq=>by simp[xs0]at hq;subst hq;rfl) (hx.2 syms hL)
   refine⟨r.st,?_,by simp[h3],hx.1.lt r (List.mem_of_getElem? h1)⟩
   rw[if_pos rfl]
   have:lastTx xs=r.tx:=by simp[lastTx,h1]
   rw[this];exact h2
 | false=>
   obtain⟨h1,h2⟩:=closed_of h hL hx
   refine⟨0,?_,?_,h.pos⟩
   ·rw[if_neg (by simp)];rfl
   ·have:=h1.nf 0 h2
    simp[this]
theorem lead_lt {ins:List Ins} (h:OkP ins) {st b:Nat} {s:Int} (hl:leadS ins st s=some b):b < ins.length:=by
 obtain⟨n,i,rfl,h1,h2,_⟩:=lead_rd h hl
 obtain⟨j,hj,h3,_⟩:=rd_op h h1
 exact h.sym n j hj h3
end Go.Ev
namespace Go.Ev
open Go.Proofs Go.RowKit Go.IntWalk
set_option maxRecDepth 100000
set_option maxHeartbeats 4000000
def aroundI (n m:Int):Int:=(if n < 0 then - (n+1) else n) % m
def In64 (n:Int):Prop:=-9223372036854775808≤n∧n≤9223372036854775807
theorem around_lt {n m:Int} (h:0 < m):0≤aroundI n m∧aroundI n m < m:=by
 unfold aroundI
 have:0≤(if n < 0 then - (n+1) else n):=by split<;>omega
 exact⟨Int.emod_nonneg _ (by omega),Int.emod_lt_of_pos _ h⟩
theorem f12 (n m:Int) (hn:In64 n) (hm:m≠0) (H:List MB):call Tryz.prog pol1 20 [.int .i64 n,.int .i64 m] H=some (I (aroundI n m),H):=by
 obtain⟨h1,h2⟩:=hn
 refine call_run Tryz.func20 rfl rfl rfl rfl rfl rfl (fun _=>rfl) (by simp[AV.plain,AV.plainL,plain_ints,plain_span,plain_ins,plain_prg]) (by simp[AV.plain,AV.plainL,plain_ints,plain_span,plain_ins,plain_prg]) ?_ H
 simp +contextual (disch:=omega) only[Tryz.f20,dd20,ty3,ty4,↓reduceIte,eq_self,bindW_some,bindW_map,bindW_ite,bindW_iteN,W_seq,W_region,W_draw,W_cond,W_condK,W_ret,W_skip,W_exit,W_scope,W_label,W_block,blockK_norm,blockK_ret,blockK_exit,WO_nil,WO_cons,WO_guard,WD_nil,WD_cons,WD_guard,guardV,guardW_boolT,guardW_boolF,guardW_tup,fpL_some,fpL_none,footprint,footprint0,fineF,thenK_norm,thenK_ret,thenK_exit,put_some,put_none,ev_tmp,ev_con,ev_func,ofK_int,ofK_bool,ofK_str,ofK_nil,ofK_agg,ofC_int,ofC_bool,ofC_str,ofC_nil,ofC_nilp,one_int,one_bool,one_str,one_nil,one_nilp,evOp,evBuiltin,evCall,cfn,yldF,evLen,evAppend,getElem_16,getElem_4,List.length_cons,List.length_nil,List.reduceReplicate,Nat.reduceAdd,Nat.reduceSub,List.cons_append,List.nil_append,List.append_nil,if_false,if_true,Bool.false_eq_true,Bool.true_eq_false,reduceCtorEq,Option.map_some,Option.map_none,List.map_cons,List.map_nil,evBinOp,evBin,evUn,asB_bool,splitB_decide,splitB_true,splitB_false,splitB_beq,splitB_bne,splitB_not,endK_ret,endK_norm,List.getElem?_cons_zero,List.getElem?_cons_succ,evResults,evResult,packRes,retK_norm,retK_ret,cellsAt,mkVal,evFieldAddr,evField,evIndexAddr,evPart,evStore,evBuild,evBuildSlice,fillC,fillE,evSlice,evMakeSlice,evConvert,getRow,AV.cells,List.head?_cons,List.drop_zero,List.drop_succ_cons,List.take_zero,List.take_succ_cons,List.drop_nil,List.take_nil,List.all_cons,List.all_nil,AV.ok,Bool.and_self,Bool.and_true,Bool.true_and,and_self,and_true,true_and,Nat.reduceLeDiff,Nat.reduceMul,Nat.reduceLT,Nat.reduceEqDiff,Nat.zero_add,Nat.add_zero,setCells,splice,pairsOk,pairsX,altW_none,altW_some,cfg_al,WI_nil,WI_cons,FP.apart,heapEq_refl,sameAt_refl,Bool.or_true,Bool.true_or,Bool.or_false,srcElems,elemsOf,mutDst,indDst,thwDst,evLenH,evMapUpd,evLookup,getMp,keyOk,resOk,strOf,roundK_norm,roundK_exit,roundK_ret,List.length_map,List.getElem?_map,Int.toNat_natCast,Int.reduceBNe,Int.reduceBEq,decide_true,decide_false,Bool.not_true,Bool.not_false,List.set,set_0,set_1,set_2,set_3,set_4,look_hit,look,lookD_hit,lookD_cons,lookD_nil,ins_hit,ins,upd_hit,upd,rem1_hit,rem1,dropT,dropSt_eq,initT,cfg_dd,cfg_bd,cfg_ra,actL_nil,actL_cons,act1,updT_hit,updT,frzB,mu20,List.contains_nil,List.contains_cons,Nat.reduceBEq,Bool.or_self,dlt_t,dlt_f,dle_t,dle_f,dgt_t,dgt_f,dge_t,dge_f,beq_t,beq_f,bne_t,bne_f,lt_T,le_T,nle_T,nle_F,↓wrap_up,↓wrap_down,↓wrap_pred,↓wrap_sub_nat,i64_in,i64_quo,rem_in,Int.reduceToNat]
 unfold aroundI
 refine⟨fun h=>⟨hm,fzEq rfl ?_⟩,fun h=>⟨hm,fzEq rfl ?_⟩⟩
 ·rw[if_pos h];try (congr 2;omega)
 ·rw[if_neg h]
def pickI (l:List Int) (i m:Int):Int:=if i < 0 then 0 else match l[i.toNat]? with
 | some x=>aroundI x m
 | none=>0
theorem pick_lt {l:List Int} {i m:Int} (h:0 < m):0≤pickI l i m∧pickI l i m < m:=by
 unfold pickI
 split
 ·omega
 ·split
  ·exact around_lt h
  ·omega
theorem f57 (l:List Int) (i m:Int) (hl:∀ x∈l,In64 x) (hm:m≠0) (H:List MB):call Tryz.prog pol1 34 [.sl false (l.map I),.int .i64 i,.int .i64 m] H=some (I (pickI l i m),H):=by
 refine call_run Tryz.func34 rfl rfl rfl rfl rfl rfl (fun _=>rfl) (by simp[AV.plain,AV.plainL,plain_ints,plain_span,plain_ins,plain_prg]) (by simp[AV.plain,AV.plainL,plain_ints,plain_span,plain_ins,plain_prg]) ?_ H
 by_cases h0:i < 0
 ·have e:pickI l i m=0:=by simp[pickI,h0]
  rw[e]
  simp +contextual (disch:=omega) only[Tryz.f34,dd34,ty0,ty3,ty4,ty22,↓reduceIte,eq_self,bindW_some,bindW_map,bindW_ite,bindW_iteN,W_seq,W_region,W_draw,W_cond,W_condK,W_ret,W_skip,W_exit,W_scope,W_label,W_block,blockK_norm,blockK_ret,blockK_exit,WO_nil,WO_cons,WO_guard,WD_nil,WD_cons,WD_guard,guardV,guardW_boolT,guardW_boolF,guardW_tup,fpL_some,fpL_none,footprint,footprint0,fineF,thenK_norm,thenK_ret,thenK_exit,put_some,put_none,ev_tmp,ev_con,ev_func,ofK_int,ofK_bool,ofK_str,ofK_nil,ofK_agg,ofC_int,ofC_bool,ofC_str,ofC_nil,ofC_nilp,one_int,one_bool,one_str,one_nil,one_nilp,evOp,evBuiltin,evCall,cfn,yldF,evLen,evAppend,getElem_16,getElem_4,List.length_cons,List.length_nil,List.reduceReplicate,Nat.reduceAdd,Nat.reduceSub,List.cons_append,List.nil_append,List.append_nil,if_false,if_true,Bool.false_eq_true,Bool.true_eq_false,reduceCtorEq,Option.map_some,Option.map_none,List.map_cons,List.map_nil,evBinOp,evBin,evUn,asB_bool,splitB_decide,splitB_true,splitB_false,splitB_beq,splitB_bne,splitB_not,endK_ret,endK_norm,List.getElem?_cons_zero,List.getElem?_cons_succ,evResults,evResult,packRes,retK_norm,retK_ret,cellsAt,mkVal,evFieldAddr,evField,evIndexAddr,evPart,evStore,evBuild,evBuildSlice,fillC,fillE,evSlice,evMakeSlice,evConvert,getRow,AV.cells,List.head?_cons,List.drop_zero,List.drop_succ_cons,List.take_zero,List.take_succ_cons,List.drop_nil,List.take_nil,List.all_cons,List.all_nil,AV.ok,Bool.and_self,Bool.and_true,Bool.true_and,and_self,and_true,true_and,Nat.reduceLeDiff,Nat.reduceMul,Nat.reduceLT,Nat.reduceEqDiff,Nat.zero_add,Nat.add_zero,setCells,splice,pairsOk,pairsX,altW_none,altW_some,cfg_al,WI_nil,WI_cons,FP.apart,heapEq_refl,sameAt_refl,Bool.or_true,Bool.true_or,Bool.or_false,srcElems,elemsOf,mutDst,indDst,thwDst,evLenH,evMapUpd,evLookup,getMp,keyOk,resOk,strOf,roundK_norm,roundK_exit,roundK_ret,List.length_map,List.getElem?_map,Int.toNat_natCast,Int.reduceBNe,Int.reduceBEq,decide_true,decide_false,Bool.not_true,Bool.not_false,List.set,set_0,set_1,set_2,set_3,set_4,look_hit,look,lookD_hit,lookD_cons,lookD_nil,ins_hit,ins,upd_hit,upd,rem1_hit,rem1,dropT,dropSt_eq,initT,cfg_dd,cfg_bd,cfg_ra,actL_nil,actL_cons,act1,updT_hit,updT,frzB,mu34,List.contains_nil,List.contains_cons,Nat.reduceBEq,Bool.or_self,dlt_t,dlt_f,dle_t,dle_f,dgt_t,dgt_f,dge_t,dge_f,beq_t,beq_f,bne_t,bne_f,lt_T,le_T,nle_T,nle_F,↓wrap_up,↓wrap_down,↓wrap_pred,↓wrap_sub_nat,i64_in,i64_quo,rem_in,Int.reduceToNat]
  exact fzEq rfl rfl
 ·obtain⟨k,rfl⟩:∃ k:Nat,i=k:=⟨i.toNat,by omega⟩
  by_cases h1:k < l.length
  ·obtain⟨p,hp⟩:∃ p,l[k]?=some p:=⟨_,List.getElem?_eq_getElem h1⟩
   have e:pickI l k m=aroundI p m:=by simp[pickI,h0,hp]
   rw[e]
   have hf:=f12 p m (hl p (List.mem_of_getElem? hp)) hm
   simp +contextual (disch:=omega) only[Tryz.f34,dd34,ty0,ty3,ty4,ty22,↓reduceIte,eq_self,bindW_some,bindW_map,bindW_ite,bindW_iteN,W_seq,W_region,W_draw,W_cond,W_condK,W_ret,W_skip,W_exit,W_scope,W_label,W_block,blockK_norm,blockK_ret,blockK_exit,WO_nil,WO_cons,WO_guard,WD_nil,WD_cons,WD_guard,guardV,guardW_boolT,guardW_boolF,guardW_tup,fpL_some,fpL_none,footprint,footprint0,fineF,thenK_norm,thenK_ret,thenK_exit,put_some,put_none,ev_tmp,ev_con,ev_func,ofK_int,ofK_bool,ofK_str,ofK_nil,ofK_agg,ofC_int,ofC_bool,ofC_str,ofC_nil,ofC_nilp,one_int,one_bool,one_str,one_nil,one_nilp,evOp,evBuiltin,evCall,cfn,yldF,evLen,evAppend,getElem_16,getElem_4,List.length_cons,List.length_nil,List.reduceReplicate,Nat.reduceAdd,Nat.reduceSub,List.cons_append,List.nil_append,List.append_nil,if_false,if_true,Bool.false_eq_true,Bool.true_eq_false,reduceCtorEq,Option.map_some,Option.map_none,List.map_cons,List.map_nil,evBinOp,evBin,evUn,asB_bool,splitB_decide,splitB_true,splitB_false,splitB_beq,splitB_bne,splitB_not,endK_ret,endK_norm,List.getElem?_cons_zero,List.getElem?_cons_succ,evResults,evResult,packRes,retK_norm,retK_ret,cellsAt,mkVal,evFieldAddr,evField,evIndexAddr,evPart,evStore,evBuild,evBuildSlice,fillC,fillE,evSlice,evMakeSlice,evConvert,getRow,AV.cells,List.head?_cons,List.drop_zero,List.drop_succ_cons,List.take_zero,List.take_succ_cons,List.drop_nil,List.take_nil,List.all_cons,List.all_nil,AV.ok,Bool.and_self,Bool.and_true,Bool.true_and,and_self,and_true,true_and,Nat.reduceLeDiff,Nat.reduceMul,Nat.reduceLT,Nat.reduceEqDiff,Nat.zero_add,Nat.add_zero,setCells,splice,pairsOk,pairsX,altW_none,altW_some,cfg_al,WI_nil,WI_cons,FP.apart,heapEq_refl,sameAt_refl,Bool.or_true,Bool.true_or,Bool.or_false,srcElems,elemsOf,mutDst,indDst,thwDst,evLenH,evMapUpd,evLookup,getMp,keyOk,resOk,strOf,roundK_norm,roundK_exit,roundK_ret,List.length_map,List.getElem?_map,Int.toNat_natCast,Int.reduceBNe,Int.reduceBEq,decide_true,decide_false,Bool.not_true,Bool.not_false,List.set,set_0,set_1,set_2,set_3,set_4,look_hit,look,lookD_hit,lookD_cons,lookD_nil,ins_hit,ins,upd_hit,upd,rem1_hit,rem1,dropT,dropSt_eq,initT,cfg_dd,cfg_bd,cfg_ra,actL_nil,actL_cons,act1,updT_hit,updT,frzB,mu34,List.contains_nil,List.contains_cons,Nat.reduceBEq,Bool.or_self,dlt_t,dlt_f,dle_t,dle_f,dgt_t,dgt_f,dge_t,dge_f,beq_t,beq_f,bne_t,bne_f,lt_T,le_T,nle_T,nle_F,↓wrap_up,↓wrap_down,↓wrap_pred,↓wrap_sub_nat,i64_in,i64_quo,rem_in,Int.reduceToNat,hp,hf]
   exact fzEq rfl rfl
  ·have e:pickI l k m=0:=by simp[pickI,List.getElem?_eq_none (Nat.le_of_not_lt h1)]
   rw[e]
   simp +contextual (disch:=omega) only[Tryz.f34,dd34,ty0,ty3,ty4,ty22,↓reduceIte,eq_self,bindW_some,bindW_map,bindW_ite,bindW_iteN,W_seq,W_region,W_draw,W_cond,W_condK,W_ret,W_skip,W_exit,W_scope,W_label,W_block,blockK_norm,blockK_ret,blockK_exit,WO_nil,WO_cons,WO_guard,WD_nil,WD_cons,WD_guard,guardV,guardW_boolT,guardW_boolF,guardW_tup,fpL_some,fpL_none,footprint,footprint0,fineF,thenK_norm,thenK_ret,thenK_exit,put_some,put_none,ev_tmp,ev_con,ev_func,ofK_int,ofK_bool,ofK_str,ofK_nil,ofK_agg,ofC_int,ofC_bool,ofC_str,ofC_nil,ofC_nilp,one_int,one_bool,one_str,one_nil,one_nilp,evOp,evBuiltin,evCall,cfn,yldF,evLen,evAppend,getElem_16,getElem_4,List.length_cons,List.length_nil,List.reduceReplicate,Nat.reduceAdd,Nat.reduceSub,List.cons_append,List.nil_append,List.append_nil,if_false,if_true,Bool.false_eq_true,Bool.true_eq_false,reduceCtorEq,Option.map_some,Option.map_none,List.map_cons,List.map_nil,evBinOp,evBin,evUn,asB_bool,splitB_decide,splitB_true,splitB_false,splitB_beq,splitB_bne,splitB_not,endK_ret,endK_norm,List.getElem?_cons_zero,List.getElem?_cons_succ,evResults,evResult,packRes,retK_norm,retK_ret,cellsAt,mkVal,evFieldAddr,evField,evIndexAddr,evPart,evStore,evBuild,evBuildSlice,fillC,fillE,evSlice,evMakeSlice,evConvert,getRow,AV.cells,List.head?_cons,List.drop_zero,List.drop_succ_cons,List.take_zero,List.take_succ_cons,List.drop_nil,List.take_nil,List.all_cons,List.all_nil,AV.ok,Bool.and_self,Bool.and_true,Bool.true_and,and_self,and_true,true_and,Nat.reduceLeDiff,Nat.reduceMul,Nat.reduceLT,Nat.reduceEqDiff,Nat.zero_add,Nat.add_zero,setCells,splice,pairsOk,pairsX,altW_none,altW_some,cfg_al,WI_nil,WI_cons,FP.apart,heapEq_refl,sameAt_refl,Bool.or_true,Bool.true_or,Bool.or_false,srcElems,elemsOf,mutDst,indDst,thwDst,evLenH,evMapUpd,evLookup,getMp,keyOk,resOk,strOf,roundK_norm,roundK_exit,roundK_ret,List.length_map,List.getElem?_map,Int.toNat_natCast,Int.reduceBNe,Int.reduceBEq,decide_true,decide_false,Bool.not_true,Bool.not_false,List.set,set_0,set_1,set_2,set_3,set_4,look_hit,look,lookD_hit,lookD_cons,lookD_nil,ins_hit,ins,upd_hit,upd,rem1_hit,rem1,dropT,dropSt_eq,initT,cfg_dd,cfg_bd,cfg_ra,actL_nil,actL_cons,act1,updT_hit,updT,frzB,mu34,List.contains_nil,List.contains_cons,Nat.reduceBEq,Bool.or_self,dlt_t,dlt_f,dle_t,dle_f,dgt_t,dgt_f,dge_t,dge_f,beq_t,beq_f,bne_t,bne_f,lt_T,le_T,nle_T,nle_F,↓wrap_up,↓wrap_down,↓wrap_pred,↓wrap_sub_nat,i64_in,i64_quo,rem_in,Int.reduceToNat]
   exact fzEq rfl rfl
end Go.Ev
namespace Go.Ev
attribute [local go_sem] evAppend evBin evBuild splice List.length_append List.map_append
section
attribute [local go_sem] tySzE List.head?_drop Nat.mul_one sameAt_zero sameAt_two sameAt_three sameAt_four sameAt_five room_ok
open Go.Proofs Go.RowKit Go.IntWalk
set_option maxRecDepth 100000
set_option maxHeartbeats 4000000
theorem f102 (r:Bool) (H:List MB):call Tryz.prog pol1 84 [.bool r] H=some (I (if r then 1114111 else 255),H):=by
 cases r
 ·refine call_run Tryz.func84 rfl rfl rfl rfl rfl rfl (fun _=>rfl) (by simp[AV.plain,AV.plainL,plain_ints,plain_span,plain_ins,plain_prg]) (by simp[AV.plain,AV.plainL,plain_ints,plain_span,plain_ins,plain_prg]) ?_ H
  simp +contextual (disch:=omega) only[Tryz.f84,dd84,go_sem,simprocAttr,mu84,↓wrap_up,↓wrap_down,↓wrap_pred,↓wrap_sub_nat]
  exact fzEq rfl rfl
 ·refine call_run Tryz.func84 rfl rfl rfl rfl rfl rfl (fun _=>rfl) (by simp[AV.plain,AV.plainL,plain_ints,plain_span,plain_ins,plain_prg]) (by simp[AV.plain,AV.plainL,plain_ints,plain_span,plain_ins,plain_prg]) ?_ H
  simp +contextual (disch:=omega) only[Tryz.f84,dd84,go_sem,simprocAttr,mu84,↓wrap_up,↓wrap_down,↓wrap_pred,↓wrap_sub_nat]
  exact fzEq rfl rfl
theorem badS_lt {l:List (Int×Int)} {top:Int} {i:Nat} {p:Int×Int} (hp:l[i]?=some p) (h:p.1 < 0∨p.2 < p.1∨top < p.2):badS l top i=true:=by
 simp only[badS,hp]
 rcases h with h|h|h<;>simp[h]
theorem badS_zero {l:List (Int×Int)} {top:Int} {p:Int×Int} (hp:l[0]?=some p) (h:¬ (p.1 < 0∨p.2 < p.1∨top < p.2)):badS l top 0=false:=by
 have h1:¬ p.1 < 0:=fun e=>h (.inl e)
 have h2:¬ p.2 < p.1:=fun e=>h (.inr (.inl e))
 have h3:¬ top < p.2:=fun e=>h (.inr (.inr e))
 simp[badS,hp,h1,h2,h3]
theorem badS_succ {l:List (Int×Int)} {top:Int} {i:Nat} {p q:Int×Int} (hp:l[i+1]?=some p) (hq:l[i]?=some q) (h:¬ (p.1 < 0∨p.2 < p.1∨top < p.2)):badS l top (i+1)=decide (p.1 < q.2+2):=by
 have h1:¬ p.1 < 0:=fun e=>h (.inl e)
 have h2:¬ p.2 < p.1:=fun e=>h (.inr (.inl e))
 have h3:¬ top < p.2:=fun e=>h (.inr (.inr e))
 simp[badS,hp,hq,h1,h2,h3]
theorem badS_hi {l:List (Int×Int)} {top:Int} {i:Nat} {q:Int×Int} (hq:l[i]?=some q) (h:badS l top i=false):0≤q.1∧q.1≤q.2∧q.2≤top:=by
 simp only[badS,hq,Bool.or_eq_false_iff,decide_eq_false_iff_not]at h
 omega
theorem f131 (l:List (Int×Int)) (top:Int) (ht:top≤1114111) (hl:l.length≤1000000) (H:List MB):call Tryz.prog pol1 112 [.sl false (l.map spanAV),I top] H=some (.bool (spansG l top),H):=by
 refine call_run Tryz.func112 rfl rfl rfl rfl rfl rfl (fun _=>rfl) (by simp[AV.plain,AV.plainL,plain_span]) rfl ?_ H
 by_cases h64:64 < l.length
 ·rw[spansG_long h64]
  simp +contextual (disch:=omega) only[Tryz.f112,dd112,go_sem,simprocAttr,mu112,↓wrap_up,↓wrap_down,↓wrap_pred,↓wrap_sub_nat]
  exact fzEq rfl rfl
 ·simp +contextual (disch:=omega) only[Tryz.f112,dd112,go_sem,simprocAttr,mu112,↓wrap_up,↓wrap_down,↓wrap_pred,↓wrap_sub_nat]
  refine W_count (M:=(mskOf (pol1.mask 112) (pol1.gc 112) (pol1.acts 112) 0 4)) rfl l.length (fun i=>(⟨50,[(12,I i),(11,I l.length),(10,.sl false (l.map spanAV)),(1,I top),(0,.sl false (l.map spanAV))],[]⟩:St)) (fun i=>∀ k,k < i→badS l top k=false) ?_ ?_ (fun k h=>by omega) _ (by first|rfl|(refine prep_to (n:=0) (m:=⟨some [12,11,10,1,0],some 0,[]⟩) rfl rfl ?_ ?_ ?_<;>first|rfl|(simp[keepT,AV.underL,AV.under,MB.under,underL_plain,under_plain,underL_append,plain_ints,plain_span,plain_ins,plain_prg,-List.map_take,-List.map_replicate,-List.map_set];done)|(simp[keepT,AV.underL,AV.under,MB.under,underL_plain,under_plain,underL_append,plain_ints,plain_span,plain_ins,plain_prg,-List.map_take,-List.map_replicate,-List.map_set];omega)))
  ·intro i hlt hg
   obtain⟨p,hp⟩:∃ p,l[i]?=some p:=⟨_,List.getElem?_eq_getElem hlt⟩
   have ext:badS l top i=false→∀ k,k < i+1→badS l top k=false:=fun h k hk=>by
    rcases Nat.lt_or_ge k i with h1|h1
    ·exact hg k h1
    ·obtain rfl:k=i:=by omega
     exact h
   by_cases hgd:p.1 < 0∨p.2 < p.1∨top < p.2
   ·rw[spansG_bad hlt (badS_lt hp hgd)]
    have hgd':p.1 < 0∨(¬ p.1 < 0∧p.2 < p.1)∨(¬ p.1 < 0∧¬ p.2 < p.1∧top < p.2):=by omega
    rcases hgd' with h|⟨h,h'⟩|⟨h,h',h''⟩
    all_goals (
     simp +contextual (disch:=omega) only[Tryz.f112,dd112,go_sem,simprocAttr,mu112,↓wrap_up,↓wrap_down,↓wrap_pred,↓wrap_sub_nat,hp,spanAV]
     repeat' (first|intro _|apply And.intro|(unfold dOk;kernel_rfl)|exact St.beq_refl _|(show altO _ _ _ _=true;kernel_rfl)|(show (_ || _)=true;kernel_rfl)|(show (_ && _)=true;kernel_rfl))
     all_goals exact fzEq rfl rfl)
   ·rcases i with _|i
    ·simp +contextual (disch:=omega) only[Tryz.f112,dd112,go_sem,simprocAttr,mu112,↓wrap_up,↓wrap_down,↓wrap_pred,↓wrap_sub_nat,hp,spanAV]
     repeat' (first|intro _|apply And.intro|(unfold dOk;kernel_rfl)|exact St.beq_refl _|(show altO _ _ _ _=true;kernel_rfl)|(show (_ || _)=true;kernel_rfl)|(show (_ && _)=true;kernel_rfl))
     ·exact ext (badS_zero hp hgd) _ ‹_›
     ·exact(by first|rfl|(refine prep_to (n:=0) (m:=⟨some [12,11,10,1,0],some 0,[]⟩) rfl rfl ?_ ?_ ?_<;>first|rfl|(simp[keepT,AV.underL,AV.under,MB.under,underL_plain,under_plain,underL_append,plain_ints,plain_span,plain_ins,plain_prg,-List.map_take,-List.map_replicate,-List.map_set];done)|(simp[keepT,AV.underL,AV.under,MB.under,underL_plain,under_plain,underL_append,plain_ints,plain_span,plain_ins,plain_prg,-List.map_take,-List.map_replicate,-List.map_set];omega)))
    ·obtain⟨q,hq⟩:∃ q,l[i]?=some q:=⟨_,List.getElem?_eq_getElem (by omega)⟩
     have hqb:=badS_hi hq (hg i (by omega))
     have hb:=badS_succ hp hq hgd
     by_cases h2:p.1 < q.2+2
     ·rw[spansG_bad hlt (by rw[hb];simp[h2])]
      simp +contextual (disch:=omega) only[Tryz.f112,dd112,go_sem,simprocAttr,mu112,↓wrap_up,↓wrap_down,↓wrap_pred,↓wrap_sub_nat,hp,hq,spanAV]
      repeat' (first|intro _|apply And.intro|(unfold dOk;kernel_rfl)|exact St.beq_refl _|(show altO _ _ _ _=true;kernel_rfl)|(show (_ || _)=true;kernel_rfl)|(show (_ && _)=true;kernel_rfl))
      all_goals exact fzEq rfl rfl
     ·simp +contextual (disch:=omega) only[Tryz.f112,dd112,go_sem,simprocAttr,mu112,↓wrap_up,↓wrap_down,↓wrap_pred,↓wrap_sub_nat,hp,hq,spanAV]
      repeat' (first|intro _|apply And.intro|(unfold dOk;kernel_rfl)|exact St.beq_refl _|(show altO _ _ _ _=true;kernel_rfl)|(show (_ || _)=true;kernel_rfl)|(show (_ && _)=true;kernel_rfl))
      ·exact ext (by rw[hb];simp[h2]) _ ‹_›
      ·exact(by first|rfl|(refine prep_to (n:=0) (m:=⟨some [12,11,10,1,0],some 0,[]⟩) rfl rfl ?_ ?_ ?_<;>first|rfl|(simp[keepT,AV.underL,AV.under,MB.under,underL_plain,under_plain,underL_append,plain_ints,plain_span,plain_ins,plain_prg,-List.map_take,-List.map_replicate,-List.map_set];done)|(simp[keepT,AV.underL,AV.under,MB.under,underL_plain,under_plain,underL_append,plain_ints,plain_span,plain_ins,plain_prg,-List.map_take,-List.map_replicate,-List.map_set];omega)))
  ·intro hg
   rw[spansG_good (by omega) hg]
   simp +contextual (disch:=omega) only[Tryz.f112,dd112,go_sem,simprocAttr,mu112,↓wrap_up,↓wrap_down,↓wrap_pred,↓wrap_sub_nat]
   exact fzEq rfl rfl
end
section
attribute [local go_sem] tySzE List.head?_drop Nat.mul_one sameAt_zero sameAt_two sameAt_three sameAt_four sameAt_five room_ok
open Go.Proofs Go.RowKit Go.IntWalk
set_option maxRecDepth 100000
set_option maxHeartbeats 8000000
abbrev nodeL (op:Int) (set:List (Int×Int)) (kids:List Re) (mn mx md n:Int) (neg:Bool):List AV:=[I op,.sl false (set.map spanAV),.sl false (kids.map reAV),I mn,I mx,I md,I n,.bool neg]
theorem f132 (op:Int) (set:List (Int×Int)) (kids:List Re) (mn mx md n:Int) (neg:Bool) (H:List MB):call Tryz.prog pol1 113 [.pt (nodeL op set kids mn mx md n neg)] H=some (.bool (repG mn mx md),H):=by
 refine call_run Tryz.func113 rfl rfl rfl rfl rfl rfl (fun _=>rfl) (by simp[AV.plain,AV.plainL,plain_span,plain_kids]) rfl ?_ H
 by_cases h:mn < 0∨32 < mn∨md < 0∨2 < md
 ·have e:repG mn mx md=false:=by
   simp only[repG,Bool.and_eq_false_iff,decide_eq_false_iff_not]
   omega
  rw[e]
  have h':mn < 0∨(¬ mn < 0∧32 < mn)∨(¬ mn < 0∧¬ 32 < mn∧md < 0)∨(¬ mn < 0∧¬ 32 < mn∧¬ md < 0∧2 < md):=by omega
  rcases h' with h|⟨h,h1⟩|⟨h,h1,h2⟩|⟨h,h1,h2,h3⟩
  all_goals (
   simp +contextual (disch:=omega) only[Tryz.f113,dd113,go_sem,simprocAttr,mu113,↓wrap_up,↓wrap_down,↓wrap_pred,↓wrap_sub_nat]
   repeat' (first|intro _|apply And.intro|(unfold dOk;kernel_rfl)|exact St.beq_refl _|(show altO _ _ _ _=true;kernel_rfl)|(show (_ || _)=true;kernel_rfl)|(show (_ && _)=true;kernel_rfl))
   all_goals exact fzEq rfl rfl)
 ·have e:repG mn mx md=(mx == -1 || (decide (1≤mx) && decide (mx≤32) && decide (mn≤mx))):=by
   have h1:0≤mn:=by omega
   have h2:mn≤32:=by omega
   have h3:0≤md:=by omega
   have h4:md≤2:=by omega
   simp[repG,h1,h2,h3,h4]
  rw[e]
  simp +contextual (disch:=omega) only[Tryz.f113,dd113,go_sem,simprocAttr,mu113,↓wrap_up,↓wrap_down,↓wrap_pred,↓wrap_sub_nat]
  repeat' (first|intro _|apply And.intro|(unfold dOk;kernel_rfl)|exact St.beq_refl _|(show altO _ _ _ _=true;kernel_rfl)|(show (_ || _)=true;kernel_rfl)|(show (_ && _)=true;kernel_rfl))
  all_goals (first|exact fzEq rfl rfl|refine fzEq rfl (congrArg AV.bool ?_))
  all_goals (rw[Bool.eq_iff_iff];simp<;>omega)
theorem f104z (caps top:Int) (ht:top≤1114111) (op:Int) (set:List (Int×Int)) (kids:List Re) (mn mx md n:Int) (neg:Bool) (hs:set.length≤1000000) (hk:kids.length≤1000000) (H:List MB) :
  call Tryz.prog pol1 86 [.pt (nodeL op set kids mn mx md n neg),I caps,I top] H=some (.bool (formedG caps top (.mk op set kids mn mx md n neg)),H):=by
 refine call_run Tryz.func86 rfl rfl rfl rfl rfl rfl (fun _=>rfl) (by simp[AV.plain,AV.plainL,plain_span,plain_kids]) rfl ?_ H
 have h131:=f131 set top ht hs
 have h132:=f132 op set kids mn mx md n neg
 by_cases h0:op < 0∨11 < op
 ·have e:formedG caps top (.mk op set kids mn mx md n neg)=false:=by
   have:¬ (0≤op∧op≤11):=by omega
   simp only[formedG,Bool.and_eq_false_iff,decide_eq_false_iff_not]
   omega
  rw[e]
  simp +contextual (disch:=omega) only[Tryz.f86,dd86,go_sem,simprocAttr,mu86,↓wrap_up,↓wrap_down,↓wrap_pred,↓wrap_sub_nat,h131,h132]
  repeat' (first|intro _|apply And.intro|(unfold dOk;kernel_rfl)|exact St.beq_refl _|(show altO _ _ _ _=true;kernel_rfl)|(show (_ || _)=true;kernel_rfl)|(show (_ && _)=true;kernel_rfl))
  all_goals exact fzEq rfl rfl
 have hop:op=1∨op=4∨op=0∨op=2∨op=3∨op=5∨op=6∨op=7∨op=8∨op=9∨op=10∨op=11:=by omega
 clear h0
 rcases hop with rfl|rfl|rfl|rfl|rfl|rfl|rfl|rfl|rfl|rfl|rfl|rfl
 ·cases hsp:spansG set top
  all_goals (
   rw[hsp]at h131
   simp +contextual (disch:=omega) only[Tryz.f86,dd86,go_sem,simprocAttr,mu86,↓wrap_up,↓wrap_down,↓wrap_pred,↓wrap_sub_nat,h131,h132]
   repeat' (first|intro _|apply And.intro|(unfold dOk;kernel_rfl)|exact St.beq_refl _|(show altO _ _ _ _=true;kernel_rfl)|(show (_ || _)=true;kernel_rfl)|(show (_ && _)=true;kernel_rfl))
   all_goals (clear h131 h132;refine fzEq rfl (congrArg AV.bool ?_);first|(simp_all [formedG,kidsG];done)|(simp_all [formedG,kidsG];omega)))
 ·cases hrp:repG mn mx md
  all_goals (
   rw[hrp]at h132
   simp +contextual (disch:=omega) only[Tryz.f86,dd86,go_sem,simprocAttr,mu86,↓wrap_up,↓wrap_down,↓wrap_pred,↓wrap_sub_nat,h131,h132]
   repeat' (first|intro _|apply And.intro|(unfold dOk;kernel_rfl)|exact St.beq_refl _|(show altO _ _ _ _=true;kernel_rfl)|(show (_ || _)=true;kernel_rfl)|(show (_ && _)=true;kernel_rfl))
   all_goals (clear h131 h132;refine fzEq rfl (congrArg AV.bool ?_);first|(simp_all [formedG,kidsG];done)|(simp_all [formedG,kidsG];omega)))
 all_goals (
  simp +contextual (disch:=omega) only[Tryz.f86,dd86,go_sem,simprocAttr,mu86,↓wrap_up,↓wrap_down,↓wrap_pred,↓wrap_sub_nat,h131,h132]
  repeat' (first|intro _|apply And.intro|(unfold dOk;kernel_rfl)|exact St.beq_refl _|(show altO _ _ _ _=true;kernel_rfl)|(show (_ || _)=true;kernel_rfl)|(show (_ && _)=true;kernel_rfl))
  all_goals (clear h131 h132;refine fzEq rfl (congrArg AV.bool ?_);first|(simp_all [formedG,kidsG,repG];done)|(simp_all [formedG,kidsG,repG];omega)))
end
section
attribute [local go_sem] tySzE List.head?_drop Nat.mul_one sameAt_zero sameAt_two sameAt_three sameAt_four sameAt_five room_ok
open Go.Proofs Go.RowKit Go.IntWalk
set_option maxRecDepth 100000
set_option maxHeartbeats 8000000
theorem nullAll_false:∀ {l:List Re} {k:Re},k∈l→nullG k=false→nullAll l=false
 | x::l,k,h,hk=>by
   rcases List.mem_cons.1 h with e|e
   ·rw[← e];simp[nullAll,hk]
   ·simp[nullAll,nullAll_false e hk]
theorem nullAll_true:∀ {l:List Re},(∀(i:Nat) (k:Re),i < l.length→l[i]?=some k→nullG k=true)→nullAll l=true
 | [],_=>by simp[nullAll]
 | x::l,h=>by
   simp only[nullAll,Bool.and_eq_true]
   exact⟨h 0 x (by simp) rfl,nullAll_true fun i k hi hk=>h (i+1) k (by simp;omega) (by simpa using hk)⟩
theorem nullAny_true:∀ {l:List Re} {k:Re},k∈l→nullG k=true→nullAny l=true
 | x::l,k,h,hk=>by
   rcases List.mem_cons.1 h with e|e
   ·rw[← e];simp[nullAny,hk]
   ·simp[nullAny,nullAny_true e hk]
theorem nullAny_false:∀ {l:List Re},(∀(i:Nat) (k:Re),i < l.length→l[i]?=some k→nullG k=false)→nullAny l=false
 | [],_=>by simp[nullAny]
 | x::l,h=>by
   simp only[nullAny,Bool.or_eq_false_iff]
   exact⟨h 0 x (by simp) rfl,nullAny_false fun i k hi hk=>h (i+1) k (by simp;omega) (by simpa using hk)⟩
theorem f20:∀(N:Nat) (r:Re),r.wt≤N→r.wt≤1000000→∀ H,call Tryz.prog pol1 96 [reAV r] H=some (.bool (nullG r),H)
 | 0,r,h,_,_=>by have:=r.wt_pos;omega
 | N+1,.mk op set kids mn mx md n neg,h,hN,H=>by
   have hkl:=Re.wtL_len kids
   have hwt:1+set.length+Re.wtL kids=(Re.mk op set kids mn mx md n neg).wt:=by simp[Re.wt]
   have ih:=fun k (hk:k∈kids)=>f20 N k (by have:=Re.wtL_mem hk;omega) (by have:=Re.wtL_mem hk;omega)
   rw[show reAV (.mk op set kids mn mx md n neg)=.agg (nodeL op set kids mn mx md n neg) from congrArg AV.agg reC_mk]
   refine call_run Tryz.func96 rfl rfl rfl rfl rfl rfl (fun _=>rfl) (by simp[AV.plain,AV.plainL,plain_span,plain_kids]) rfl ?_ H
   rw[nullG]
   by_cases h1:op=1
   ·subst h1
    rw[if_pos rfl]
    simp +contextual (disch:=omega) only[Tryz.f96,dd96,go_sem,simprocAttr,mu96,↓wrap_up,↓wrap_down,↓wrap_pred,↓wrap_sub_nat]
    exact fzEq rfl rfl
   rw[if_neg h1]
   by_cases h2:op=2
   ·subst h2
    rw[if_pos rfl]
    simp +contextual (disch:=omega) only[Tryz.f96,dd96,go_sem,simprocAttr,mu96,↓wrap_up,↓wrap_down,↓wrap_pred,↓wrap_sub_nat]
    refine W_count (M:=(mskOf (pol1.mask 96) (pol1.gc 96) (pol1.acts 96) 0 6)) rfl kids.length (fun i=>(⟨73,[(3,I i),(1,.rf 0 1 0 0)],[.row 8 [.agg (nodeL 2 set kids mn mx md n neg)] 0]⟩:St)) (fun i=>∀ j k,j < i→kids[j]?=some k→nullG k=true) ?_ ?_ (fun j k h=>by omega) _ (by first|rfl|(refine prep_to (n:=1) (m:=⟨some [3,1],some 1,[]⟩) rfl rfl ?_ ?_ ?_<;>first|rfl|(simp[keepT,AV.underL,AV.under,MB.under,underL_plain,under_plain,underL_append,plain_ints,plain_span,plain_ins,plain_prg,-List.map_take,-List.map_replicate,-List.map_set,plain_kids];done)|(simp[keepT,AV.underL,AV.under,MB.under,underL_plain,under_plain,underL_append,plain_ints,plain_span,plain_ins,plain_prg,-List.map_take,-List.map_replicate,-List.map_set,plain_kids];omega)))
    ·intro i hi hg
     obtain⟨k,hk⟩:∃ k,kids[i]?=some k:=⟨_,List.getElem?_eq_getElem hi⟩
     have ihk:=ih k (List.mem_of_getElem? hk)
     have hl8:=reC_len k
     have ht8:=reC_take k
     cases hn:nullG k with
     | false=>
       rw[hn]at ihk
       rw[nullAll_false (List.mem_of_getElem? hk) hn]
       simp +contextual (disch:=omega) only[Tryz.f96,dd96,go_sem,simprocAttr,mu96,↓wrap_up,↓wrap_down,↓wrap_pred,↓wrap_sub_nat,hk,ihk,hl8,ht8]
       exact fzEq rfl rfl
     | true=>
       rw[hn]at ihk
       simp +contextual (disch:=omega) only[Tryz.f96,dd96,go_sem,simprocAttr,mu96,↓wrap_up,↓wrap_down,↓wrap_pred,↓wrap_sub_nat,hk,ihk,hl8,ht8]
       refine⟨fun j q hj hq=>?_,(by first|rfl|(refine prep_to (n:=1) (m:=⟨some [3,1],some 1,[]⟩) rfl rfl ?_ ?_ ?_<;>first|rfl|(simp[keepT,AV.underL,AV.under,MB.under,underL_plain,under_plain,underL_append,plain_ints,plain_span,plain_ins,plain_prg,-List.map_take,-List.map_replicate,-List.map_set,plain_kids];done)|(simp[keepT,AV.underL,AV.under,MB.under,underL_plain,under_plain,underL_append,plain_ints,plain_span,plain_ins,plain_prg,-List.map_take,-List.map_replicate,-List.map_set,plain_kids];omega)))⟩
       rcases Nat.lt_or_ge j i with h|h
       ·exact hg j q h hq
       ·obtain rfl:j=i:=by omega
        rw[hk]at hq;obtain rfl:=Option.some.inj hq
        exact hn
    ·intro hg
     rw[nullAll_true fun j k hj hk=>hg j k hj hk]
     simp +contextual (disch:=omega) only[Tryz.f96,dd96,go_sem,simprocAttr,mu96,↓wrap_up,↓wrap_down,↓wrap_pred,↓wrap_sub_nat]
     exact fzEq rfl rfl
   rw[if_neg h2]
   by_cases h3:op=3∨op=10
   ·rw[if_pos h3]
    rcases h3 with rfl|rfl
    all_goals (
     simp +contextual (disch:=omega) only[Tryz.f96,dd96,go_sem,simprocAttr,mu96,↓wrap_up,↓wrap_down,↓wrap_pred,↓wrap_sub_nat]
     refine W_count (M:=(mskOf (pol1.mask 96) (pol1.gc 96) (pol1.acts 96) 0 14)) rfl kids.length (fun i=>(⟨73,[(4,I i),(1,.rf 0 1 0 0)],[.row 8 [.agg (nodeL _ set kids mn mx md n neg)] 0]⟩:St)) (fun i=>∀ j k,j < i→kids[j]?=some k→nullG k=false) ?_ ?_ (fun j k h=>by omega) _ (by first|rfl|(refine prep_to (n:=1) (m:=⟨some [4,1],some 1,[]⟩) rfl rfl ?_ ?_ ?_<;>first|rfl|(simp[keepT,AV.underL,AV.under,MB.under,underL_plain,under_plain,underL_append,plain_ints,plain_span,plain_ins,plain_prg,-List.map_take,-List.map_replicate,-List.map_set,plain_kids];done)|(simp[keepT,AV.underL,AV.under,MB.under,underL_plain,under_plain,underL_append,plain_ints,plain_span,plain_ins,plain_prg,-List.map_take,-List.map_replicate,-List.map_set,plain_kids];omega)))
     ·intro i hi hg
      obtain⟨k,hk⟩:∃ k,kids[i]?=some k:=⟨_,List.getElem?_eq_getElem hi⟩
      have ihk:=ih k (List.mem_of_getElem? hk)
      have hl8:=reC_len k
      have ht8:=reC_take k
      cases hn:nullG k with
      | true=>
        rw[hn]at ihk
        rw[nullAny_true (List.mem_of_getElem? hk) hn]
        simp +contextual (disch:=omega) only[Tryz.f96,dd96,go_sem,simprocAttr,mu96,↓wrap_up,↓wrap_down,↓wrap_pred,↓wrap_sub_nat,hk,ihk,hl8,ht8]
        exact fzEq rfl rfl
      | false=>
        rw[hn]at ihk
        simp +contextual (disch:=omega) only[Tryz.f96,dd96,go_sem,simprocAttr,mu96,↓wrap_up,↓wrap_down,↓wrap_pred,↓wrap_sub_nat,hk,ihk,hl8,ht8]
        refine⟨fun j q hj hq=>?_,(by first|rfl|(refine prep_to (n:=1) (m:=⟨some [4,1],some 1,[]⟩) rfl rfl ?_ ?_ ?_<;>first|rfl|(simp[keepT,AV.underL,AV.under,MB.under,underL_plain,under_plain,underL_append,plain_ints,plain_span,plain_ins,plain_prg,-List.map_take,-List.map_replicate,-List.map_set,plain_kids];done)|(simp[keepT,AV.underL,AV.under,MB.under,underL_plain,under_plain,underL_append,plain_ints,plain_span,plain_ins,plain_prg,-List.map_take,-List.map_replicate,-List.map_set,plain_kids];omega)))⟩
        rcases Nat.lt_or_ge j i with h|h
        ·exact hg j q h hq
        ·obtain rfl:j=i:=by omega
         rw[hk]at hq;obtain rfl:=Option.some.inj hq
         exact hn
     ·intro hg
      rw[nullAny_false fun j k hj hk=>hg j k hj hk]
      simp +contextual (disch:=omega) only[Tryz.f96,dd96,go_sem,simprocAttr,mu96,↓wrap_up,↓wrap_down,↓wrap_pred,↓wrap_sub_nat]
      exact fzEq rfl rfl)
   rw[if_neg h3]
   by_cases h4:op=4
   ·subst h4
    rw[if_pos rfl]
    by_cases hm:mn≤0
    ·simp +contextual (disch:=omega) only[Tryz.f96,dd96,go_sem,simprocAttr,mu96,↓wrap_up,↓wrap_down,↓wrap_pred,↓wrap_sub_nat]
     exact fzEq rfl (by simp[hm])
    ·cases kids with
     | nil=>
       simp +contextual (disch:=omega) only[Tryz.f96,dd96,go_sem,simprocAttr,mu96,↓wrap_up,↓wrap_down,↓wrap_pred,↓wrap_sub_nat]
       exact fzEq rfl (by simp[hm,nullHd])
     | cons k ks=>
       have ihk:=ih k (List.mem_cons_self ..)
       have hl8:=reC_len k
       have ht8:=reC_take k
       simp only[List.length_cons]at hkl
       simp +contextual (disch:=omega) only[Tryz.f96,dd96,go_sem,simprocAttr,mu96,↓wrap_up,↓wrap_down,↓wrap_pred,↓wrap_sub_nat,ihk,hl8,ht8]
       exact fzEq rfl (by simp[hm,nullHd])
   rw[if_neg h4]
   by_cases h5:op=5∨op=9
   ·rw[if_pos h5]
    rcases h5 with rfl|rfl
    all_goals (
     cases kids with
     | nil=>
       simp +contextual (disch:=omega) only[Tryz.f96,dd96,go_sem,simprocAttr,mu96,↓wrap_up,↓wrap_down,↓wrap_pred,↓wrap_sub_nat]
       exact fzEq rfl (by simp[nullHd])
     | cons k ks=>
       have ihk:=ih k (List.mem_cons_self ..)
       have hl8:=reC_len k
       have ht8:=reC_take k
       simp only[List.length_cons]at hkl
       simp +contextual (disch:=omega) only[Tryz.f96,dd96,go_sem,simprocAttr,mu96,↓wrap_up,↓wrap_down,↓wrap_pred,↓wrap_sub_nat,ihk,hl8,ht8]
       exact fzEq rfl (by simp[nullHd]))
   rw[if_neg h5]
   simp +contextual (disch:=omega) only[Tryz.f96,dd96,go_sem,simprocAttr,mu96,↓wrap_up,↓wrap_down,↓wrap_pred,↓wrap_sub_nat]
   exact fzEq rfl rfl
end
section
attribute [local go_sem] tySzE List.head?_drop Nat.mul_one sameAt_zero sameAt_two sameAt_three sameAt_four sameAt_five room_ok
open Go.Proofs Go.RowKit Go.IntWalk
set_option maxRecDepth 100000
set_option maxHeartbeats 8000000
theorem whole_facts {caps top op:Int} {set:List (Int×Int)} {kids:List Re} {mn mx md n:Int} {neg:Bool} (h:wholeG caps top (.mk op set kids mn mx md n neg)=true) :
  (∀ k∈kids,wholeG caps top k=true)∧kidsG op kids.length=true∧(op=4→repG mn mx md=true)∧(op=5∨op=6∨op=10→1≤n∧n≤caps)∧0≤op∧op≤11:=by
 rw[wholeG,Bool.and_eq_true,wholeL_iff]at h
 obtain⟨h1,h2⟩:=h
 simp only[formedG,Bool.and_eq_true,decide_eq_true_eq]at h1
 obtain⟨⟨⟨⟨⟨⟨a1,a2⟩,a3⟩,a4⟩,a5⟩,a6⟩,a7⟩:=h1
 refine⟨h2,a3,fun e=>?_,fun e=>?_,a1,a2⟩
 ·rw[if_pos e]at a5;exact a5
 ·rw[if_pos e]at a6;simpa using a6
theorem f133 (b0:MB) (caps top:Int):∀(N:Nat) (r:Re),r.wt≤N→r.wt≤1000000→wholeG caps top r=true→call Tryz.prog pol1 114 [.pt (reC r),.rf 1 1 0 0] [b0,.row 1 [.clo 114 [.rf 1 1 0 0]] 0]=some (.bool (nullG r),[b0,.row 1 [.clo 114 [.rf 1 1 0 0]] 0])
 | 0,r,h,_,_=>by have:=r.wt_pos;omega
 | N+1,.mk op set kids mn mx md n neg,h,hN,hw=>by
   have hkl:=Re.wtL_len kids
   have hwt:1+set.length+Re.wtL kids=(Re.mk op set kids mn mx md n neg).wt:=by simp[Re.wt]
   obtain⟨hwk,hkd,hrp,_,ho1,ho2⟩:=whole_facts hw
   have ih:=fun k (hk:k∈kids)=>f133 b0 caps top N k (by have:=Re.wtL_mem hk;omega) (by have:=Re.wtL_mem hk;omega) (hwk k hk)
   rw[show (.pt (reC (.mk op set kids mn mx md n neg)):AV)=.pt (nodeL op set kids mn mx md n neg) from congrArg AV.pt reC_mk]
   have fr:frzArgs pol1 114 0 [.pt (nodeL op set kids mn mx md n neg),.rf 1 1 0 0] [b0,.row 1 [.clo 114 [.rf 1 1 0 0]] 0]=some ([.pt (nodeL op set kids mn mx md n neg),.rf 1 1 0 0],[b0,.row 1 [.clo 114 [.rf 1 1 0 0]] 0]):=
    frzArgs_mix _ _ _ (by simp[mixOk,show pol1.byref 114 1=true from rfl,AV.plain,AV.plainL,plain_span,plain_kids])
   have rt:∀ x:Bool,retPol pol1 114 [b0,.row 1 [.clo 114 [.rf 1 1 0 0]] 0] (.bool x) [b0,.row 1 [.clo 114 [.rf 1 1 0 0]] 0]=some (.bool x,[b0,.row 1 [.clo 114 [.rf 1 1 0 0]] 0]):=fun x=>
    retPol_keep rfl rfl rfl (by simp[keptOk,MB.beq_refl]) rfl
   refine call_run2 (pol:=pol1) Tryz.func114 rfl rfl rfl rfl fr ?_
   have any:∀ r':Bool,r' = nullAny kids→∀ i,i < kids.length→∀ k,kids[i]?=some k→(∀ j q,j < i→kids[j]?=some q→nullG q=false)→nullG k=true→r' = true:=fun r' hr i _ k hk _ hn=>by rw[hr,nullAny_true (List.mem_of_getElem? hk) hn]
   have hop:op=0∨op=1∨op=2∨op=3∨op=4∨op=5∨op=6∨op=7∨op=8∨op=9∨op=10∨op=11:=by omega
   have hone:op=4∨op=5∨op=9→nullHd kids=nullAny kids:=fun e=>by
    have:kids.length=1:=by rcases e with rfl|rfl|rfl<;>simpa [kidsG] using hkd
    match kids,this with
    | [k],_=>simp[nullHd,nullAny]
   by_cases hloop:op=3∨op=10∨op=5∨op=9∨(op=4∧mn≠0)
   ·have hres:nullG (.mk op set kids mn mx md n neg)=nullAny kids:=by
     rw[nullG]
     rcases hloop with rfl|rfl|rfl|rfl|⟨rfl,hmn⟩
     ·simp
     ·simp
     ·simp[hone (.inr (.inl rfl))]
     ·simp[hone (.inr (.inr rfl))]
     ·have hr:=hrp rfl
      simp only[repG,Bool.and_eq_true,decide_eq_true_eq]at hr
      have:¬ mn≤0:=by omega
      simp[hone (.inl rfl),this]
    rw[hres]
    clear hres hone any
    rcases hloop with rfl|rfl|rfl|rfl|⟨rfl,hmn⟩
    all_goals (
     simp +contextual (disch:=omega) only[Tryz.f114,dd114,go_sem,simprocAttr,mu114,↓wrap_up,↓wrap_down,↓wrap_pred,↓wrap_sub_nat]
     refine W_count (M:=(mskOf (pol1.mask 114) (pol1.gc 114) (pol1.acts 114) 0 25)) rfl kids.length (fun i=>(⟨65,[(53,I i),(52,I kids.length),(1,.rf 1 1 0 0),(0,.pt (nodeL _ set kids mn mx md n neg))],[b0,.row 1 [.clo 114 [.rf 1 1 0 0]] 0]⟩:St)) (fun i=>∀ j k,j < i→kids[j]?=some k→nullG k=false) ?_ ?_ (fun j k h=>by omega) _ rfl
     ·intro i hi hg
      obtain⟨k,hk⟩:∃ k,kids[i]?=some k:=⟨_,List.getElem?_eq_getElem hi⟩
      have ihk:=ih k (List.mem_of_getElem? hk)
      have hl8:=reC_len k
      have ht8:=reC_take k
      cases hn:nullG k with
      | true=>
        rw[hn]at ihk
        rw[nullAny_true (List.mem_of_getElem? hk) hn]
        simp +contextual (disch:=omega) only[Tryz.f114,dd114,go_sem,simprocAttr,mu114,↓wrap_up,↓wrap_down,↓wrap_pred,↓wrap_sub_nat,hk,ihk,hl8,ht8,rt]
        repeat' (first|intro _|apply And.intro|(unfold dOk;kernel_rfl)|exact St.beq_refl _|(show altO _ _ _ _=true;kernel_rfl)|(show (_ || _)=true;kernel_rfl)|(show (_ && _)=true;kernel_rfl))
      | false=>
        rw[hn]at ihk
        simp +contextual (disch:=omega) only[Tryz.f114,dd114,go_sem,simprocAttr,mu114,↓wrap_up,↓wrap_down,↓wrap_pred,↓wrap_sub_nat,hk,ihk,hl8,ht8]
        repeat' (first|intro _|apply And.intro|(unfold dOk;kernel_rfl)|exact St.beq_refl _|(show altO _ _ _ _=true;kernel_rfl)|(show (_ || _)=true;kernel_rfl)|(show (_ && _)=true;kernel_rfl))
        ·rename_i j q hj hq
         rcases Nat.lt_or_ge j i with h|h
         ·exact hg j q h hq
         ·obtain rfl:j=i:=by omega
          rw[hk]at hq;obtain rfl:=Option.some.inj hq
          exact hn
        ·rfl
     ·intro hg
      rw[nullAny_false fun j k hj hk=>hg j k hj hk]
      simp +contextual (disch:=omega) only[Tryz.f114,dd114,go_sem,simprocAttr,mu114,↓wrap_up,↓wrap_down,↓wrap_pred,↓wrap_sub_nat,rt])
   ·clear any hone
    have hop:op=2∨op=1∨(op=4∧mn=0)∨op=0∨op=6∨op=7∨op=8∨op=11:=by omega
    clear hloop
    rcases hop with rfl|hop
    ·rw[nullG,if_neg (by omega),if_pos rfl]
     simp +contextual (disch:=omega) only[Tryz.f114,dd114,go_sem,simprocAttr,mu114,↓wrap_up,↓wrap_down,↓wrap_pred,↓wrap_sub_nat]
     refine W_count (M:=(mskOf (pol1.mask 114) (pol1.gc 114) (pol1.acts 114) 0 11)) rfl kids.length (fun i=>(⟨65,[(23,I i),(22,I kids.length),(1,.rf 1 1 0 0),(0,.pt (nodeL _ set kids mn mx md n neg))],[b0,.row 1 [.clo 114 [.rf 1 1 0 0]] 0]⟩:St)) (fun i=>∀ j k,j < i→kids[j]?=some k→nullG k=true) ?_ ?_ (fun j k h=>by omega) _ rfl
     ·intro i hi hg
      obtain⟨k,hk⟩:∃ k,kids[i]?=some k:=⟨_,List.getElem?_eq_getElem hi⟩
      have ihk:=ih k (List.mem_of_getElem? hk)
      have hl8:=reC_len k
      have ht8:=reC_take k
      cases hn:nullG k with
      | false=>
        rw[hn]at ihk
        rw[nullAll_false (List.mem_of_getElem? hk) hn]
        simp +contextual (disch:=omega) only[Tryz.f114,dd114,go_sem,simprocAttr,mu114,↓wrap_up,↓wrap_down,↓wrap_pred,↓wrap_sub_nat,hk,ihk,hl8,ht8,rt]
        repeat' (first|intro _|apply And.intro|(unfold dOk;kernel_rfl)|exact St.beq_refl _|(show altO _ _ _ _=true;kernel_rfl)|(show (_ || _)=true;kernel_rfl)|(show (_ && _)=true;kernel_rfl))
      | true=>
        rw[hn]at ihk
        simp +contextual (disch:=omega) only[Tryz.f114,dd114,go_sem,simprocAttr,mu114,↓wrap_up,↓wrap_down,↓wrap_pred,↓wrap_sub_nat,hk,ihk,hl8,ht8]
        repeat' (first|intro _|apply And.intro|(unfold dOk;kernel_rfl)|exact St.beq_refl _|(show altO _ _ _ _=true;kernel_rfl)|(show (_ || _)=true;kernel_rfl)|(show (_ && _)=true;kernel_rfl))
        ·rename_i j q hj hq
         rcases Nat.lt_or_ge j i with h|h
         ·exact hg j q h hq
         ·obtain rfl:j=i:=by omega
          rw[hk]at hq;obtain rfl:=Option.some.inj hq
          exact hn
        ·rfl
     ·intro hg
      rw[nullAll_true fun j k hj hk=>hg j k hj hk]
      simp +contextual (disch:=omega) only[Tryz.f114,dd114,go_sem,simprocAttr,mu114,↓wrap_up,↓wrap_down,↓wrap_pred,↓wrap_sub_nat,rt]
    ·have hres:nullG (.mk op set kids mn mx md n neg)=(if op=1 then false else true):=by
      rw[nullG]
      rcases hop with rfl|⟨rfl,rfl⟩|rfl|rfl|rfl|rfl|rfl<;>simp
     rw[hres]
     rcases hop with rfl|⟨rfl,rfl⟩|rfl|rfl|rfl|rfl|rfl
     all_goals (
      first|rw[if_pos rfl]|rw[if_neg (by omega)]
      simp +contextual (disch:=omega) only[Tryz.f114,dd114,go_sem,simprocAttr,mu114,↓wrap_up,↓wrap_down,↓wrap_pred,↓wrap_sub_nat,rt])
theorem f105z (r:Re) (hN:r.wt≤1000000) (caps top:Int) (hw:wholeG caps top r=true) (H:List MB):call Tryz.prog pol1 87 [reAV r] H=some (.bool (nullG r),H):=by
 refine call_run Tryz.func87 rfl rfl rfl rfl rfl rfl (fun _=>rfl) (by simp[AV.plain,AV.plainL,plain_reC]) rfl ?_ H
 have hz:fz (.rf 0 1 0 0) [.row 8 [.agg (reC r)] 0]=some (.pt (reC r),[.row 8 [.agg (reC r)] 1]):=fz_rf (x:=.agg (reC r)) (k:=8) (z:=0) rfl rfl rfl (plain_reC r)
 have hc:=fun b0=>f133 b0 caps top r.wt r (Nat.le_refl _) hN hw
 have hl8:=reC_len r
 have hal:=reC_ok r
 simp +contextual (disch:=omega) only[Tryz.f87,dd87,go_sem,simprocAttr,mu87,↓wrap_up,↓wrap_down,↓wrap_pred,↓wrap_sub_nat,hl8,hz,hc,hal,lookD,look]
 exact fzEq rfl rfl
end
section
attribute [local go_sem] tySzE List.head?_drop Nat.mul_one sameAt_zero sameAt_two sameAt_three sameAt_four sameAt_five room_ok
open Go.Proofs Go.RowKit Go.IntWalk
set_option maxRecDepth 100000
set_option maxHeartbeats 8000000
mutual
def lenG:Re→Nat
 | .mk op set kids mn mx md n neg=>
   if op=1∨op=11 then 1 else if op=3 then lenL kids+2 * (kids.length - 1) else if op=5 then lenL kids+2
   else if op=4 then(if mx = -1 then(mn.toNat+1) * lenL kids+2 else mx.toNat * lenL kids+(mx.toNat - mn.toNat)) else lenL kids
def lenL:List Re→Nat
 | []=>0
 | k::ks=>lenG k+lenL ks
end
theorem lenL_append:∀(a b:List Re),lenL (a++b)=lenL a+lenL b
 | [],b=>by simp[lenL]
 | k::ks,b=>by simp[lenL,lenL_append ks b,Nat.add_assoc]
theorem lenL_take {l:List Re} {i:Nat} {k:Re} (h:l[i]?=some k):lenL (l.take (i+1))=lenL (l.take i)+lenG k:=by
 rw[List.take_add_one,h,lenL_append];simp[lenL]
theorem f50 (caps top:Int):∀(N:Nat) (r:Re),r.wt≤N→r.wt≤1000000→wholeG caps top r=true→∀ H,call Tryz.prog pol1 55 [.pt (reC r)] H=some (I ((min (lenG r) 8193:Nat):Int),H)
 | 0,r,h,_,_,_=>by have:=r.wt_pos;omega
 | N+1,.mk op set kids mn mx md n neg,h,hN,hw,H=>by
   have hkl:=Re.wtL_len kids
   have hwt:1+set.length+Re.wtL kids=(Re.mk op set kids mn mx md n neg).wt:=by simp[Re.wt]
   obtain⟨hwk,hkd,hrp,_,ho1,ho2⟩:=whole_facts hw
   have ih:=fun k (hk:k∈kids)=>f50 caps top N k (by have:=Re.wtL_mem hk;omega) (by have:=Re.wtL_mem hk;omega) (hwk k hk)
   rw[show (.pt (reC (.mk op set kids mn mx md n neg)):AV)=.pt (nodeL op set kids mn mx md n neg) from congrArg AV.pt reC_mk]
   refine call_run Tryz.func55 rfl rfl rfl rfl rfl rfl (fun _=>rfl) (by simp[AV.plain,AV.plainL,plain_span,plain_kids]) rfl ?_ H
   simp +contextual (disch:=omega) only[Tryz.f55,dd55,go_sem,simprocAttr,mu55,↓wrap_up,↓wrap_down,↓wrap_pred,↓wrap_sub_nat]
   refine W_count (M:=(mskOf (pol1.mask 55) (pol1.gc 55) (pol1.acts 55) 0 3)) rfl kids.length (fun i=>(⟨81,[(11,I i),(10,I kids.length),(3,I ((min (lenL (kids.take i)) 8193:Nat):Int)),(0,.pt (nodeL op set kids mn mx md n neg))],[]⟩:St)) (fun _=>True) ?_ ?_ trivial _ (by first|rfl|(simp[keepT,AV.underL,AV.under,MB.under,underL_plain,under_plain,underL_append,plain_ints,plain_span,plain_ins,plain_prg,-List.map_take,-List.map_replicate,-List.map_set,lenL,plain_kids];done))
   ·intro i hi _
    obtain⟨k,hk⟩:∃ k,kids[i]?=some k:=⟨_,List.getElem?_eq_getElem hi⟩
    have ihk:=ih k (List.mem_of_getElem? hk)
    have hl8:=reC_len k
    have ht8:=reC_take k
    have e1:=lenL_take hk
    have hm:(if(8193:Int) < ((min (lenL (kids.take i)) 8193:Nat):Int)+((min (lenG k) 8193:Nat):Int) then(8193:Int) else((min (lenL (kids.take i)) 8193:Nat):Int)+((min (lenG k) 8193:Nat):Int))=((min (lenL (kids.take (i+1))) 8193:Nat):Int):=by
     rw[e1];split<;>omega
    simp +contextual (disch:=omega) only[Tryz.f55,dd55,go_sem,simprocAttr,mu55,↓wrap_up,↓wrap_down,↓wrap_pred,↓wrap_sub_nat,hk,ihk,evMin,hm,hl8,ht8]
    exact(by first|rfl|(simp[keepT,AV.underL,AV.under,MB.under,underL_plain,under_plain,underL_append,plain_ints,plain_span,plain_ins,plain_prg,-List.map_take,-List.map_replicate,-List.map_set,plain_kids];done))
   ·intro _
    rw[List.take_length]
    have hop:op=0∨op=1∨op=2∨op=3∨op=4∨op=5∨op=6∨op=7∨op=8∨op=9∨op=10∨op=11:=by omega
    rw[lenG]
    generalize lenL kids=L at *
    by_cases h1:op=1∨op=11
    ·rw[if_pos h1]
     rcases h1 with rfl|rfl
     all_goals (
      simp +contextual (disch:=omega) only[Tryz.f55,dd55,go_sem,simprocAttr,mu55,↓wrap_up,↓wrap_down,↓wrap_pred,↓wrap_sub_nat,evMin]
      exact fzEq rfl rfl)
    rw[if_neg h1]
    by_cases h3:op=3
    ·subst h3
     rw[if_pos rfl]
     have hk2:2≤kids.length:=by simpa [kidsG] using hkd
     have hw1:IntKind.i64.wrap (((kids.length:Nat):Int) - 1)=((kids.length - 1:Nat):Int):=wrap_pred ⟨by omega,by omega⟩
     simp +contextual (disch:=omega) only[Tryz.f55,dd55,go_sem,simprocAttr,mu55,↓wrap_up,↓wrap_down,↓wrap_pred,↓wrap_sub_nat,evMin]
     refine fzEq rfl (congrArg (AV.int .i64) ?_)
     split<;>omega
    rw[if_neg h3]
    by_cases h5:op=5
    ·subst h5
     rw[if_pos rfl]
     simp +contextual (disch:=omega) only[Tryz.f55,dd55,go_sem,simprocAttr,mu55,↓wrap_up,↓wrap_down,↓wrap_pred,↓wrap_sub_nat,evMin]
     refine fzEq rfl (congrArg (AV.int .i64) ?_)
     split<;>omega
    rw[if_neg h5]
    by_cases h4:op=4
    ·subst h4
     rw[if_pos rfl]
     have hr:=hrp rfl
     simp only[repG,Bool.and_eq_true,Bool.or_eq_true,decide_eq_true_eq,beq_iff_eq]at hr
     obtain⟨mn',rfl⟩:∃ m:Nat,mn=m:=⟨mn.toNat,by omega⟩
     have hmn:mn'≤32:=by omega
     have hmul:∀ a:Nat,a≤33→a * (min L 8193)≤33 * 8193:=fun a ha=>Nat.mul_le_mul ha (by omega)
     have hml:=hmul mn' (by omega)
     have hc1:(mn':Int) * ((min L 8193:Nat):Int)=((mn' * min L 8193:Nat):Int):=by simp
     by_cases hmx:mx = -1
     ·subst hmx
      rw[if_pos rfl]
      simp +contextual (disch:=omega) only[Tryz.f55,dd55,go_sem,simprocAttr,mu55,↓wrap_up,↓wrap_down,↓wrap_pred,↓wrap_sub_nat,evMin,hc1]
      refine fzEq rfl (congrArg (AV.int .i64) ?_)
      rw[Nat.succ_mul]
      by_cases hL:L≤8193
      ·rw[Nat.min_eq_left hL]at *
       split<;>omega
      ·have hle:L≤mn' * L+L:=Nat.le_add_left _ _
       rw[Nat.min_eq_right (by omega)]at *
       split<;>omega
     ·rw[if_neg hmx]
      obtain⟨mx',rfl⟩:∃ m:Nat,mx=m:=⟨mx.toNat,by omega⟩
      obtain⟨e,rfl⟩:∃ e,mx' = mn' + e:=⟨mx' - mn',by omega⟩
      have hsub:((mn' + e:Nat):Int) - (mn':Int)=(e:Int):=by omega
      have hme:e * (min L 8193+1)≤33 * 8194:=Nat.mul_le_mul (by omega) (by omega)
      have hc2:(e:Int) * ((min L 8193+1:Nat):Int)=((e * (min L 8193+1):Nat):Int):=by simp
      have hnn:mn' + e - mn' = e:=by omega
      simp +contextual (disch:=omega) only[Tryz.f55,dd55,go_sem,simprocAttr,mu55,↓wrap_up,↓wrap_down,↓wrap_pred,↓wrap_sub_nat,evMin,hc1,hc2,hnn,hsub]
      refine⟨by unfold dOk;kernel_rfl,?_⟩
      refine fzEq rfl (congrArg (AV.int .i64) ?_)
      rw[Nat.mul_add,Nat.add_mul,Nat.mul_one]at *
      by_cases hL:L≤8193
      ·rw[Nat.min_eq_left hL]at *
       split<;>omega
      ·rw[Nat.min_eq_right (by omega)]at *
       have h1:mn' = 0∨L≤mn' * L:=by
        rcases Nat.eq_zero_or_pos mn' with h|h
        ·exact .inl h
        ·exact .inr (Nat.le_mul_of_pos_left _ h)
       have h2:e=0∨L≤e * L:=by
        rcases Nat.eq_zero_or_pos e with h|h
        ·exact .inl h
        ·exact .inr (Nat.le_mul_of_pos_left _ h)
       split<;>omega
    rw[if_neg h4]
    simp +contextual (disch:=omega) only[Tryz.f55,dd55,go_sem,simprocAttr,mu55,↓wrap_up,↓wrap_down,↓wrap_pred,↓wrap_sub_nat,evMin]
    refine fzEq rfl (congrArg (AV.int .i64) ?_)
    split<;>omega
end
end Go.Ev
