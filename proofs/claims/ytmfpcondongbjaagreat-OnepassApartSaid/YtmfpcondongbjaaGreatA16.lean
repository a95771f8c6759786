/- The plain law on paths: a way that goes in a circle is never left. No program in sight. -/
import Derived.Test.YtmfpcondongbjaaGreatA13
import Derived.Test.YtmfpcondongbjaaGreatA15
import Derived.Test.YtmfpcondongbjaaGreatA07
import Derived.Test.YtmfpcondongbjaaGreatA12
set_option linter.unusedVariables false
set_option linter.unusedSimpArgs false
namespace Go.Ev
structure Way where
 pc:Nat
 at_:Nat
 regs:List Int
inductive Out where
 | done
 | ways (l:List Way)
structure Prog1 where
 ins:Nat→Option Ins
 has:List (Int×Int)→Nat→Bool
 holds:Int→Nat→Bool
def stepW (p:Prog1) (w:Way):Out:=
 match p.ins w.pc with
 | none=>.ways []
 | some i=>
   if i.op=0 then .done
   else if i.op=1 then(if p.has i.set w.at_ then .ways [⟨w.pc+1,w.at_+1,w.regs⟩] else .ways [])
   else if i.op=2 then .ways [⟨i.x.toNat,w.at_,w.regs⟩,⟨i.y.toNat,w.at_,w.regs⟩]
   else if i.op=3 then .ways [⟨i.x.toNat,w.at_,w.regs⟩]
   else if i.op=4 then .ways [⟨w.pc+1,w.at_,w.regs.set i.n.toNat w.at_⟩]
   else(if p.holds i.n w.at_ then .ways [⟨w.pc+1,w.at_,w.regs⟩] else .ways [])
def runW (p:Prog1) (most:Int):Nat→List Way→List Way→Option (List Way)
 | fuel,todo,out=>
   match todo with
   | []=>some out
   | w::rest=>
     if(out.length:Int)=most then some out
     else
      match fuel with
      | 0=>none
      | fuel+1=>
        match stepW p w with
        | .done=>runW p most fuel rest (out++[w])
        | .ways l=>runW p most fuel (l++rest) out
def Way.like (a b:Way):Prop:=a.pc=b.pc∧a.at_=b.at_
def likeL:List Way→List Way→Prop
 | [],[]=>True
 | a::l,b::m=>a.like b∧likeL l m
 | _,_=>False
theorem zFV:∀ {a b c d:List Way},likeL a b→likeL c d→likeL (a++c) (b++d)
 | [],[],_,_,_,h=>h
 | _::_,_::_,_,_,h1,h2=>⟨h1.1,zFV h1.2 h2⟩
 | [],_::_,_,_,h,_=>h.elim
 | _::_,[],_,_,h,_=>h.elim
def likeO:Out→Out→Prop
 | .done,.done=>True
 | .ways l,.ways m=>likeL l m
 | _,_=>False
theorem zFG (p:Prog1) {a b:Way} (h:a.like b):likeO (stepW p a) (stepW p b):=by
 obtain⟨h1,h2⟩:=h
 unfold stepW
 rw[h1,h2]
 cases p.ins b.pc with
 | none=>exact trivial
 | some i=>
   simp only[]
   repeat' split
   all_goals first|exact trivial|exact⟨⟨rfl,rfl⟩,trivial⟩|exact⟨⟨rfl,rfl⟩,⟨rfl,rfl⟩,trivial⟩
inductive Reach (p:Prog1):Way→Way→List Way→Nat→Nat→Prop where
 | refl (w:Way):Reach p w w [] 0 0
 | on {w0 w w':Way} {E l:List Way} {d m:Nat} (h:Reach p w0 w E d m) (hs:stepW p w=.ways (w'::l)):Reach p w0 w' (l++E) d (m+1)
 | pop {w0 w e:Way} {E:List Way} {d m:Nat} (h:Reach p w0 w (e::E) d m) (hs:stepW p w=.ways []):Reach p w0 e E d (m+1)
 | found {w0 w e:Way} {E:List Way} {d m:Nat} (h:Reach p w0 w (e::E) d m) (hs:stepW p w=.done):Reach p w0 e E (d+1) (m+1)
theorem Reach.like {p:Prog1} {w0 w:Way} {E:List Way} {d m:Nat} (h:Reach p w0 w E d m) {v0:Way} (hv:w0.like v0):∃ v F,w.like v∧likeL E F∧Reach p v0 v F d m:=by
 induction h with
 | refl=>exact⟨v0,[],hv,trivial,.refl v0⟩
 | on h hs ih=>
   obtain⟨v,F,h1,h2,h3⟩:=ih
   have h4:=zFG p h1
   rw[hs]at h4
   cases hq:stepW p v with
   | done=>rw[hq]at h4;exact h4.elim
   | ways l2=>
     rw[hq]at h4
     cases l2 with
     | nil=>exact h4.elim
     | cons a l2=>exact⟨a,l2++F,h4.1,zFV h4.2 h2,.on h3 hq⟩
 | pop h hs ih=>
   obtain⟨v,F,h1,h2,h3⟩:=ih
   have h4:=zFG p h1
   rw[hs]at h4
   cases hq:stepW p v with
   | done=>rw[hq]at h4;exact h4.elim
   | ways l2=>
     rw[hq]at h4
     cases l2 with
     | nil=>
       cases F with
       | nil=>exact h2.elim
       | cons f F=>exact⟨f,F,h2.1,h2.2,.pop h3 hq⟩
     | cons a l2=>exact h4.elim
 | found h hs ih=>
   obtain⟨v,F,h1,h2,h3⟩:=ih
   have h4:=zFG p h1
   rw[hs]at h4
   cases hq:stepW p v with
   | done=>
     cases F with
     | nil=>exact h2.elim
     | cons f F=>exact⟨f,F,h2.1,h2.2,.found h3 hq⟩
   | ways l2=>rw[hq]at h4;exact h4.elim
theorem zBm {p:Prog1} {most:Int} {fuel:Nat} {w:Way} {rest out:List Way} (h:¬ (out.length:Int)=most) :
  runW p most (fuel+1) (w::rest) out=match stepW p w with
   | .done=>runW p most fuel rest (out++[w])
   | .ways l=>runW p most fuel (l++rest) out:=by
 conv=>lhs;unfold runW
 simp only[h,if_false]
theorem zC4 {p:Prog1} {most:Int} {w:Way} {rest out:List Way} (h:¬ (out.length:Int)=most):runW p most 0 (w::rest) out=none:=by
 unfold runW
 simp only[h,if_false]
theorem Reach.run {p:Prog1} {most:Int} {w0 w:Way} {E:List Way} {d m:Nat} (h:Reach p w0 w E d m) (S out:List Way) (hm:most = -1∨(d=0∧¬ (out.length:Int)=most)) (fuel:Nat) :
  ∃ out',out'.length=out.length+d∧runW p most (m+fuel) (w0::S) out=runW p most fuel (w::(E++S)) out':=by
 induction h generalizing fuel with
 | refl=>exact⟨out,rfl,by rw[Nat.zero_add];rfl⟩
 | @on w w' E l d m h hs ih=>
   obtain⟨out',h1,h2⟩:=ih hm (fuel+1)
   refine⟨out',h1,?_⟩
   rw[show m+1+fuel=m+(fuel+1) by omega,h2,zBm (by rcases hm with h|⟨h,h'⟩<;>omega),hs]
   simp only[List.cons_append,List.append_assoc]
 | @pop w e E d m h hs ih=>
   obtain⟨out',h1,h2⟩:=ih hm (fuel+1)
   refine⟨out',h1,?_⟩
   rw[show m+1+fuel=m+(fuel+1) by omega,h2,zBm (by rcases hm with h|⟨h,h'⟩<;>omega),hs]
   rfl
 | @found w e E d m h hs ih=>
   rcases hm with hm|hm
   ·obtain⟨out',h1,h2⟩:=ih (.inl hm) (fuel+1)
    refine⟨out'++[w],by simp;omega,?_⟩
    rw[show m+1+fuel=m+(fuel+1) by omega,h2,zBm (by omega),hs]
    rfl
   ·omega
theorem Reach.short {p:Prog1} {most:Int} {w0 w:Way} {E:List Way} {d m:Nat} (h:Reach p w0 w E d m) (S out:List Way) (hm:most = -1∨(d=0∧¬ (out.length:Int)=most)) (fuel:Nat) (hf:fuel < m) :
  runW p most fuel (w0::S) out=none:=by
 induction h generalizing fuel with
 | refl=>omega
 | @on w w' E l d m h hs ih=>
   rcases Nat.lt_or_ge fuel m with h1|h1
   ·exact ih hm fuel h1
   ·obtain rfl:fuel=m:=by omega
    obtain⟨out',h2,h3⟩:=h.run S out hm 0
    rw[Nat.add_zero]at h3
    rw[h3,zC4 (by rcases hm with h|⟨h,h'⟩<;>omega)]
 | @pop w e E d m h hs ih=>
   rcases Nat.lt_or_ge fuel m with h1|h1
   ·exact ih hm fuel h1
   ·obtain rfl:fuel=m:=by omega
    obtain⟨out',h2,h3⟩:=h.run S out hm 0
    rw[Nat.add_zero]at h3
    rw[h3,zC4 (by rcases hm with h|⟨h,h'⟩<;>omega)]
 | @found w e E d m h hs ih=>
   rcases hm with hm|hm
   ·rcases Nat.lt_or_ge fuel m with h1|h1
    ·exact ih (.inl hm) fuel h1
    ·obtain rfl:fuel=m:=by omega
     obtain⟨out',h2,h3⟩:=h.run S out (.inl hm) 0
     rw[Nat.add_zero]at h3
     rw[h3,zC4 (by omega)]
   ·omega
theorem circle {p:Prog1} {most:Int} {w0 w:Way} {E:List Way} {d m:Nat} (h:Reach p w0 w E d (m+1)) (hl:w0.like w):∀(fuel:Nat) (v0:Way) (S out:List Way),w0.like v0→(most = -1∨(d=0∧¬ (out.length:Int)=most)) →
  runW p most fuel (v0::S) out=none:=by
 intro fuel
 induction fuel using Nat.strongRecOn with
 | ind fuel ih=>
   intro v0 S out hv hm
   obtain⟨v,F,h1,h2,h3⟩:=h.like hv
   rcases Nat.lt_or_ge fuel (m+1) with hf|hf
   ·exact h3.short S out hm fuel hf
   ·obtain⟨out',o1,o2⟩:=h3.run S out hm (fuel - (m+1))
    rw[show m+1+(fuel - (m+1))=fuel by omega]at o2
    rw[o2]
    refine ih _ (by omega) v (F++S) out' ⟨hl.1.trans h1.1,hl.2.trans h1.2⟩ ?_
    rcases hm with hm|⟨hm,hm'⟩
    ·exact .inl hm
    ·exact .inr ⟨hm,by omega⟩
end Go.Ev
set_option linter.unusedSectionVars false
namespace Go.Ev
def Ends (p:Prog1) (S:List Way) (r:Option (Nat×List Int)) (n:Nat):Prop:=
 ∃ n',n'≤n∧(match r with
   | some x=>∃ pc,∀ rest fuel,runW p 1 (n' + fuel) (S++rest) []=some [⟨pc,x.1,x.2⟩]
   | none=>∀ rest fuel,runW p 1 (n' + fuel) (S++rest) []=runW p 1 fuel rest [])
theorem Ends.nil (p:Prog1) (n:Nat):Ends p [] none n:=⟨0,Nat.zero_le _,fun rest fuel=>by simp⟩
theorem Ends.mono {p:Prog1} {S:List Way} {r:Option (Nat×List Int)} {n m:Nat} (h:Ends p S r n) (hm:n≤m):Ends p S r m:=by
 obtain⟨n',h1,h2⟩:=h
 exact⟨n',Nat.le_trans h1 hm,h2⟩
theorem Ends.fst {p:Prog1} {S T:List Way} {x:Nat×List Int} {n:Nat} (h:Ends p S (some x) n):Ends p (S++T) (some x) n:=by
 obtain⟨n',h1,pc,h2⟩:=h
 exact⟨n',h1,pc,fun rest fuel=>by rw[List.append_assoc];exact h2 _ _⟩
theorem Ends.app {p:Prog1} {S T:List Way} {r:Option (Nat×List Int)} {n m:Nat} (h:Ends p S none n) (g:Ends p T r m):Ends p (S++T) r (n+m):=by
 obtain⟨n',h1,h2⟩:=h
 obtain⟨m',g1,g2⟩:=g
 refine⟨n' + m',by omega,?_⟩
 cases r with
 | none=>exact fun rest fuel=>by rw[List.append_assoc,Nat.add_assoc,h2,g2]
 | some x=>
   obtain⟨pc,g2⟩:=g2
   exact⟨pc,fun rest fuel=>by rw[List.append_assoc,Nat.add_assoc,h2,g2]⟩
theorem Ends.or {p:Prog1} {S T:List Way} {r q:Option (Nat×List Int)} {n m:Nat} (h:Ends p S r n) (g:Ends p T q m):Ends p (S++T) (r.or q) (n+m):=by
 cases r with
 | none=>exact h.app g
 | some x=>exact(h.fst (T:=T)).mono (by omega)
theorem runW_one {p:Prog1} {fuel:Nat} {rest:List Way} {w:Way}:runW p 1 fuel rest [w]=some [w]:=by
 cases rest with
 | nil=>unfold runW;rfl
 | cons v rest=>unfold runW;simp
theorem Ends.done {p:Prog1} {w:Way} {S:List Way} {n:Nat} (hs:stepW p w=.done) (hn:1≤n):Ends p (w::S) (some (w.at_,w.regs)) n:=by
 refine⟨1,hn,w.pc,fun rest fuel=>?_⟩
 rw[Nat.add_comm,List.cons_append,zBm (by simp),hs]
 exact runW_one
theorem Ends.step {p:Prog1} {w:Way} {S l:List Way} {r:Option (Nat×List Int)} {n:Nat} (hs:stepW p w=.ways l) (h:Ends p (l++S) r n):Ends p (w::S) r (n+1):=by
 obtain⟨n',h1,h2⟩:=h
 refine⟨n' + 1,by omega,?_⟩
 have e:∀ rest fuel,runW p 1 (n' + 1+fuel) (w::S++rest) []=runW p 1 (n' + fuel) (l++S++rest) []:=fun rest fuel=>by
  rw[show n' + 1+fuel=(n' + fuel)+1 by omega,List.cons_append,zBm (by simp),hs,List.append_assoc]
 cases r with
 | none=>exact fun rest fuel=>by rw[e,h2]
 | some x=>
   obtain⟨pc,h2⟩:=h2
   exact⟨pc,fun rest fuel=>by rw[e,h2]⟩
structure ProgT (p:Prog1) (ins:List Ins) (t:List Int):Prop where
 ins:∀ n,p.ins n=ins[n]?
 has:∀ s n,p.has s n=match t[n]? with
  | some x=>hasSpan s x
  | none=>false
def hitB (ins:List Ins) (t:List Int) (p a:Nat):Bool:=match t[p]? with
 | some x=>leadB ins x a
 | none=>false
abbrev wayM (p:Nat) (regs:List Int) (w:Nat×List Bool):Way:=⟨w.1,p,markL regs w.2 p⟩
theorem markL_set (regs:List Int) (m:List Bool) (p:Int) (n:Nat) (hn:n < m.length):(markL regs m p).set n p=markL regs (m.set n true) p:=by
 apply List.ext_getElem?
 intro q
 by_cases e:n=q
 ·subst e
  by_cases hl:n < regs.length
  ·have h1:n < (markL regs m p).length:=by simp[markL];omega
   rw[List.getElem?_set_self h1]
   simp[markL,List.getElem?_zipWith,hl,hn]
  ·rw[List.getElem?_eq_none (by simp[markL];omega),List.getElem?_eq_none (by simp[markL];omega)]
 ·rw[List.getElem?_set_ne e]
  simp[markL,List.getElem?_zipWith,List.getElem?_set_ne e]
theorem markL_none (regs:List Int) (p:Int) (h:regs.length≤18):markL regs m0S p=regs:=by
 apply List.ext_getElem?
 intro q
 simp only[markL,List.getElem?_zipWith,m0S,List.getElem?_replicate]
 by_cases hq:q < regs.length
 ·rw[if_pos (by omega),List.getElem?_eq_getElem hq]
  simp
 ·rw[List.getElem?_eq_none (by omega)]
section
set_option linter.unusedSectionVars false
variable {ins:List Ins} {t:List Int} {P:Prog1} (h:OkP ins) (hP:ProgT P ins t) (p:Nat) (regs:List Int)
include h hP
theorem step_of {a:Nat} {i:Ins} (m:List Bool) (hm:m.length=18) (hi:ins[a]?=some i) :
  (i.op=0→stepW P (wayM p regs (a,m))=.done) ∧
  (i.op=1→stepW P (wayM p regs (a,m))=if hitB ins t p a=true then .ways [⟨a+1,p+1,markL regs m p⟩] else .ways []) ∧
  (i.op=2→stepW P (wayM p regs (a,m))=.ways [wayM p regs (i.x.toNat,m),wayM p regs (i.y.toNat,m)]) ∧
  (i.op=3→stepW P (wayM p regs (a,m))=.ways [wayM p regs (i.x.toNat,m)]) ∧
  (i.op=4→stepW P (wayM p regs (a,m))=.ways [wayM p regs (a+1,m.set i.n.toNat true)]):=by
 have hp:P.ins a=some i:=by rw[hP.ins,hi]
 refine⟨fun e=>by simp[stepW,hp,e],fun e=>?_,fun e=>by simp[stepW,hp,e],fun e=>by simp[stepW,hp,e],fun e=>?_⟩
 ·have hh:=hP.has i.set p
  cases ht:t[p]? with
  | none=>rw[ht]at hh;simp[stepW,hp,e,hh,hitB,ht]
  | some x=>rw[ht]at hh;simp[stepW,hp,e,hh,hitB,ht,leadB,hi]
 ·have h4:=(h.leads a i hi).2.2 e
  simp only[stepW,hp,e]
  simp
  rw[markL_set _ _ _ _ (by omega)]
theorem vis_tw {a:Nat} {s:List Nat} {w:WS} (ht:(visF ins (a::s) w).tw=false):w.tw=false∧a ∉ w.seen:=by
 constructor
 ·refine Bool.eq_false_iff.2 fun e=>?_
  rw[zCx (.inl e)]at ht
  simp at ht
 ·intro e
  rw[zCx (.inr e)]at ht
  simp at ht
theorem seen_lt {a:Nat} {w:WS} (hw:w.Ok ins.length) (hn:a ∉ w.seen) (ha:a < ins.length):w.seen.length+1≤ins.length:=by
 have:=zD4 (n:=ins.length) (l:=a::w.seen) (List.nodup_cons.2 ⟨hn,hw.1⟩) (fun b hb=>by
  rcases List.mem_cons.1 hb with rfl|hb
  ·exact ha
  ·exact hw.2 b hb)
 simpa using this
end
structure Closed (ins:List Ins) (Q:Nat→Prop):Prop where
 lt:∀ st,Q st→st < ins.length
 nf:∀ st,Q st→¬ ForkS ins st
 next:∀ st s b,Q st→leadS ins st s=some b→Q b
theorem zHz {ins:List Ins} (h:OkP ins) {t:List Int} {st p a:Nat} (hf:¬ ForkS ins st) (ha:a∈(fromS ins st).stops) (hh:hitB ins t p a=true):∃ x,t[p]?=some x∧leadS ins st x=some (a+1):=by
 unfold hitB at hh
 cases ht:t[p]? with
 | none=>simp[ht]at hh
 | some x=>
   rw[ht]at hh
   simp only at hh
   obtain⟨i,hi,h1,h2⟩:=leadB_at hh
   obtain⟨q,hq,_⟩:=zCq.1 h2
   exact⟨x,rfl,rd_lead h hf (mem_rd ha hi h1 (List.length_pos_of_mem hq)) hi h2⟩
theorem markL_len (regs:List Int) (m:List Bool) (p:Int):(markL regs m p).length≤regs.length:=by simp[markL];omega
end Go.Ev
set_option linter.unusedSectionVars false
namespace Go.Ev
def AllE (p:Prog1) (S:List Way) (rs:List Nat) (n:Nat):Prop:=
 ∃ n' ws,n'≤n∧ws.map (·.at_)=rs∧∀ rest fuel out,runW p (-1) (n' + fuel) (S++rest) out=runW p (-1) fuel rest (out++ws)
theorem AllE.nil (p:Prog1) (n:Nat):AllE p [] [] n:=⟨0,[],Nat.zero_le _,rfl,fun rest fuel out=>by simp⟩
theorem AllE.mono {p:Prog1} {S:List Way} {rs:List Nat} {n m:Nat} (h:AllE p S rs n) (hm:n≤m):AllE p S rs m:=by
 obtain⟨n',ws,h1,h2⟩:=h
 exact⟨n',ws,Nat.le_trans h1 hm,h2⟩
theorem AllE.app {p:Prog1} {S T:List Way} {rs qs:List Nat} {n m:Nat} (h:AllE p S rs n) (g:AllE p T qs m):AllE p (S++T) (rs++qs) (n+m):=by
 obtain⟨n',ws,h1,h2,h3⟩:=h
 obtain⟨m',vs,g1,g2,g3⟩:=g
 refine⟨n' + m',ws++vs,by omega,by rw[List.map_append,h2,g2],fun rest fuel out=>?_⟩
 rw[List.append_assoc,Nat.add_assoc,h3,g3,List.append_assoc]
theorem AllE.done {p:Prog1} {w:Way} {S:List Way} {rs:List Nat} {n:Nat} (hs:stepW p w=.done) (h:AllE p S rs n):AllE p (w::S) (w.at_::rs) (n+1):=by
 obtain⟨n',ws,h1,h2,h3⟩:=h
 refine⟨n' + 1,w::ws,by omega,by rw[List.map_cons,h2],fun rest fuel out=>?_⟩
 rw[show n' + 1+fuel=(n' + fuel)+1 by omega,List.cons_append,zBm (by omega),hs]
 simp only
 rw[h3,List.append_assoc]
 rfl
theorem AllE.step {p:Prog1} {w:Way} {S l:List Way} {rs:List Nat} {n:Nat} (hs:stepW p w=.ways l) (h:AllE p (l++S) rs n):AllE p (w::S) rs (n+1):=by
 obtain⟨n',ws,h1,h2,h3⟩:=h
 refine⟨n' + 1,ws,by omega,h2,fun rest fuel out=>?_⟩
 rw[show n' + 1+fuel=(n' + fuel)+1 by omega,List.cons_append,zBm (by omega),hs]
 simp only
 rw[← List.append_assoc,h3]
section
variable {ins:List Ins} {t:List Int} {P:Prog1} (h:OkP ins) (hP:ProgT P ins t) (p:Nat) (regs:List Int)
include h hP
theorem walkD:∀(k:Nat) (stk:Stk) (w:WS),w.Ok ins.length→w.In ins→ins.length < k+w.seen.length→(∀ x∈stk,x.1 < ins.length∧x.2.length=18)→(visF ins (stk.map (·.1)) w).tw=false →
  (∀ a∈(visF ins (stk.map (·.1)) w).stops,hitB ins t p a=true→a∈w.seen) →
  (∀ a∈(visF ins (stk.map (·.1)) w).stops,∀ b∈(visF ins (stk.map (·.1)) w).stops,dnB ins a=true→dnB ins b=true→a=b) →
  ∃ d:Bool,AllE P (stk.map (wayM p regs)) (if d=true then [p] else []) (ins.length - w.seen.length)∧((∃ a∈w.stops,dnB ins a=true)→d=false)
 | k,[],w,hw,_,hk,_,_,_,_=>⟨false,by rw[if_neg (by simp)];exact AllE.nil _ _,fun _=>rfl⟩
 | 0,_::_,w,hw,_,hk,_,_,_,_=>absurd hw.len (by omega)
 | k+1,(a,m)::rest,w,hw,hin,hk,hst,htw,hh,hu=>by
   obtain⟨ha,hm⟩:=hst (a,m) (by simp)
   simp only at ha hm
   obtain⟨i,hi⟩:∃ i,ins[a]?=some i:=⟨_,List.getElem?_eq_getElem ha⟩
   simp only[List.map_cons]at htw hh hu ⊢
   obtain⟨h1,h2⟩:=vis_tw h hP htw
   rw[zDz hw h1 h2 hi]at htw hh hu
   have hl:(stepS w i a).seen.length=w.seen.length+1:=by simp[stepS]
   have hok:=hw.step h2 hi
   have hin2:(stepS w i a).In ins:=by
    refine⟨?_,?_⟩
    ·simp only[stepS]
     split
     ·exact hin.sub.append (List.Sublist.refl _)
     ·exact hin.sub.trans (List.sublist_append_left _ _)
    ·simp only[stepS]
     split
     ·rename_i hb
      intro b hmem
      rcases List.mem_append.1 hmem with hmem|hmem
      ·exact hin.at_ b hmem
      ·simp at hmem;subst hmem;exact⟨i,hi,hb⟩
     ·exact hin.at_
   have hsl:=seen_lt h hP hw h2 ha
   have hrest:∀ x∈rest,x.1 < ins.length∧x.2.length=18:=fun x hx=>hst x (List.mem_cons_of_mem _ hx)
   obtain⟨st0,st1,st2,st3,st4⟩:=step_of h hP p regs m hm hi
   have hpre:=(zFh h.in1 (ins.length+1) (nexts i a++rest.map (·.1)) [] (stepS w i a) hok (by omega) (fun b hb=>by
    rcases List.mem_append.1 hb with hb|hb
    ·exact h.in1 a i hi b hb
    ·obtain⟨x,hx,rfl⟩:=List.mem_map.1 hb
     exact(hrest x hx).1)).2.2 rfl
   have go:∀ stk2:Stk,stk2.map (·.1)=nexts i a→(∀ x∈stk2,x.1 < ins.length∧x.2.length=18) →
     ∃ d:Bool,AllE P (stk2.map (wayM p regs)++rest.map (wayM p regs)) (if d=true then [p] else []) (ins.length - (w.seen.length+1))∧((∃ b∈(stepS w i a).stops,dnB ins b=true)→d=false):=by
    intro stk2 e2 e4
    obtain⟨d,r1,r2⟩:=walkD k (stk2++rest) (stepS w i a) hok hin2 (by rw[hl];omega) (fun x hx=>(List.mem_append.1 hx).elim (e4 x) (hrest x)) (by rw[List.map_append,e2];exact htw) (by
     rw[List.map_append,e2]
     intro b hb hx
     exact List.mem_append_left _ (hh b hb hx)) (by rw[List.map_append,e2];exact hu)
    rw[List.map_append,hl]at r1
    exact⟨d,r1,r2⟩
   have up:(∃ b∈w.stops,dnB ins b=true)→∃ b∈(stepS w i a).stops,dnB ins b=true:=fun⟨b,hb,hd⟩=>⟨b,by
    simp only[stepS]
    split
    ·exact List.mem_append_left _ hb
    ·exact hb,hd⟩
   rcases h.ops i (List.mem_of_getElem? hi) with h0|h0|h0|h0|h0
   ·have hn:nexts i a=[]:=by simp[nexts,h0]
    obtain⟨d,r1,r2⟩:=go [] (by simp[hn]) (fun x hx=>by simp at hx)
    have hst1:a∈(stepS w i a).stops:=by simp[stepS,stopB,h0]
    have hda:dnB ins a=true:=by simp[dnB,hi,h0]
    obtain rfl:d=false:=r2 ⟨a,hst1,hda⟩
    refine⟨true,?_,fun⟨b,hb,hd⟩=>?_⟩
    ·rw[if_pos rfl]
     rw[if_neg (by simp)]at r1
     exact(AllE.done (st0 h0) r1).mono (by omega)
    ·have hbw:b∈(stepS w i a).stops:=by simp[stepS,stopB,h0,hb]
     have:=hu a (hpre.subset hst1) b (hpre.subset hbw) hda hd
     exact absurd (hin.sub.subset (this ▸ hb)) h2
   ·have hn:nexts i a=[]:=by simp[nexts,h0]
    obtain⟨d,r1,r2⟩:=go [] (by simp[hn]) (fun x hx=>by simp at hx)
    have hst1:a∈(stepS w i a).stops:=by simp[stepS,stopB,h0]
    have hnh:hitB ins t p a=false:=Bool.eq_false_iff.2 fun e=>h2 (hh a (hpre.subset hst1) e)
    have hs:=st1 h0
    rw[if_neg (by simp[hnh])]at hs
    exact⟨d,(AllE.step hs r1).mono (by omega),fun e=>r2 (up e)⟩
   ·obtain⟨d,r1,r2⟩:=go [(i.x.toNat,m),(i.y.toNat,m)] (by simp[nexts,h0]) (fun x hx=>by
     have h1:=(h.leads a i hi).1 (.inl h0)
     have h2:=(h.leads a i hi).2.1 h0
     simp at hx;rcases hx with rfl|rfl
     ·exact⟨h1.2,hm⟩
     ·exact⟨h2.2,hm⟩)
    exact⟨d,(AllE.step (st2 h0) r1).mono (by omega),fun e=>r2 (up e)⟩
   ·obtain⟨d,r1,r2⟩:=go [(i.x.toNat,m)] (by simp[nexts,h0]) (fun x hx=>by
     have h1:=(h.leads a i hi).1 (.inr h0)
     simp at hx;subst hx;exact⟨h1.2,hm⟩)
    exact⟨d,(AllE.step (st3 h0) r1).mono (by omega),fun e=>r2 (up e)⟩
   ·obtain⟨d,r1,r2⟩:=go [(a+1,m.set i.n.toNat true)] (by simp[nexts,h0]) (fun x hx=>by
     have h1:=(h.leads a i hi).2.2 h0
     simp at hx;subst hx;exact⟨h1.1,by simp[hm]⟩)
    exact⟨d,(AllE.step (st4 h0) r1).mono (by omega),fun e=>r2 (up e)⟩
theorem walkC (hrl:regs.length≤18) (M:Nat):∀(k:Nat) (stk:Stk) (w:WS),w.Ok ins.length→w.In ins→ins.length < k+w.seen.length→(∀ x∈stk,x.1 < ins.length∧x.2.length=18)→(visF ins (stk.map (·.1)) w).tw=false →
  (∀ a∈(visF ins (stk.map (·.1)) w).stops,∀ b∈(visF ins (stk.map (·.1)) w).stops,hitB ins t p a=true→hitB ins t p b=true→a=b) →
  (∀ a∈(visF ins (stk.map (·.1)) w).stops,∀ b∈(visF ins (stk.map (·.1)) w).stops,dnB ins a=true→dnB ins b=true→a=b) →
  (∀ a∈(visF ins (stk.map (·.1)) w).stops,hitB ins t p a=true→∀ rg:List Int,rg.length≤18→∃ rs,AllE P [⟨a+1,p+1,rg⟩] rs M∧rs.Nodup∧∀ x∈rs,p+1≤x) →
  ∃ rs,AllE P (stk.map (wayM p regs)) rs (M+(ins.length - w.seen.length))∧rs.Nodup∧(∀ x∈rs,p≤x)∧((∃ a∈w.stops,dnB ins a=true)→p ∉ rs)
 | k,[],w,hw,_,hk,_,_,_,_,_=>⟨[],AllE.nil _ _,List.nodup_nil,(fun x hx=>by cases hx),(fun _ hx=>by cases hx)⟩
 | 0,_::_,w,hw,_,hk,_,_,_,_,_=>absurd hw.len (by omega)
 | k+1,(a,m)::rest,w,hw,hin,hk,hst,htw,hh,hu,hd=>by
   obtain⟨ha,hm⟩:=hst (a,m) (by simp)
   simp only at ha hm
   obtain⟨i,hi⟩:∃ i,ins[a]?=some i:=⟨_,List.getElem?_eq_getElem ha⟩
   simp only[List.map_cons]at htw hh hu hd ⊢
   obtain⟨h1,h2⟩:=vis_tw h hP htw
   rw[zDz hw h1 h2 hi]at htw hh hu hd
   have hl:(stepS w i a).seen.length=w.seen.length+1:=by simp[stepS]
   have hok:=hw.step h2 hi
   have hin2:(stepS w i a).In ins:=by
    refine⟨?_,?_⟩
    ·simp only[stepS]
     split
     ·exact hin.sub.append (List.Sublist.refl _)
     ·exact hin.sub.trans (List.sublist_append_left _ _)
    ·simp only[stepS]
     split
     ·rename_i hb
      intro b hmem
      rcases List.mem_append.1 hmem with hmem|hmem
      ·exact hin.at_ b hmem
      ·simp at hmem;subst hmem;exact⟨i,hi,hb⟩
     ·exact hin.at_
   have hsl:=seen_lt h hP hw h2 ha
   have hrest:∀ x∈rest,x.1 < ins.length∧x.2.length=18:=fun x hx=>hst x (List.mem_cons_of_mem _ hx)
   obtain⟨st0,st1,st2,st3,st4⟩:=step_of h hP p regs m hm hi
   have hpre:=(zFh h.in1 (ins.length+1) (nexts i a++rest.map (·.1)) [] (stepS w i a) hok (by omega) (fun b hb=>by
    rcases List.mem_append.1 hb with hb|hb
    ·exact h.in1 a i hi b hb
    ·obtain⟨x,hx,rfl⟩:=List.mem_map.1 hb
     exact(hrest x hx).1)).2.2 rfl
   have go:∀ stk2:Stk,stk2.map (·.1)=nexts i a→(∀ x∈stk2,x.1 < ins.length∧x.2.length=18) →
     ∃ rs,AllE P (stk2.map (wayM p regs)++rest.map (wayM p regs)) rs (M+(ins.length - (w.seen.length+1)))∧rs.Nodup∧(∀ x∈rs,p≤x)∧((∃ b∈(stepS w i a).stops,dnB ins b=true)→p ∉ rs):=by
    intro stk2 e2 e4
    obtain⟨rs,r1,r2⟩:=walkC hrl M k (stk2++rest) (stepS w i a) hok hin2 (by rw[hl];omega) (fun x hx=>(List.mem_append.1 hx).elim (e4 x) (hrest x)) (by rw[List.map_append,e2];exact htw) (by
     rw[List.map_append,e2];exact hh) (by rw[List.map_append,e2];exact hu) (by rw[List.map_append,e2];exact hd)
    rw[List.map_append,hl]at r1
    exact⟨rs,r1,r2⟩
   have up:(∃ b∈w.stops,dnB ins b=true)→∃ b∈(stepS w i a).stops,dnB ins b=true:=fun⟨b,hb,hd⟩=>⟨b,by
    simp only[stepS]
    split
    ·exact List.mem_append_left _ hb
    ·exact hb,hd⟩
   rcases h.ops i (List.mem_of_getElem? hi) with h0|h0|h0|h0|h0
   ·have hn:nexts i a=[]:=by simp[nexts,h0]
    obtain⟨rs,r1,r2,r3,r4⟩:=go [] (by simp[hn]) (fun x hx=>by simp at hx)
    have hst1:a∈(stepS w i a).stops:=by simp[stepS,stopB,h0]
    have hda:dnB ins a=true:=by simp[dnB,hi,h0]
    have hnp:=r4 ⟨a,hst1,hda⟩
    refine⟨p::rs,(AllE.done (st0 h0) r1).mono (by omega),List.nodup_cons.2 ⟨hnp,r2⟩,fun x hx=>?_,fun⟨b,hb,hdb⟩=>?_⟩
    ·rcases List.mem_cons.1 hx with rfl|hx
     ·exact Nat.le_refl _
     ·exact r3 x hx
    ·have hbw:b∈(stepS w i a).stops:=by simp[stepS,stopB,h0,hb]
     have:=hu a (hpre.subset hst1) b (hpre.subset hbw) hda hdb
     exact absurd (hin.sub.subset (this ▸ hb)) h2
   ·have hn:nexts i a=[]:=by simp[nexts,h0]
    have hst1:a∈(stepS w i a).stops:=by simp[stepS,stopB,h0]
    have hain:=hpre.subset hst1
    have hs:=st1 h0
    cases hq:hitB ins t p a with
    | false=>
      obtain⟨rs,r1,r2,r3,r4⟩:=go [] (by simp[hn]) (fun x hx=>by simp at hx)
      rw[if_neg (by simp[hq])]at hs
      exact⟨rs,(AllE.step hs r1).mono (by omega),r2,r3,fun e=>r4 (up e)⟩
    | true=>
      rw[if_pos hq]at hs
      rw[hn,List.nil_append]at htw hh hu hain
      obtain⟨rs,r1,r2,r3⟩:=hd a (by rw[hn,List.nil_append];exact hain) hq (markL regs m p) (Nat.le_trans (markL_len _ _ _) hrl)
      obtain⟨d,q1,q2⟩:=walkD h hP p regs k rest (stepS w i a) hok hin2 (by rw[hl];omega) hrest htw (fun b hb hx=>by
       rw[hh b hb a hain hx hq]
       simp[stepS]) hu
      rw[hl]at q1
      refine⟨rs++(if d=true then [p] else []),(AllE.step hs (r1.app q1)).mono (by omega),?_,fun x hx=>?_,fun e hx=>?_⟩
      ·rw[List.nodup_append]
       refine⟨r2,by split<;>simp,fun x hx y hy=>?_⟩
       split at hy
       ·simp at hy;subst hy
        have:=r3 x hx;omega
       ·cases hy
      ·rcases List.mem_append.1 hx with hx|hx
       ·have:=r3 x hx;omega
       ·split at hx
        ·simp at hx;omega
        ·cases hx
      ·rcases List.mem_append.1 hx with hx|hx
       ·have:=r3 p hx;omega
       ·obtain rfl:=q2 (up e)
        simp at hx
   ·obtain⟨rs,r1,r2,r3,r4⟩:=go [(i.x.toNat,m),(i.y.toNat,m)] (by simp[nexts,h0]) (fun x hx=>by
     have h1:=(h.leads a i hi).1 (.inl h0)
     have h2:=(h.leads a i hi).2.1 h0
     simp at hx;rcases hx with rfl|rfl
     ·exact⟨h1.2,hm⟩
     ·exact⟨h2.2,hm⟩)
    exact⟨rs,(AllE.step (st2 h0) r1).mono (by omega),r2,r3,fun e=>r4 (up e)⟩
   ·obtain⟨rs,r1,r2,r3,r4⟩:=go [(i.x.toNat,m)] (by simp[nexts,h0]) (fun x hx=>by
     have h1:=(h.leads a i hi).1 (.inr h0)
     simp at hx;subst hx;exact⟨h1.2,hm⟩)
    exact⟨rs,(AllE.step (st3 h0) r1).mono (by omega),r2,r3,fun e=>r4 (up e)⟩
   ·obtain⟨rs,r1,r2,r3,r4⟩:=go [(a+1,m.set i.n.toNat true)] (by simp[nexts,h0]) (fun x hx=>by
     have h1:=(h.leads a i hi).2.2 h0
     simp at hx;subst hx;exact⟨h1.1,by simp[hm]⟩)
    exact⟨rs,(AllE.step (st4 h0) r1).mono (by omega),r2,r3,fun e=>r4 (up e)⟩
end
theorem count_one {α:Type} {f:α→Bool}:∀ {l:List α},l.countP f≤1→∀ a∈l,∀ b∈l,f a=true→f b=true→a=b
 | [],_,a,ha,_,_,_,_=>by cases ha
 | c::l,h,a,ha,b,hb,fa,fb=>by
   rw[List.countP_cons]at h
   rcases List.mem_cons.1 ha with e1|ha'
   ·rcases List.mem_cons.1 hb with e2|hb'
    ·rw[e1,e2]
    ·exfalso
     have:0 < l.countP f:=List.countP_pos_iff.2 ⟨b,hb',fb⟩
     rw[← e1,if_pos fa]at h
     omega
   ·rcases List.mem_cons.1 hb with e2|hb'
    ·exfalso
     have:0 < l.countP f:=List.countP_pos_iff.2 ⟨a,ha',fa⟩
     rw[← e2,if_pos fb]at h
     omega
    ·exact count_one (by omega) a ha' b hb' fa fb
theorem apart_all {ins:List Ins} (h:OkP ins) {t:List Int} {P:Prog1} (hP:ProgT P ins t) {Q:Nat→Prop} (hQ:Closed ins Q):∀(k st p:Nat) (regs:List Int),Q st→t.length < p+k→p≤t.length→regs.length≤18 →
  ∃ rs,AllE P [⟨st,p,regs⟩] rs (k * ins.length)∧rs.Nodup∧∀ x∈rs,p≤x
 | 0,st,p,regs,hq,hk,hp,_=>absurd hk (by omega)
 | k+1,st,p,regs,hq,hk,hp,hr=>by
   have hf:=hQ.nf st hq
   have hst:=hQ.lt st hq
   have htw:(fromS ins st).tw=false:=Bool.eq_false_iff.2 fun e=>hf (.inl e)
   have hone:(fromS ins st).stops.countP (dnB ins)≤1:=by
    have:=exS_dn ins st
    refine Classical.byContradiction fun e=>hf (.inr (.inl (by omega)))
   obtain⟨rs,r1,r2,r3,_⟩:=walkC h hP p regs hr (k * ins.length) (ins.length+1) [(st,m0S)] w0S (w0S_ok _) ⟨List.Sublist.refl _,fun a ha=>by simp[w0S]at ha⟩ (by simp[w0S]) (fun x hx=>by simp at hx;subst hx;exact⟨hst,rfl⟩) htw
    (fun a ha b hb e1 e2=>by
      obtain⟨x,hx,hla⟩:=zHz h hf ha e1
      obtain⟨y,hy,hlb⟩:=zHz h hf hb e2
      rw[hx]at hy;cases hy
      rw[hla]at hlb
      simp only[Option.some.injEq]at hlb
      omega) (fun a ha b hb e1 e2=>count_one hone a ha b hb e1 e2) (fun a ha e rg hrg=>by
      obtain⟨x,hx,hla⟩:=zHz h hf ha e
      have hpt:=(List.getElem?_eq_some_iff.1 hx).1
      exact apart_all h hP hQ k (a+1) (p+1) rg (hQ.next st x _ hq hla) (by omega) (by omega) hrg)
   have e1:[((st,m0S):Nat×List Bool)].map (wayM p regs)=[⟨st,p,regs⟩]:=by simp[wayM,markL_none _ _ hr]
   rw[e1]at r1
   refine⟨rs,r1.mono ?_,r2,r3⟩
   rw[Nat.succ_mul]
   simp[w0S]
theorem addS_pre (ins:List Ins) (i:Nat) (r:RS) (xs:List RS) (s:Int):xs <+: addS ins i r xs s∧∀ b,leadS ins r.st s=some b→b∈(addS ins i r xs s).map (·.st):=by
 unfold addS
 cases hq:leadS ins r.st s with
 | none=>exact⟨List.prefix_refl _,fun b h=>by cases h⟩
 | some c=>
   simp only
   split
   ·rename_i hc
    exact⟨List.prefix_refl _,fun b h=>by cases h;exact hc⟩
   ·exact⟨List.prefix_append _ _,fun b h=>by cases h;simp⟩
theorem adds_pre (ins:List Ins) (i:Nat) (r:RS):∀(syms:List Int) (xs:List RS),xs <+: syms.foldl (addS ins i r) xs∧∀ s∈syms,∀ b,leadS ins r.st s=some b→b∈(syms.foldl (addS ins i r) xs).map (·.st)
 | [],xs=>⟨List.prefix_refl _,fun s hs=>by cases hs⟩
 | s::syms,xs=>by
   obtain⟨h1,h2⟩:=addS_pre ins i r xs s
   obtain⟨h3,h4⟩:=adds_pre ins i r syms (addS ins i r xs s)
   refine⟨h1.trans h3,fun s' hs b hb=>?_⟩
   rcases List.mem_cons.1 hs with rfl|hs
   ·exact(h3.map (·.st)).subset (h2 b hb)
   ·exact h4 s' hs b hb
def Gone (ins:List Ins) (xs:List RS) (r:RS):Prop:=¬ ForkS ins r.st∧∀ n∈(exS ins r.st).rd,n+1∈xs.map (·.st)
theorem srch_gone {ins:List Ins} (h:OkP ins) {syms:List Int} (hL:LeastTo ins ins.length syms):∀(f i:Nat) (xs xs':List RS),XOk ins xs→ins.length < f+i→srch ins syms f i xs=(xs',false)→(∀ j r,j < i→xs[j]?=some r→Gone ins xs r) →
  xs <+: xs'∧∀ r∈xs',Gone ins xs' r
 | 0,i,xs,xs',hx,hf,hs,hg=>by
   simp only[srch,Prod.mk.injEq,and_true]at hs
   subst hs
   have:=hx.len
   refine⟨List.prefix_refl _,fun r hr=>?_⟩
   obtain⟨j,hj⟩:=List.mem_iff_getElem?.1 hr
   exact hg j r (by have:=(List.getElem?_eq_some_iff.1 hj).1;omega) hj
 | f+1,i,xs,xs',hx,hf,hs,hg=>by
   simp only[srch]at hs
   cases hi:xs[i]? with
   | none=>
     rw[hi]at hs
     simp only[Prod.mk.injEq,and_true]at hs
     subst hs
     refine⟨List.prefix_refl _,fun r hr=>?_⟩
     obtain⟨j,hj⟩:=List.mem_iff_getElem?.1 hr
     have h1:=(List.getElem?_eq_some_iff.1 hj).1
     have h2:=List.getElem?_eq_none_iff.1 hi
     exact hg j r (by omega) hj
   | some r=>
     rw[hi]at hs
     simp only at hs
     split at hs
     ·simp at hs
     ·rename_i hfk
      obtain⟨h1,h2⟩:=adds_pre ins i r syms xs
      obtain⟨h3,h4,h5⟩:=XOk.adds h syms hx hi
      have hil:=(List.getElem?_eq_some_iff.1 hi).1
      have hpre:∀ j,j≤i→(syms.foldl (addS ins i r) xs)[j]?=xs[j]?:=fun j hj=>by
       obtain⟨t,ht⟩:=h1
       rw[← ht,List.getElem?_append_left (by omega)]
      obtain⟨h6,h7⟩:=srch_gone h hL f (i+1) _ xs' h3 (by omega) hs (fun j q hj hq=>by
       rw[hpre j (by omega)]at hq
       by_cases e:j=i
       ·subst e
        rw[hi]at hq
        cases hq
        refine⟨hfk,fun n hn=>?_⟩
        obtain⟨x,hx1,hx2,hx3⟩:=zGl h hn
        have hn2:n < ins.length:=(List.getElem?_eq_some_iff.1 hx1).1
        exact h2 (keyI ins n) (hL.has n x hn2 hx1 hx2 hx3) (n+1) (rd_lead h hfk hn hx1 (zE6 h hx1 hx3).1)
       ·obtain⟨g1,g2⟩:=hg j q (by omega) hq
        exact⟨g1,fun n hn=>(h1.map (·.st)).subset (g2 n hn)⟩)
      exact⟨h1.trans h6,h7⟩
theorem closed_of {ins:List Ins} (h:OkP ins) {syms:List Int} (hL:LeastTo ins ins.length syms) {xs:List RS} (hx:Explored ins xs false):Closed ins (fun st=>st∈xs.map (·.st))∧0∈xs.map (·.st):=by
 obtain⟨h1,h2⟩:=srch_gone h hL (ins.length+1) 0 xs0 xs (xs0_ok h) (by omega) (hx.2 syms hL) (fun j r hj=>absurd hj (Nat.not_lt_zero _))
 refine⟨⟨fun st hst=>?_,fun st hst=>?_,fun st s b hst hl=>?_⟩,(h1.map (·.st)).subset (by simp[xs0])⟩
 ·obtain⟨r,hr,rfl⟩:=List.mem_map.1 hst
  exact hx.1.lt r hr
 ·obtain⟨r,hr,rfl⟩:=List.mem_map.1 hst
  exact(h2 r hr).1
 ·obtain⟨r,hr,rfl⟩:=List.mem_map.1 hst
  obtain⟨n,i,rfl,hn,_,_⟩:=zHv h hl
  exact(h2 r hr).2 n hn
end Go.Ev
namespace Go.Ev
attribute [local go_sem] zAm evAppend evBin evBuild AV.cells splice List.length_append List.map_append
def vI (n:Nat):List Int:=if n < 128 then [(n:Int)] else((128+n % 128:Nat):Int)::vI (n / 128)
termination_by n
decreasing_by omega
def zz (n:Int):Nat:=if n < 0 then(2 * (-(n+1))+1).toNat else(2 * n).toNat
def iE (n:Int):List Int:=vI (zz n)
end Go.Ev
namespace Go.Ev
open Go.Proofs Go.RowKit Go.IntWalk
set_option maxRecDepth 100000
set_option maxHeartbeats 4000000
def aroundI (n m:Int):Int:=(if n < 0 then - (n+1) else n) % m
def In64 (n:Int):Prop:=-9223372036854775808≤n∧n≤9223372036854775807
theorem around_lt {n m:Int} (h:0 < m):0≤aroundI n m∧aroundI n m < m:=by
 unfold aroundI
 have:0≤(if n < 0 then - (n+1) else n):=by split<;>omega
 exact⟨Int.emod_nonneg _ (by omega),Int.emod_lt_of_pos _ h⟩
theorem f12 (n m:Int) (hn:In64 n) (hm:m≠0) (H:List MB):call Tryz.prog pol1 20 [.int .i64 n,.int .i64 m] H=some (I (aroundI n m),H):=by
 obtain⟨h1,h2⟩:=hn
 refine zAS Tryz.func20 rfl rfl rfl rfl rfl rfl (fun _=>rfl) (by simp[AV.plain,AV.plainL,zAE,zAG,zAH,zAI]) (by simp[AV.plain,AV.plainL,zAE,zAG,zAH,zAI]) ?_ H
 simp +contextual (disch:=omega) only[Tryz.f20,dd20,ty3,ty4,↓reduceIte,eq_self,zAY,zBj,zB2,zBk,zGh,zCj,zEH,zEI,zDT,zGi,zEF,zEG,zDR,zDS,zAm,zBP,zBi,zBQ,zEJ,zDU,zCk,zEL,zDW,zCl,guardV,zBA,zBB,zA2,zCd,zCe,footprint,footprint0,fineF,zBY,zBs,zBZ,zCS,zCT,zD8,zD9,zDK,zDB,zCZ,zC9,zDA,zDC,zDF,zCb,zDD,zDE,zCa,zC8,zCY,zC6,zC7,zCX,evOp,evBuiltin,evCall,cfn,yldF,evLen,evAppend,zBh,zBz,List.length_cons,List.length_nil,List.reduceReplicate,Nat.reduceAdd,Nat.reduceSub,List.cons_append,List.nil_append,List.append_nil,if_false,if_true,Bool.false_eq_true,Bool.true_eq_false,reduceCtorEq,Option.map_some,Option.map_none,List.map_cons,List.map_nil,evBinOp,evBin,evUn,zCI,zAz,zAo,zAj,zBd,zBc,zBb,zCf,zB0,List.getElem?_cons_zero,List.getElem?_cons_succ,evResults,evResult,packRes,zBt,zCQ,cellsAt,mkVal,evFieldAddr,evField,evIndexAddr,evPart,evStore,evBuild,evBuildSlice,fillC,fillE,evSlice,evMakeSlice,evConvert,getRow,AV.cells,List.head?_cons,List.drop_zero,List.drop_succ_cons,List.take_zero,List.take_succ_cons,List.drop_nil,List.take_nil,List.all_cons,List.all_nil,AV.ok,Bool.and_self,Bool.and_true,Bool.true_and,and_self,and_true,true_and,Nat.reduceLeDiff,Nat.reduceMul,Nat.reduceLT,Nat.reduceEqDiff,Nat.zero_add,Nat.add_zero,setCells,splice,pairsOk,pairsX,zB4,zB3,zEE,zEK,zDV,FP.apart,zBC,sameAt_refl,Bool.or_true,Bool.true_or,Bool.or_false,srcElems,elemsOf,mutDst,indDst,thwDst,evLenH,evMapUpd,evLookup,getMp,keyOk,resOk,strOf,zBN,zBO,zBe,List.length_map,List.getElem?_map,Int.toNat_natCast,Int.reduceBNe,Int.reduceBEq,decide_true,decide_false,Bool.not_true,Bool.not_false,List.set,zFz,zFy,zFx,zFw,zFv,zCc,look,zBx,zBg,zBw,zDH,ins,zC2,upd,zCR,rem1,dropT,zB1,initT,zEC,zED,zEB,zCi,zB5,act1,zCM,updT,frzB,mu20,List.contains_nil,List.contains_cons,Nat.reduceBEq,Bool.or_self,dlt_t,dlt_f,dle_t,dle_f,dgt_t,dgt_f,dge_t,dge_f,beq_t,beq_f,bne_t,bne_f,lt_T,le_T,zHm,zHn,↓zAD,↓zAC,↓zAB,↓zAA,i64_in,i64_quo,rem_in,Int.reduceToNat]
 unfold aroundI
 refine⟨fun h=>⟨hm,fzEq rfl ?_⟩,fun h=>⟨hm,fzEq rfl ?_⟩⟩
 ·rw[if_pos h];try (congr 2;omega)
 ·rw[if_neg h]
def pickI (l:List Int) (i m:Int):Int:=if i < 0 then 0 else match l[i.toNat]? with
 | some x=>aroundI x m
 | none=>0
theorem zHe {l:List Int} {i m:Int} (h:0 < m):0≤pickI l i m∧pickI l i m < m:=by
 unfold pickI
 split
 ·omega
 ·split
  ·exact around_lt h
  ·omega
theorem f57 (l:List Int) (i m:Int) (hl:∀ x∈l,In64 x) (hm:m≠0) (H:List MB):call Tryz.prog pol1 34 [.sl false (l.map I),.int .i64 i,.int .i64 m] H=some (I (pickI l i m),H):=by
 refine zAS Tryz.func34 rfl rfl rfl rfl rfl rfl (fun _=>rfl) (by simp[AV.plain,AV.plainL,zAE,zAG,zAH,zAI]) (by simp[AV.plain,AV.plainL,zAE,zAG,zAH,zAI]) ?_ H
 by_cases h0:i < 0
 ·have e:pickI l i m=0:=by simp[pickI,h0]
  rw[e]
  simp +contextual (disch:=omega) only[Tryz.f34,dd34,ty0,ty3,ty4,ty22,↓reduceIte,eq_self,zAY,zBj,zB2,zBk,zGh,zCj,zEH,zEI,zDT,zGi,zEF,zEG,zDR,zDS,zAm,zBP,zBi,zBQ,zEJ,zDU,zCk,zEL,zDW,zCl,guardV,zBA,zBB,zA2,zCd,zCe,footprint,footprint0,fineF,zBY,zBs,zBZ,zCS,zCT,zD8,zD9,zDK,zDB,zCZ,zC9,zDA,zDC,zDF,zCb,zDD,zDE,zCa,zC8,zCY,zC6,zC7,zCX,evOp,evBuiltin,evCall,cfn,yldF,evLen,evAppend,zBh,zBz,List.length_cons,List.length_nil,List.reduceReplicate,Nat.reduceAdd,Nat.reduceSub,List.cons_append,List.nil_append,List.append_nil,if_false,if_true,Bool.false_eq_true,Bool.true_eq_false,reduceCtorEq,Option.map_some,Option.map_none,List.map_cons,List.map_nil,evBinOp,evBin,evUn,zCI,zAz,zAo,zAj,zBd,zBc,zBb,zCf,zB0,List.getElem?_cons_zero,List.getElem?_cons_succ,evResults,evResult,packRes,zBt,zCQ,cellsAt,mkVal,evFieldAddr,evField,evIndexAddr,evPart,evStore,evBuild,evBuildSlice,fillC,fillE,evSlice,evMakeSlice,evConvert,getRow,AV.cells,List.head?_cons,List.drop_zero,List.drop_succ_cons,List.take_zero,List.take_succ_cons,List.drop_nil,List.take_nil,List.all_cons,List.all_nil,AV.ok,Bool.and_self,Bool.and_true,Bool.true_and,and_self,and_true,true_and,Nat.reduceLeDiff,Nat.reduceMul,Nat.reduceLT,Nat.reduceEqDiff,Nat.zero_add,Nat.add_zero,setCells,splice,pairsOk,pairsX,zB4,zB3,zEE,zEK,zDV,FP.apart,zBC,sameAt_refl,Bool.or_true,Bool.true_or,Bool.or_false,srcElems,elemsOf,mutDst,indDst,thwDst,evLenH,evMapUpd,evLookup,getMp,keyOk,resOk,strOf,zBN,zBO,zBe,List.length_map,List.getElem?_map,Int.toNat_natCast,Int.reduceBNe,Int.reduceBEq,decide_true,decide_false,Bool.not_true,Bool.not_false,List.set,zFz,zFy,zFx,zFw,zFv,zCc,look,zBx,zBg,zBw,zDH,ins,zC2,upd,zCR,rem1,dropT,zB1,initT,zEC,zED,zEB,zCi,zB5,act1,zCM,updT,frzB,mu34,List.contains_nil,List.contains_cons,Nat.reduceBEq,Bool.or_self,dlt_t,dlt_f,dle_t,dle_f,dgt_t,dgt_f,dge_t,dge_f,beq_t,beq_f,bne_t,bne_f,lt_T,le_T,zHm,zHn,↓zAD,↓zAC,↓zAB,↓zAA,i64_in,i64_quo,rem_in,Int.reduceToNat]
  exact fzEq rfl rfl
 ·obtain⟨k,rfl⟩:∃ k:Nat,i=k:=⟨i.toNat,by omega⟩
  by_cases h1:k < l.length
  ·obtain⟨p,hp⟩:∃ p,l[k]?=some p:=⟨_,List.getElem?_eq_getElem h1⟩
   have e:pickI l k m=aroundI p m:=by simp[pickI,h0,hp]
   rw[e]
   have hf:=f12 p m (hl p (List.mem_of_getElem? hp)) hm
   simp +contextual (disch:=omega) only[Tryz.f34,dd34,ty0,ty3,ty4,ty22,↓reduceIte,eq_self,zAY,zBj,zB2,zBk,zGh,zCj,zEH,zEI,zDT,zGi,zEF,zEG,zDR,zDS,zAm,zBP,zBi,zBQ,zEJ,zDU,zCk,zEL,zDW,zCl,guardV,zBA,zBB,zA2,zCd,zCe,footprint,footprint0,fineF,zBY,zBs,zBZ,zCS,zCT,zD8,zD9,zDK,zDB,zCZ,zC9,zDA,zDC,zDF,zCb,zDD,zDE,zCa,zC8,zCY,zC6,zC7,zCX,evOp,evBuiltin,evCall,cfn,yldF,evLen,evAppend,zBh,zBz,List.length_cons,List.length_nil,List.reduceReplicate,Nat.reduceAdd,Nat.reduceSub,List.cons_append,List.nil_append,List.append_nil,if_false,if_true,Bool.false_eq_true,Bool.true_eq_false,reduceCtorEq,Option.map_some,Option.map_none,List.map_cons,List.map_nil,evBinOp,evBin,evUn,zCI,zAz,zAo,zAj,zBd,zBc,zBb,zCf,zB0,List.getElem?_cons_zero,List.getElem?_cons_succ,evResults,evResult,packRes,zBt,zCQ,cellsAt,mkVal,evFieldAddr,evField,evIndexAddr,evPart,evStore,evBuild,evBuildSlice,fillC,fillE,evSlice,evMakeSlice,evConvert,getRow,AV.cells,List.head?_cons,List.drop_zero,List.drop_succ_cons,List.take_zero,List.take_succ_cons,List.drop_nil,List.take_nil,List.all_cons,List.all_nil,AV.ok,Bool.and_self,Bool.and_true,Bool.true_and,and_self,and_true,true_and,Nat.reduceLeDiff,Nat.reduceMul,Nat.reduceLT,Nat.reduceEqDiff,Nat.zero_add,Nat.add_zero,setCells,splice,pairsOk,pairsX,zB4,zB3,zEE,zEK,zDV,FP.apart,zBC,sameAt_refl,Bool.or_true,Bool.true_or,Bool.or_false,srcElems,elemsOf,mutDst,indDst,thwDst,evLenH,evMapUpd,evLookup,getMp,keyOk,resOk,strOf,zBN,zBO,zBe,List.length_map,List.getElem?_map,Int.toNat_natCast,Int.reduceBNe,Int.reduceBEq,decide_true,decide_false,Bool.not_true,Bool.not_false,List.set,zFz,zFy,zFx,zFw,zFv,zCc,look,zBx,zBg,zBw,zDH,ins,zC2,upd,zCR,rem1,dropT,zB1,initT,zEC,zED,zEB,zCi,zB5,act1,zCM,updT,frzB,mu34,List.contains_nil,List.contains_cons,Nat.reduceBEq,Bool.or_self,dlt_t,dlt_f,dle_t,dle_f,dgt_t,dgt_f,dge_t,dge_f,beq_t,beq_f,bne_t,bne_f,lt_T,le_T,zHm,zHn,↓zAD,↓zAC,↓zAB,↓zAA,i64_in,i64_quo,rem_in,Int.reduceToNat,hp,hf]
   exact fzEq rfl rfl
  ·have e:pickI l k m=0:=by simp[pickI,List.getElem?_eq_none (Nat.le_of_not_lt h1)]
   rw[e]
   simp +contextual (disch:=omega) only[Tryz.f34,dd34,ty0,ty3,ty4,ty22,↓reduceIte,eq_self,zAY,zBj,zB2,zBk,zGh,zCj,zEH,zEI,zDT,zGi,zEF,zEG,zDR,zDS,zAm,zBP,zBi,zBQ,zEJ,zDU,zCk,zEL,zDW,zCl,guardV,zBA,zBB,zA2,zCd,zCe,footprint,footprint0,fineF,zBY,zBs,zBZ,zCS,zCT,zD8,zD9,zDK,zDB,zCZ,zC9,zDA,zDC,zDF,zCb,zDD,zDE,zCa,zC8,zCY,zC6,zC7,zCX,evOp,evBuiltin,evCall,cfn,yldF,evLen,evAppend,zBh,zBz,List.length_cons,List.length_nil,List.reduceReplicate,Nat.reduceAdd,Nat.reduceSub,List.cons_append,List.nil_append,List.append_nil,if_false,if_true,Bool.false_eq_true,Bool.true_eq_false,reduceCtorEq,Option.map_some,Option.map_none,List.map_cons,List.map_nil,evBinOp,evBin,evUn,zCI,zAz,zAo,zAj,zBd,zBc,zBb,zCf,zB0,List.getElem?_cons_zero,List.getElem?_cons_succ,evResults,evResult,packRes,zBt,zCQ,cellsAt,mkVal,evFieldAddr,evField,evIndexAddr,evPart,evStore,evBuild,evBuildSlice,fillC,fillE,evSlice,evMakeSlice,evConvert,getRow,AV.cells,List.head?_cons,List.drop_zero,List.drop_succ_cons,List.take_zero,List.take_succ_cons,List.drop_nil,List.take_nil,List.all_cons,List.all_nil,AV.ok,Bool.and_self,Bool.and_true,Bool.true_and,and_self,and_true,true_and,Nat.reduceLeDiff,Nat.reduceMul,Nat.reduceLT,Nat.reduceEqDiff,Nat.zero_add,Nat.add_zero,setCells,splice,pairsOk,pairsX,zB4,zB3,zEE,zEK,zDV,FP.apart,zBC,sameAt_refl,Bool.or_true,Bool.true_or,Bool.or_false,srcElems,elemsOf,mutDst,indDst,thwDst,evLenH,evMapUpd,evLookup,getMp,keyOk,resOk,strOf,zBN,zBO,zBe,List.length_map,List.getElem?_map,Int.toNat_natCast,Int.reduceBNe,Int.reduceBEq,decide_true,decide_false,Bool.not_true,Bool.not_false,List.set,zFz,zFy,zFx,zFw,zFv,zCc,look,zBx,zBg,zBw,zDH,ins,zC2,upd,zCR,rem1,dropT,zB1,initT,zEC,zED,zEB,zCi,zB5,act1,zCM,updT,frzB,mu34,List.contains_nil,List.contains_cons,Nat.reduceBEq,Bool.or_self,dlt_t,dlt_f,dle_t,dle_f,dgt_t,dgt_f,dge_t,dge_f,beq_t,beq_f,bne_t,bne_f,lt_T,le_T,zHm,zHn,↓zAD,↓zAC,↓zAB,↓zAA,i64_in,i64_quo,rem_in,Int.reduceToNat]
   exact fzEq rfl rfl
end Go.Ev
namespace Go.Ev
attribute [local go_sem] zAm evAppend evBin evBuild AV.cells splice List.length_append List.map_append
section
attribute [local go_sem] tySzE List.head?_drop Nat.mul_one zAO zAT zAN zAP zAQ zAZ
open Go.Proofs Go.RowKit Go.IntWalk
set_option maxRecDepth 100000
set_option maxHeartbeats 8000000
section
variable {α:Type} (A K:List α) (x y v:α)
theorem zBq:(A++x::K)[A.length]?=some x:=by simp
theorem pre_get1:(A++x::y::K)[A.length+1]?=some y:=by
 rw[List.getElem?_append_right (by omega)];simp
theorem pre_set:(A++x::K).set A.length v=A++v::K:=by simp
theorem pre_set1:(A++x::y::K).set (A.length+1) v=A++x::v::K:=by
 rw[List.set_append_right _ _ (by omega)];simp
end
section
variable {k:IntKind} {a b:Int}
end
end
section
open Go.Proofs Go.RowKit Go.IntWalk
set_option maxRecDepth 100000
set_option maxHeartbeats 4000000
def assertI (n:Int) (b a:Option Int):Bool:=
 let w:=fun(o:Option Int)=>match o with
  | some x=>wordI x
  | none=>false
 let e:=fun(o:Option Int)=>match o with
  | some x=>x == 10
  | none=>true
 if n=0 then b.isNone else if n=1 then a.isNone else if n=2 then e b else if n=3 then e a else if n=4 then w b != w a else if n=5 then w b == w a else false
def befS (t:List Int) (k:Nat):Option Int:=if k=0 then none else t[k - 1]?
end
inductive Goal where
 | nil
 | mk (kind:Int) (re:Re) (k fr:Int) (next:Goal)
def goalA:Goal→AV
 | .nil=>.nilp
 | .mk kind re k fr next=>.pt (I kind::(reC re++[I k,I fr,goalA next]))
abbrev goalC (kind:Int) (re:Re) (k fr:Int) (next:Goal):List AV:=I kind::(reC re++[I k,I fr,goalA next])
theorem zBI:∀(a b:List AV),AV.plainL (a++b)=(AV.plainL a && AV.plainL b)
 | [],b=>by simp[AV.plainL]
 | x::a,b=>by simp[AV.plainL,zBI a b,Bool.and_assoc]
theorem zCp:∀ g:Goal,AV.plain (goalA g)=true
 | .nil=>rfl
 | .mk kind re k fr next=>by
   have h1:=zCp next
   have h2:=zAc re
   simp[goalA,AV.plain,AV.plainL,zBI,h1,h2]
theorem zBu (kind:Int) (re:Re) (k fr:Int) (next:Goal):AV.plainL (goalC kind re k fr next)=true:=by
 have h1:=zCp next
 have h2:=zAc re
 simp[AV.plain,AV.plainL,zBI,h1,h2]
abbrev Caps:=List (Int×Int)
abbrev capA (c:Caps):AV:=.sl false (c.map spanAV)
structure SS where
 steps:Int
 empty:Bool
 ends:List Int
 caps:List Caps
def withI (c:Caps) (n fr to:Int):Caps:=if 1≤n∧n≤c.length then c.set (n - 1).toNat (fr,to) else c
def Re.op:Re→Int | .mk op _ _ _ _ _ _ _=>op
def Re.set:Re→List (Int×Int) | .mk _ set _ _ _ _ _ _=>set
def Re.kids:Re→List Re | .mk _ _ kids _ _ _ _ _=>kids
def Re.mn:Re→Int | .mk _ _ _ mn _ _ _ _=>mn
def Re.mx:Re→Int | .mk _ _ _ _ mx _ _ _=>mx
def Re.md:Re→Int | .mk _ _ _ _ _ md _ _=>md
def Re.n:Re→Int | .mk _ _ _ _ _ _ n _=>n
def stepSz (fuel:Int) (s:SS):SS:=⟨s.steps+1,s.empty || decide (fuel < s.steps+1),s.ends,s.caps⟩
abbrev RunT:=Goal→Int→Caps→SS→Option (Bool×SS)
def orR (a:Option (Bool×SS)) (f:SS→Option (Bool×SS)):Option (Bool×SS):=
 match a with
 | none=>none
 | some (true,s)=>some (true,s)
 | some (false,s)=>f s
def repR (fuel:Int) (R:RunT) (re:Re) (k:Int) (next:Goal) (i:Int) (c:Caps) (s:SS):Option (Bool×SS):=
 let s1:=stepSz fuel s
 if s1.empty=true then some (true,s1)
 else
  match re.kids with
  | []=>none
  | kid::_=>
    let once:=Goal.mk 0 kid 0 0 (.mk 2 re k i next)
    let more:Bool:=decide (re.mx = -1) || decide (k < re.mx)
    if k < re.mn then R once i c s1
    else if re.md=1 then orR (R next i c s1) fun s2=>if more then R once i c s2 else some (false,s2)
    else orR (if more then R once i c s1 else some (false,s1)) fun s2=>R next i c s2
def catG (next:Goal):List Re→Goal
 | []=>next
 | k::ks=>.mk 0 k 0 0 (catG next ks)
def altR (R:RunT) (next:Goal) (i:Int) (c:Caps):List Re→SS→Option (Bool×SS)
 | [],s=>some (false,s)
 | k::ks,s=>orR (R (.mk 0 k 0 0 next) i c s) (altR R next i c ks)
def nodeR (t:List Int) (fuel:Int) (R:RunT) (re:Re) (next:Goal) (i:Int) (c:Caps) (s:SS):Option (Bool×SS):=
 if re.op=4 then repR fuel R re 0 next i c s
 else
  let s1:=stepSz fuel s
  if s1.empty=true then some (true,s1)
  else if re.op=1 then
   match t[i.toNat]? with
   | some x=>if hasSpan re.set x=true then R next (i+1) c s1 else some (false,s1)
   | none=>some (false,s1)
  else if re.op=2 then R (catG next re.kids) i c s1
  else if re.op=3 then altR R next i c re.kids s1
  else if re.op=5 then
   match re.kids with
   | []=>none
   | kid::_=>R (.mk 0 kid 0 0 (.mk 3 re 0 i next)) i c s1
  else if re.op=11 then(if assertI re.n (befS t i.toNat) t[i.toNat]?=true then R next i c s1 else some (false,s1))
  else R next i c s1
def runG (t:List Int) (fuel:Int):Nat→RunT
 | 0,_,_,_,_=>none
 | _+1,.nil,i,c,s=>some (false,⟨s.steps,s.empty,s.ends++[i],s.caps++[c]⟩)
 | d+1,.mk kind re k fr next,i,c,s=>
   if kind=1 then repR fuel (runG t fuel d) re k next i c s
   else if kind=2 then(if re.mn≤k∧i=fr then some (false,s) else runG t fuel d (.mk 1 re (k+1) 0 next) i c s)
   else if kind=3 then runG t fuel d next i (withI c re.n fr i) s
   else nodeR t fuel (runG t fuel d) re next i c s
end Go.Ev
namespace Go.Ev
attribute [local go_sem] zAm evAppend evBin evBuild AV.cells splice List.length_append List.map_append
section
attribute [local go_sem] tySzE List.head?_drop Nat.mul_one zAO zAT zAN zAP zAQ zAZ
open Go.Proofs Go.RowKit Go.IntWalk
set_option maxRecDepth 100000
set_option maxHeartbeats 8000000
section
variable {α:Type} (A K:List α) (x y z v:α)
theorem pre_get2:(A++x::y::z::K)[A.length+2]?=some z:=by
 rw[List.getElem?_append_right (by omega)];simp
theorem pre_set2:(A++x::y::z::K).set (A.length+2) v=A++x::y::v::K:=by
 rw[List.set_append_right _ _ (by omega)];simp
end
abbrev sB (m:Nat) (t:List Int) (fuel steps:Int) (empty:Bool) (e:Nat):MB:=.row 7 [.agg [.sl false (t.map I),I (-1),I fuel,I steps,.bool empty,.ms (m+1) 1 e 0 e,.ms (m+2) 1 e 0 e]] 0
abbrev srH (A:List MB) (t:List Int) (fuel:Int) (s:SS) (e:Nat) (K:List MB):List MB:=
 A++sB A.length t fuel s.steps s.empty e::.row 1 (s.ends.map I) 0::.row 1 (s.caps.map capA) 0::K
theorem zFH (l:List Caps):AV.plainL (l.map capA)=true:=by
 induction l with
 | nil=>rfl
 | cons a l ih=>simp[AV.plainL,AV.plain,zAG,ih]
theorem zGG (n:Nat) (x y z x' y' z':MB) (K L:List MB) (h1:MB.under n x' = true) (h2:MB.under n y' = true) (h3:MB.under n z' = true):∀ A:List MB,keptOk n (A++x::y::z::K) (A++x'::y'::z'::(K++L))=true
 | []=>by
   simp only[List.nil_append,keptOk,h1,h2,h3,Bool.or_true,Bool.true_and]
   exact zDG n L K
 | a::A=>by simp[keptOk,MB.beq_refl,zGG n x y z x' y' z' K L h1 h2 h3 A]
theorem take_pre3 {α:Type} (x y z x' y' z':α) (K L:List α):∀ A:List α,(A++x'::y'::z'::(K++L)).take (A++x::y::z::K).length=A++x'::y'::z'::K
 | []=>by simp
 | a::A=>by
   simp only[List.cons_append,List.length_cons,List.take_succ_cons,take_pre3 x y z x' y' z' K L A]
theorem ret_sr {f:Nat} (hk:pol1.keep f=false) (ho:pol1.own f=false) (b:Bool) (A K L:List MB) (t:List Int) (fuel:Int) (s s':SS) (e e':Nat) :
  retPol pol1 f (srH A t fuel s e K) (.bool b) (srH A t fuel s' e' (K++L))=some (.bool b,srH A t fuel s' e' K):=
 zA1 hk ho rfl (zGG _ _ _ _ _ _ _ _ _ (by simp[MB.under,AV.underL,AV.under,zAF,zAE]<;>omega) (by simp[MB.under,zAF,zAE]) (by simp[MB.under,zAF,zFH]) A) (take_pre3 _ _ _ _ _ _ _ _ _)
theorem ret_sr0 {f:Nat} (hk:pol1.keep f=false) (ho:pol1.own f=false) (b:Bool) (A K:List MB) (t:List Int) (fuel:Int) (s s':SS) (e e':Nat) :
  retPol pol1 f (srH A t fuel s e K) (.bool b) (srH A t fuel s' e' K)=some (.bool b,srH A t fuel s' e' K):=by
 have:=ret_sr hk ho b A K [] t fuel s s' e e'
 rwa [List.append_nil]at this
theorem f161 (A K:List MB) (t:List Int) (fuel:Int) (s:SS) (e:Nat) (hs:0≤s.steps∧s.steps≤1000000000000) :
  call Tryz.prog pol1 177 [.rf A.length 1 0 0] (srH A t fuel s e K)=some (.bool (!(stepSz fuel s).empty),srH A t fuel (stepSz fuel s) e K):=by
 have fr:frzArgs pol1 177 0 [.rf A.length 1 0 0] (srH A t fuel s e K)=some ([.rf A.length 1 0 0],srH A t fuel s e K):=zAR _ _ _ rfl
 refine zAV (pol:=pol1) Tryz.func177 rfl rfl rfl rfl fr ?_
 have hw:IntKind.i64.wrap (s.steps+1)=s.steps+1:=by rw[i64_in]<;>omega
 have ret:=fun b s'=>ret_sr0 (f:=177) rfl rfl b A K t fuel s s' e e
 obtain⟨steps,empty,ends,caps⟩:=s
 simp only at hs hw
 by_cases h:fuel < steps+1
 ·have e1:stepSz fuel ⟨steps,empty,ends,caps⟩=⟨steps+1,true,ends,caps⟩:=by simp[stepSz,h]
  rw[e1]
  simp +contextual (disch:=omega) only[Tryz.f177,dd177,go_sem,simprocAttr,mu177,↓zAD,↓zAC,↓zAB,↓zAA,zBq,pre_set,hw]
  repeat' (first|intro _|apply And.intro|(unfold dOk;kernel_rfl)|exact St.beq_refl _|(show altO _ _ _ _=true;kernel_rfl)|(show (_ || _)=true;kernel_rfl)|(show (_ && _)=true;kernel_rfl))
  exact ret false ⟨steps+1,true,ends,caps⟩
 ·have e1:stepSz fuel ⟨steps,empty,ends,caps⟩=⟨steps+1,empty,ends,caps⟩:=by simp[stepSz,h]
  rw[e1]
  simp +contextual (disch:=omega) only[Tryz.f177,dd177,go_sem,simprocAttr,mu177,↓zAD,↓zAC,↓zAB,↓zAA,zBq,pre_set,hw]
  repeat' (first|intro _|apply And.intro|(unfold dOk;kernel_rfl)|exact St.beq_refl _|(show altO _ _ _ _=true;kernel_rfl)|(show (_ || _)=true;kernel_rfl)|(show (_ && _)=true;kernel_rfl))
  exact ret (!empty) ⟨steps+1,empty,ends,caps⟩
theorem f162 (l:List (Int×Int)) (x:Int) (hl:l.length≤1000000) (H:List MB):call Tryz.prog pol1 178 [.sl false (l.map spanAV),I x] H=some (.bool (hasSpan l x),H):=by
 refine zAS Tryz.func178 rfl rfl rfl rfl rfl rfl (fun _=>rfl) (by simp[AV.plain,AV.plainL,zAG]) rfl ?_ H
 simp +contextual (disch:=omega) only[Tryz.f178,dd178,go_sem,simprocAttr,mu178,↓zAD,↓zAC,↓zAB,↓zAA]
 refine zAe (M:=(mskOf (pol1.mask 178) (pol1.gc 178) (pol1.acts 178) 0 2)) rfl l.length (fun i=>(⟨28,[(5,I i),(1,I x),(0,.sl false (l.map spanAV))],[]⟩:St)) (fun i=>∀ k p,k < i→l[k]?=some p→¬ (p.1≤x∧x≤p.2)) ?_ ?_ (fun k p h=>by omega) _ (by first|rfl|(refine zA0 rfl (by rfl) (by rfl) (by rfl) ?_ ?_<;>simp[AV.underL,AV.under,MB.under,zAF,zAJ,zAE,zAG,zAH,zAI,-List.map_take]))
 ·intro i hi hg
  obtain⟨p,hp⟩:∃ p,l[i]?=some p:=⟨_,List.getElem?_eq_getElem hi⟩
  by_cases hin:p.1≤x∧x≤p.2
  ·rw[zG7 hp hin]
   simp +contextual (disch:=omega) only[Tryz.f178,dd178,go_sem,simprocAttr,mu178,↓zAD,↓zAC,↓zAB,↓zAA,hp,spanAV]
   exact fzEq rfl rfl
  ·have ext:∀ k q,k < i+1→l[k]?=some q→¬ (q.1≤x∧x≤q.2):=fun k q hk hq=>by
    rcases Nat.lt_or_ge k i with h|h
    ·exact hg k q h hq
    ·obtain rfl:k=i:=by omega
     rw[hp]at hq
     obtain rfl:=Option.some.inj hq
     exact hin
   by_cases h1:p.1≤x
   ·simp +contextual (disch:=omega) only[Tryz.f178,dd178,go_sem,simprocAttr,mu178,↓zAD,↓zAC,↓zAB,↓zAA,hp,spanAV]
    exact⟨ext,(by first|rfl|(refine zA0 rfl (by rfl) (by rfl) (by rfl) ?_ ?_<;>simp[AV.underL,AV.under,MB.under,zAF,zAJ,zAE,zAG,zAH,zAI,-List.map_take]))⟩
   ·simp +contextual (disch:=omega) only[Tryz.f178,dd178,go_sem,simprocAttr,mu178,↓zAD,↓zAC,↓zAB,↓zAA,hp,spanAV]
    exact⟨ext,(by first|rfl|(refine zA0 rfl (by rfl) (by rfl) (by rfl) ?_ ?_<;>simp[AV.underL,AV.under,MB.under,zAF,zAJ,zAE,zAG,zAH,zAI,-List.map_take]))⟩
 ·intro hg
  rw[zG6 hg]
  simp +contextual (disch:=omega) only[Tryz.f178,dd178,go_sem,simprocAttr,mu178,↓zAD,↓zAC,↓zAB,↓zAA]
  exact fzEq rfl rfl
theorem f167 (x:Int) (H:List MB):call Tryz.prog pol1 193 [I x] H=some (.bool (wordI x),H):=by
 refine zAS Tryz.func193 rfl rfl rfl rfl rfl rfl (fun _=>rfl) rfl rfl ?_ H
 simp +contextual (disch:=omega) only[Tryz.f193,dd193,go_sem,simprocAttr,mu193,↓zAD,↓zAC,↓zAB,↓zAA]
 repeat' (first|intro _|apply And.intro|refine fzEq rfl (congrArg AV.bool ?_))
 all_goals (rw[Bool.eq_iff_iff];simp[wordI]<;>omega)
theorem f165 (n:Int) (t:List Int) (k:Nat) (hn:0≤n∧n≤5) (hk:k≤t.length) (ht:t.length≤1000000000) (H:List MB):call Tryz.prog pol1 181 [I n,.sl false (t.map I),I k] H=some (.bool (assertI n (befS t k) t[k]?),H):=by
 refine zAS Tryz.func181 rfl rfl rfl rfl rfl rfl (fun _=>rfl) (by simp[AV.plain,AV.plainL,zAE]) rfl ?_ H
 rcases k with _|k
 ·rcases t with _|⟨x,t⟩
  ·simp +contextual (disch:=omega) only[Tryz.f181,dd181,go_sem,simprocAttr,mu181,↓zAD,↓zAC,↓zAB,↓zAA,f167]
   repeat' (first|intro _|apply And.intro|(unfold dOk;kernel_rfl)|(show (_ && _)=true;kernel_rfl)|(show (_ || _)=true;kernel_rfl)|refine fzEq rfl (congrArg AV.bool ?_))
   all_goals (simp_all [assertI,befS];try (intros;omega))
  ·simp +contextual (disch:=omega) only[Tryz.f181,dd181,go_sem,simprocAttr,mu181,↓zAD,↓zAC,↓zAB,↓zAA,f167]
   repeat' (first|intro _|apply And.intro|(unfold dOk;kernel_rfl)|(show (_ && _)=true;kernel_rfl)|(show (_ || _)=true;kernel_rfl)|refine fzEq rfl (congrArg AV.bool ?_))
   all_goals (simp_all [assertI,befS];try (intros;omega))
 ·obtain⟨x,hx⟩:∃ x,t[k]?=some x:=⟨_,List.getElem?_eq_getElem (by omega)⟩
  by_cases hl:k+1 < t.length
  ·obtain⟨y,hy⟩:∃ y,t[k+1]?=some y:=⟨_,List.getElem?_eq_getElem hl⟩
   simp +contextual (disch:=omega) only[Tryz.f181,dd181,go_sem,simprocAttr,mu181,↓zAD,↓zAC,↓zAB,↓zAA,f167,hx,hy]
   repeat' (first|intro _|apply And.intro|(unfold dOk;kernel_rfl)|(show (_ && _)=true;kernel_rfl)|(show (_ || _)=true;kernel_rfl)|refine fzEq rfl (congrArg AV.bool ?_))
   all_goals (simp_all [assertI,befS];try (intros;omega))
   all_goals (cases wordI x<;>cases wordI y<;>rfl)
  ·have hy:t[k+1]?=none:=List.getElem?_eq_none (by omega)
   simp +contextual (disch:=omega) only[Tryz.f181,dd181,go_sem,simprocAttr,mu181,↓zAD,↓zAC,↓zAB,↓zAA,f167,hx]
   repeat' (first|intro _|apply And.intro|(unfold dOk;kernel_rfl)|(show (_ && _)=true;kernel_rfl)|(show (_ || _)=true;kernel_rfl)|refine fzEq rfl (congrArg AV.bool ?_))
   all_goals (simp_all [assertI,befS];try (intros;omega))
theorem f153 (c:Caps) (n fr to:Int) (hc:c.length≤1000) (H:List MB):call Tryz.prog pol1 144 [capA c,I n,I fr,I to] H=some (capA (withI c n fr to),H):=by
 refine zAS Tryz.func144 rfl rfl rfl rfl rfl rfl (fun _=>rfl) (by simp[AV.plain,AV.plainL,zAG]) (by simp[AV.plain,zAG]) ?_ H
 unfold withI
 rcases c with _|⟨x,c⟩
 ·rw[if_neg (by simp;omega)]
  by_cases h1:1≤n
  ·simp +contextual (disch:=omega) only[Tryz.f144,dd144,go_sem,simprocAttr,mu144,↓zAD,↓zAC,↓zAB,↓zAA]
   exact⟨_,rfl⟩
  ·simp +contextual (disch:=omega) only[Tryz.f144,dd144,go_sem,simprocAttr,mu144,↓zAD,↓zAC,↓zAB,↓zAA]
   exact⟨_,rfl⟩
 ·simp only[List.length_cons]at hc
  have hroom:=zAZ (n:=c.length+1) (b:=16) (by omega) (by omega)
  have hal:((c.map spanAV).all fun y=>decide ((match y with | .agg cs=>cs|x=>[x]).length=2) && (match y with | .agg cs=>cs|x=>[x]).all AV.ok)=true:=by
   rw[List.all_eq_true];intro y hy;obtain⟨p,_,rfl⟩:=List.mem_map.1 hy;rfl
  have hz:∀ d:Caps,d.length=c.length+1→∃ H',fz (.ms 0 2 (c.length+1) 0 (c.length+1)) [.row 2 (d.map spanAV) 0]=some (capA d,H'):=fun d hd=>
   ⟨_,zGL rfl (by rw[List.length_map];exact hd) (zAG d)⟩
  by_cases h1:1≤n
  ·by_cases h2:n≤((x::c).length:Int)
   ·rw[if_pos ⟨h1,h2⟩]
    obtain⟨j,rfl⟩:∃ j:Nat,n=(j:Int)+1:=⟨(n - 1).toNat,by omega⟩
    simp only[List.length_cons]at h2
    obtain⟨y,hy⟩:∃ y,(x::c)[j]?=some y:=⟨_,List.getElem?_eq_getElem (by simp;omega)⟩
    have hy2:(spanAV x::List.map spanAV c)[j]?=some (spanAV y):=by
     have:((x::c).map spanAV)[j]?=some (spanAV y):=by rw[List.getElem?_map,hy];rfl
     exact this
    have hw:IntKind.i64.wrap ((j:Int)+1 - 1)=(j:Int):=by rw[i64_in]<;>omega
    have hj:((j:Int)+1 - 1)=(j:Int):=by omega
    have hset:(spanAV x::List.map spanAV c).set j (.agg [I fr,I to])=((x::c).set j (fr,to)).map spanAV:=by rw[List.map_set];rfl
    simp +contextual (disch:=omega) only[Tryz.f144,dd144,go_sem,simprocAttr,mu144,↓zAD,↓zAC,↓zAB,↓zAA,hroom,hw,hy2,hj,hset]
    exact⟨hal,hz _ (by simp)⟩
   ·rw[if_neg (by omega)]
    simp only[List.length_cons]at h2
    simp +contextual (disch:=omega) only[Tryz.f144,dd144,go_sem,simprocAttr,mu144,↓zAD,↓zAC,↓zAB,↓zAA,hroom]
    exact⟨hal,hz (x::c) rfl⟩
  ·rw[if_neg (by omega)]
   simp +contextual (disch:=omega) only[Tryz.f144,dd144,go_sem,simprocAttr,mu144,↓zAD,↓zAC,↓zAB,↓zAA,hroom]
   exact⟨hal,hz (x::c) rfl⟩
section
variable {cs xs:List AV} {k:IntKind} {n:Int} {b:Bool} {x a c d e f:Nat}
theorem zBL:(AV.agg cs).cells=cs:=rfl
theorem zBK:(AV.int k n).cells=[.int k n]:=rfl
theorem zAs:(AV.bool b).cells=[.bool b]:=rfl
theorem zCF:(AV.sl b xs).cells=[.sl b xs]:=rfl
theorem zCG:(AV.rf a c d e).cells=[.rf a c d e]:=rfl
theorem zCH:(AV.pt xs).cells=[.pt xs]:=rfl
theorem zAq:AV.nilp.cells=[.nilp]:=rfl
end
theorem zAr (g:Goal):(goalA g).cells=[goalA g]:=by cases g<;>rfl
theorem zAW (g:Goal):AV.ok (goalA g)=true:=by cases g<;>rfl
theorem zBo (r:Re) (n:Nat) (l:List AV):List.take (n+8) (reC r++l)=reC r++List.take n l:=by
 rw[List.take_append,zAM,List.take_of_length_le (by rw[zAM];omega)];congr 2
theorem zBp (r:Re) (n:Nat) (l:List AV):List.drop (n+8) (reC r++l)=List.drop n l:=by
 rw[List.drop_append,zAM,List.drop_of_length_le (by rw[zAM];omega),List.nil_append];congr 1
end
section
attribute [local go_sem] tySzE List.head?_drop Nat.mul_one zAO zAT zAN zAP zAQ zAZ
open Go.Proofs Go.RowKit Go.IntWalk
set_option maxRecDepth 100000
set_option maxHeartbeats 4000000
theorem f102 (r:Bool) (H:List MB):call Tryz.prog pol1 84 [.bool r] H=some (I (if r then 1114111 else 255),H):=by
 cases r
 ·refine zAS Tryz.func84 rfl rfl rfl rfl rfl rfl (fun _=>rfl) (by simp[AV.plain,AV.plainL,zAE,zAG,zAH,zAI]) (by simp[AV.plain,AV.plainL,zAE,zAG,zAH,zAI]) ?_ H
  simp +contextual (disch:=omega) only[Tryz.f84,dd84,go_sem,simprocAttr,mu84,↓zAD,↓zAC,↓zAB,↓zAA]
  exact fzEq rfl rfl
 ·refine zAS Tryz.func84 rfl rfl rfl rfl rfl rfl (fun _=>rfl) (by simp[AV.plain,AV.plainL,zAE,zAG,zAH,zAI]) (by simp[AV.plain,AV.plainL,zAE,zAG,zAH,zAI]) ?_ H
  simp +contextual (disch:=omega) only[Tryz.f84,dd84,go_sem,simprocAttr,mu84,↓zAD,↓zAC,↓zAB,↓zAA]
  exact fzEq rfl rfl
theorem badS_lt {l:List (Int×Int)} {top:Int} {i:Nat} {p:Int×Int} (hp:l[i]?=some p) (h:p.1 < 0∨p.2 < p.1∨top < p.2):badS l top i=true:=by
 simp only[badS,hp]
 rcases h with h|h|h<;>simp[h]
theorem badS_zero {l:List (Int×Int)} {top:Int} {p:Int×Int} (hp:l[0]?=some p) (h:¬ (p.1 < 0∨p.2 < p.1∨top < p.2)):badS l top 0=false:=by
 have h1:¬ p.1 < 0:=fun e=>h (.inl e)
 have h2:¬ p.2 < p.1:=fun e=>h (.inr (.inl e))
 have h3:¬ top < p.2:=fun e=>h (.inr (.inr e))
 simp[badS,hp,h1,h2,h3]
theorem badS_succ {l:List (Int×Int)} {top:Int} {i:Nat} {p q:Int×Int} (hp:l[i+1]?=some p) (hq:l[i]?=some q) (h:¬ (p.1 < 0∨p.2 < p.1∨top < p.2)):badS l top (i+1)=decide (p.1 < q.2+2):=by
 have h1:¬ p.1 < 0:=fun e=>h (.inl e)
 have h2:¬ p.2 < p.1:=fun e=>h (.inr (.inl e))
 have h3:¬ top < p.2:=fun e=>h (.inr (.inr e))
 simp[badS,hp,hq,h1,h2,h3]
theorem badS_hi {l:List (Int×Int)} {top:Int} {i:Nat} {q:Int×Int} (hq:l[i]?=some q) (h:badS l top i=false):0≤q.1∧q.1≤q.2∧q.2≤top:=by
 simp only[badS,hq,Bool.or_eq_false_iff,decide_eq_false_iff_not]at h
 omega
theorem f131 (l:List (Int×Int)) (top:Int) (ht:top≤1114111) (hl:l.length≤1000000) (H:List MB):call Tryz.prog pol1 112 [.sl false (l.map spanAV),I top] H=some (.bool (spansG l top),H):=by
 refine zAS Tryz.func112 rfl rfl rfl rfl rfl rfl (fun _=>rfl) (by simp[AV.plain,AV.plainL,zAG]) rfl ?_ H
 by_cases h64:64 < l.length
 ·rw[zFr h64]
  simp +contextual (disch:=omega) only[Tryz.f112,dd112,go_sem,simprocAttr,mu112,↓zAD,↓zAC,↓zAB,↓zAA]
  exact fzEq rfl rfl
 ·simp +contextual (disch:=omega) only[Tryz.f112,dd112,go_sem,simprocAttr,mu112,↓zAD,↓zAC,↓zAB,↓zAA]
  refine zAe (M:=(mskOf (pol1.mask 112) (pol1.gc 112) (pol1.acts 112) 0 4)) rfl l.length (fun i=>(⟨50,[(12,I i),(11,I l.length),(10,.sl false (l.map spanAV)),(1,I top),(0,.sl false (l.map spanAV))],[]⟩:St)) (fun i=>∀ k,k < i→badS l top k=false) ?_ ?_ (fun k h=>by omega) _ (by first|rfl|(refine zAX (n:=0) (m:=⟨some [12,11,10,1,0],some 0,[]⟩) rfl rfl ?_ ?_ ?_<;>first|rfl|(simp[keepT,AV.underL,AV.under,MB.under,zAF,zAJ,zAK,zAE,zAG,zAH,zAI,-List.map_take,-List.map_replicate,-List.map_set];done)|(simp[keepT,AV.underL,AV.under,MB.under,zAF,zAJ,zAK,zAE,zAG,zAH,zAI,-List.map_take,-List.map_replicate,-List.map_set];omega)))
  ·intro i hlt hg
   obtain⟨p,hp⟩:∃ p,l[i]?=some p:=⟨_,List.getElem?_eq_getElem hlt⟩
   have ext:badS l top i=false→∀ k,k < i+1→badS l top k=false:=fun h k hk=>by
    rcases Nat.lt_or_ge k i with h1|h1
    ·exact hg k h1
    ·obtain rfl:k=i:=by omega
     exact h
   by_cases hgd:p.1 < 0∨p.2 < p.1∨top < p.2
   ·rw[zEM hlt (badS_lt hp hgd)]
    have hgd':p.1 < 0∨(¬ p.1 < 0∧p.2 < p.1)∨(¬ p.1 < 0∧¬ p.2 < p.1∧top < p.2):=by omega
    rcases hgd' with h|⟨h,h'⟩|⟨h,h',h''⟩
    all_goals (
     simp +contextual (disch:=omega) only[Tryz.f112,dd112,go_sem,simprocAttr,mu112,↓zAD,↓zAC,↓zAB,↓zAA,hp,spanAV]
     repeat' (first|intro _|apply And.intro|(unfold dOk;kernel_rfl)|exact St.beq_refl _|(show altO _ _ _ _=true;kernel_rfl)|(show (_ || _)=true;kernel_rfl)|(show (_ && _)=true;kernel_rfl))
     all_goals exact fzEq rfl rfl)
   ·rcases i with _|i
    ·simp +contextual (disch:=omega) only[Tryz.f112,dd112,go_sem,simprocAttr,mu112,↓zAD,↓zAC,↓zAB,↓zAA,hp,spanAV]
     repeat' (first|intro _|apply And.intro|(unfold dOk;kernel_rfl)|exact St.beq_refl _|(show altO _ _ _ _=true;kernel_rfl)|(show (_ || _)=true;kernel_rfl)|(show (_ && _)=true;kernel_rfl))
     ·exact ext (badS_zero hp hgd) _ ‹_›
     ·exact(by first|rfl|(refine zAX (n:=0) (m:=⟨some [12,11,10,1,0],some 0,[]⟩) rfl rfl ?_ ?_ ?_<;>first|rfl|(simp[keepT,AV.underL,AV.under,MB.under,zAF,zAJ,zAK,zAE,zAG,zAH,zAI,-List.map_take,-List.map_replicate,-List.map_set];done)|(simp[keepT,AV.underL,AV.under,MB.under,zAF,zAJ,zAK,zAE,zAG,zAH,zAI,-List.map_take,-List.map_replicate,-List.map_set];omega)))
    ·obtain⟨q,hq⟩:∃ q,l[i]?=some q:=⟨_,List.getElem?_eq_getElem (by omega)⟩
     have hqb:=badS_hi hq (hg i (by omega))
     have hb:=badS_succ hp hq hgd
     by_cases h2:p.1 < q.2+2
     ·rw[zEM hlt (by rw[hb];simp[h2])]
      simp +contextual (disch:=omega) only[Tryz.f112,dd112,go_sem,simprocAttr,mu112,↓zAD,↓zAC,↓zAB,↓zAA,hp,hq,spanAV]
      repeat' (first|intro _|apply And.intro|(unfold dOk;kernel_rfl)|exact St.beq_refl _|(show altO _ _ _ _=true;kernel_rfl)|(show (_ || _)=true;kernel_rfl)|(show (_ && _)=true;kernel_rfl))
      all_goals exact fzEq rfl rfl
     ·simp +contextual (disch:=omega) only[Tryz.f112,dd112,go_sem,simprocAttr,mu112,↓zAD,↓zAC,↓zAB,↓zAA,hp,hq,spanAV]
      repeat' (first|intro _|apply And.intro|(unfold dOk;kernel_rfl)|exact St.beq_refl _|(show altO _ _ _ _=true;kernel_rfl)|(show (_ || _)=true;kernel_rfl)|(show (_ && _)=true;kernel_rfl))
      ·exact ext (by rw[hb];simp[h2]) _ ‹_›
      ·exact(by first|rfl|(refine zAX (n:=0) (m:=⟨some [12,11,10,1,0],some 0,[]⟩) rfl rfl ?_ ?_ ?_<;>first|rfl|(simp[keepT,AV.underL,AV.under,MB.under,zAF,zAJ,zAK,zAE,zAG,zAH,zAI,-List.map_take,-List.map_replicate,-List.map_set];done)|(simp[keepT,AV.underL,AV.under,MB.under,zAF,zAJ,zAK,zAE,zAG,zAH,zAI,-List.map_take,-List.map_replicate,-List.map_set];omega)))
  ·intro hg
   rw[zFs (by omega) hg]
   simp +contextual (disch:=omega) only[Tryz.f112,dd112,go_sem,simprocAttr,mu112,↓zAD,↓zAC,↓zAB,↓zAA]
   exact fzEq rfl rfl
end
section
attribute [local go_sem] tySzE List.head?_drop Nat.mul_one zAO zAT zAN zAP zAQ zAZ
open Go.Proofs Go.RowKit Go.IntWalk
set_option maxRecDepth 100000
set_option maxHeartbeats 8000000
abbrev nodeL (op:Int) (set:List (Int×Int)) (kids:List Re) (mn mx md n:Int) (neg:Bool):List AV:=[I op,.sl false (set.map spanAV),.sl false (kids.map reAV),I mn,I mx,I md,I n,.bool neg]
theorem f132 (op:Int) (set:List (Int×Int)) (kids:List Re) (mn mx md n:Int) (neg:Bool) (H:List MB):call Tryz.prog pol1 113 [.pt (nodeL op set kids mn mx md n neg)] H=some (.bool (repG mn mx md),H):=by
 refine zAS Tryz.func113 rfl rfl rfl rfl rfl rfl (fun _=>rfl) (by simp[AV.plain,AV.plainL,zAG,zAL]) rfl ?_ H
 by_cases h:mn < 0∨32 < mn∨md < 0∨2 < md
 ·have e:repG mn mx md=false:=by
   simp only[repG,Bool.and_eq_false_iff,decide_eq_false_iff_not]
   omega
  rw[e]
  have h':mn < 0∨(¬ mn < 0∧32 < mn)∨(¬ mn < 0∧¬ 32 < mn∧md < 0)∨(¬ mn < 0∧¬ 32 < mn∧¬ md < 0∧2 < md):=by omega
  rcases h' with h|⟨h,h1⟩|⟨h,h1,h2⟩|⟨h,h1,h2,h3⟩
  all_goals (
   simp +contextual (disch:=omega) only[Tryz.f113,dd113,go_sem,simprocAttr,mu113,↓zAD,↓zAC,↓zAB,↓zAA]
   repeat' (first|intro _|apply And.intro|(unfold dOk;kernel_rfl)|exact St.beq_refl _|(show altO _ _ _ _=true;kernel_rfl)|(show (_ || _)=true;kernel_rfl)|(show (_ && _)=true;kernel_rfl))
   all_goals exact fzEq rfl rfl)
 ·have e:repG mn mx md=(mx == -1 || (decide (1≤mx) && decide (mx≤32) && decide (mn≤mx))):=by
   have h1:0≤mn:=by omega
   have h2:mn≤32:=by omega
   have h3:0≤md:=by omega
   have h4:md≤2:=by omega
   simp[repG,h1,h2,h3,h4]
  rw[e]
  simp +contextual (disch:=omega) only[Tryz.f113,dd113,go_sem,simprocAttr,mu113,↓zAD,↓zAC,↓zAB,↓zAA]
  repeat' (first|intro _|apply And.intro|(unfold dOk;kernel_rfl)|exact St.beq_refl _|(show altO _ _ _ _=true;kernel_rfl)|(show (_ || _)=true;kernel_rfl)|(show (_ && _)=true;kernel_rfl))
  all_goals (first|exact fzEq rfl rfl|refine fzEq rfl (congrArg AV.bool ?_))
  all_goals (rw[Bool.eq_iff_iff];simp<;>omega)
theorem f104z (caps top:Int) (ht:top≤1114111) (op:Int) (set:List (Int×Int)) (kids:List Re) (mn mx md n:Int) (neg:Bool) (hs:set.length≤1000000) (hk:kids.length≤1000000) (H:List MB) :
  call Tryz.prog pol1 86 [.pt (nodeL op set kids mn mx md n neg),I caps,I top] H=some (.bool (formedG caps top (.mk op set kids mn mx md n neg)),H):=by
 refine zAS Tryz.func86 rfl rfl rfl rfl rfl rfl (fun _=>rfl) (by simp[AV.plain,AV.plainL,zAG,zAL]) rfl ?_ H
 have h131:=f131 set top ht hs
 have h132:=f132 op set kids mn mx md n neg
 by_cases h0:op < 0∨11 < op
 ·have e:formedG caps top (.mk op set kids mn mx md n neg)=false:=by
   have:¬ (0≤op∧op≤11):=by omega
   simp only[formedG,Bool.and_eq_false_iff,decide_eq_false_iff_not]
   omega
  rw[e]
  simp +contextual (disch:=omega) only[Tryz.f86,dd86,go_sem,simprocAttr,mu86,↓zAD,↓zAC,↓zAB,↓zAA,h131,h132]
  repeat' (first|intro _|apply And.intro|(unfold dOk;kernel_rfl)|exact St.beq_refl _|(show altO _ _ _ _=true;kernel_rfl)|(show (_ || _)=true;kernel_rfl)|(show (_ && _)=true;kernel_rfl))
  all_goals exact fzEq rfl rfl
 have hop:op=1∨op=4∨op=0∨op=2∨op=3∨op=5∨op=6∨op=7∨op=8∨op=9∨op=10∨op=11:=by omega
 clear h0
 rcases hop with rfl|rfl|rfl|rfl|rfl|rfl|rfl|rfl|rfl|rfl|rfl|rfl
 ·cases hsp:spansG set top
  all_goals (
   rw[hsp]at h131
   simp +contextual (disch:=omega) only[Tryz.f86,dd86,go_sem,simprocAttr,mu86,↓zAD,↓zAC,↓zAB,↓zAA,h131,h132]
   repeat' (first|intro _|apply And.intro|(unfold dOk;kernel_rfl)|exact St.beq_refl _|(show altO _ _ _ _=true;kernel_rfl)|(show (_ || _)=true;kernel_rfl)|(show (_ && _)=true;kernel_rfl))
   all_goals (clear h131 h132;refine fzEq rfl (congrArg AV.bool ?_);first|(simp_all [formedG,kidsG];done)|(simp_all [formedG,kidsG];omega)))
 ·cases hrp:repG mn mx md
  all_goals (
   rw[hrp]at h132
   simp +contextual (disch:=omega) only[Tryz.f86,dd86,go_sem,simprocAttr,mu86,↓zAD,↓zAC,↓zAB,↓zAA,h131,h132]
   repeat' (first|intro _|apply And.intro|(unfold dOk;kernel_rfl)|exact St.beq_refl _|(show altO _ _ _ _=true;kernel_rfl)|(show (_ || _)=true;kernel_rfl)|(show (_ && _)=true;kernel_rfl))
   all_goals (clear h131 h132;refine fzEq rfl (congrArg AV.bool ?_);first|(simp_all [formedG,kidsG];done)|(simp_all [formedG,kidsG];omega)))
 all_goals (
  simp +contextual (disch:=omega) only[Tryz.f86,dd86,go_sem,simprocAttr,mu86,↓zAD,↓zAC,↓zAB,↓zAA,h131,h132]
  repeat' (first|intro _|apply And.intro|(unfold dOk;kernel_rfl)|exact St.beq_refl _|(show altO _ _ _ _=true;kernel_rfl)|(show (_ || _)=true;kernel_rfl)|(show (_ && _)=true;kernel_rfl))
  all_goals (clear h131 h132;refine fzEq rfl (congrArg AV.bool ?_);first|(simp_all [formedG,kidsG,repG];done)|(simp_all [formedG,kidsG,repG];omega)))
end
end Go.Ev
