/- A run that each symbol leads, and the first result of the ways: plain. -/
import Derived.Test.YtmfpcondongbjaaDoorR15
import Derived.Test.YtmfpcondongbjaaDoorR07
import Derived.Test.YtmfpcondongbjaaDoorR13
import Derived.Test.YtmfpcondongbjaaDoorR08
import Derived.Test.YtmfpcondongbjaaDoorR12
set_option linter.unusedVariables false
set_option linter.unusedSimpArgs false
set_option linter.unusedSectionVars false
namespace Go.Ev
def Ends (p:Prog1) (S:List Way) (r:Option (Nat×List Int)) (n:Nat):Prop:=
 ∃ n',n'≤n∧(match r with
   | some x=>∃ pc,∀ rest fuel,runW p 1 (n' + fuel) (S++rest) []=some [⟨pc,x.1,x.2⟩]
   | none=>∀ rest fuel,runW p 1 (n' + fuel) (S++rest) []=runW p 1 fuel rest [])
theorem Ends.nil (p:Prog1) (n:Nat):Ends p [] none n:=⟨0,Nat.zero_le _,fun rest fuel=>by simp⟩
theorem Ends.mono {p:Prog1} {S:List Way} {r:Option (Nat×List Int)} {n m:Nat} (h:Ends p S r n) (hm:n≤m):Ends p S r m:=by
 obtain⟨n',h1,h2⟩:=h
 exact⟨n',Nat.le_trans h1 hm,h2⟩
theorem Ends.fst {p:Prog1} {S T:List Way} {x:Nat×List Int} {n:Nat} (h:Ends p S (some x) n):Ends p (S++T) (some x) n:=by
 obtain⟨n',h1,pc,h2⟩:=h
 exact⟨n',h1,pc,fun rest fuel=>by rw[List.append_assoc];exact h2 _ _⟩
theorem Ends.app {p:Prog1} {S T:List Way} {r:Option (Nat×List Int)} {n m:Nat} (h:Ends p S none n) (g:Ends p T r m):Ends p (S++T) r (n+m):=by
 obtain⟨n',h1,h2⟩:=h
 obtain⟨m',g1,g2⟩:=g
 refine⟨n' + m',by omega,?_⟩
 cases r with
 | none=>exact fun rest fuel=>by rw[List.append_assoc,Nat.add_assoc,h2,g2]
 | some x=>
   obtain⟨pc,g2⟩:=g2
   exact⟨pc,fun rest fuel=>by rw[List.append_assoc,Nat.add_assoc,h2,g2]⟩
theorem Ends.or {p:Prog1} {S T:List Way} {r q:Option (Nat×List Int)} {n m:Nat} (h:Ends p S r n) (g:Ends p T q m):Ends p (S++T) (r.or q) (n+m):=by
 cases r with
 | none=>exact h.app g
 | some x=>exact(h.fst (T:=T)).mono (by omega)
theorem zKd {p:Prog1} {fuel:Nat} {rest:List Way} {w:Way}:runW p 1 fuel rest [w]=some [w]:=by
 cases rest with
 | nil=>unfold runW;rfl
 | cons v rest=>unfold runW;simp
theorem Ends.done {p:Prog1} {w:Way} {S:List Way} {n:Nat} (hs:stepW p w=.done) (hn:1≤n):Ends p (w::S) (some (w.at_,w.regs)) n:=by
 refine⟨1,hn,w.pc,fun rest fuel=>?_⟩
 rw[Nat.add_comm,List.cons_append,zBv (by simp),hs]
 exact zKd
theorem Ends.step {p:Prog1} {w:Way} {S l:List Way} {r:Option (Nat×List Int)} {n:Nat} (hs:stepW p w=.ways l) (h:Ends p (l++S) r n):Ends p (w::S) r (n+1):=by
 obtain⟨n',h1,h2⟩:=h
 refine⟨n' + 1,by omega,?_⟩
 have e:∀ rest fuel,runW p 1 (n' + 1+fuel) (w::S++rest) []=runW p 1 (n' + fuel) (l++S++rest) []:=fun rest fuel=>by
  rw[show n' + 1+fuel=(n' + fuel)+1 by omega,List.cons_append,zBv (by simp),hs,List.append_assoc]
 cases r with
 | none=>exact fun rest fuel=>by rw[e,h2]
 | some x=>
   obtain⟨pc,h2⟩:=h2
   exact⟨pc,fun rest fuel=>by rw[e,h2]⟩
structure ProgT (p:Prog1) (ins:List Ins) (t:List Int):Prop where
 ins:∀ n,p.ins n=ins[n]?
 has:∀ s n,p.has s n=match t[n]? with
  | some x=>hasSpan s x
  | none=>false
def hitB (ins:List Ins) (t:List Int) (p a:Nat):Bool:=match t[p]? with
 | some x=>leadB ins x a
 | none=>false
abbrev wayM (p:Nat) (regs:List Int) (w:Nat×List Bool):Way:=⟨w.1,p,markL regs w.2 p⟩
theorem zKF (regs:List Int) (m:List Bool) (p:Int) (n:Nat) (hn:n < m.length):(markL regs m p).set n p=markL regs (m.set n true) p:=by
 apply List.ext_getElem?
 intro q
 by_cases e:n=q
 ·subst e
  by_cases hl:n < regs.length
  ·have h1:n < (markL regs m p).length:=by simp[markL];omega
   rw[List.getElem?_set_self h1]
   simp[markL,List.getElem?_zipWith,hl,hn]
  ·rw[List.getElem?_eq_none (by simp[markL];omega),List.getElem?_eq_none (by simp[markL];omega)]
 ·rw[List.getElem?_set_ne e]
  simp[markL,List.getElem?_zipWith,List.getElem?_set_ne e]
theorem zD8 (regs:List Int) (p:Int) (h:regs.length≤18):markL regs m0S p=regs:=by
 apply List.ext_getElem?
 intro q
 simp only[markL,List.getElem?_zipWith,m0S,List.getElem?_replicate]
 by_cases hq:q < regs.length
 ·rw[if_pos (by omega),List.getElem?_eq_getElem hq]
  simp
 ·rw[List.getElem?_eq_none (by omega)]
section
set_option linter.unusedSectionVars false
variable {ins:List Ins} {t:List Int} {P:Prog1} (h:OkP ins) (hP:ProgT P ins t) (p:Nat) (regs:List Int)
include h hP
theorem zJr {a:Nat} {i:Ins} (m:List Bool) (hm:m.length=18) (hi:ins[a]?=some i) :
  (i.op=0→stepW P (wayM p regs (a,m))=.done) ∧
  (i.op=1→stepW P (wayM p regs (a,m))=if hitB ins t p a=true then .ways [⟨a+1,p+1,markL regs m p⟩] else .ways []) ∧
  (i.op=2→stepW P (wayM p regs (a,m))=.ways [wayM p regs (i.x.toNat,m),wayM p regs (i.y.toNat,m)]) ∧
  (i.op=3→stepW P (wayM p regs (a,m))=.ways [wayM p regs (i.x.toNat,m)]) ∧
  (i.op=4→stepW P (wayM p regs (a,m))=.ways [wayM p regs (a+1,m.set i.n.toNat true)]):=by
 have hp:P.ins a=some i:=by rw[hP.ins,hi]
 refine⟨fun e=>by simp[stepW,hp,e],fun e=>?_,fun e=>by simp[stepW,hp,e],fun e=>by simp[stepW,hp,e],fun e=>?_⟩
 ·have hh:=hP.has i.set p
  cases ht:t[p]? with
  | none=>rw[ht]at hh;simp[stepW,hp,e,hh,hitB,ht]
  | some x=>rw[ht]at hh;simp[stepW,hp,e,hh,hitB,ht,leadB,hi]
 ·have h4:=(h.leads a i hi).2.2 e
  simp only[stepW,hp,e]
  simp
  rw[zKF _ _ _ _ (by omega)]
theorem zKu {a:Nat} {s:List Nat} {w:WS} (ht:(visF ins (a::s) w).tw=false):w.tw=false∧a ∉ w.seen:=by
 constructor
 ·refine Bool.eq_false_iff.2 fun e=>?_
  rw[zBo (.inl e)]at ht
  simp at ht
 ·intro e
  rw[zBo (.inr e)]at ht
  simp at ht
theorem zJz {a:Nat} {w:WS} (hw:w.Ok ins.length) (hn:a ∉ w.seen) (ha:a < ins.length):w.seen.length+1≤ins.length:=by
 have:=zC1 (n:=ins.length) (l:=a::w.seen) (List.nodup_cons.2 ⟨hn,hw.1⟩) (fun b hb=>by
  rcases List.mem_cons.1 hb with rfl|hb
  ·exact ha
  ·exact hw.2 b hb)
 simpa using this
theorem zLW:∀(k:Nat) (stk:Stk) (s:CS) (w:WS),w.Ok ins.length→ins.length < k+w.seen.length→(∀ x∈stk,x.1 < ins.length∧x.2.length=18)→(visF ins (stk.map (·.1)) w).tw=false→s.dn=false →
  (∀ a∈(visF ins (stk.map (·.1)) w).stops,hitB ins t p a=true→a∈w.seen) →
  ∃ sF,runS ins enC (yiC ins t p) k stk s=some sF∧sF.nx=s.nx∧sF.way=s.way∧Ends P (stk.map (wayM p regs)) (if sF.dn=true then some (p,markL regs sF.la p) else none) (ins.length - w.seen.length)
 | k,[],s,w,hw,hk,_,_,hd,_=>⟨s,by cases k<;>rfl,rfl,rfl,by rw[if_neg (by simp[hd])];exact Ends.nil _ _⟩
 | 0,_::_,s,w,hw,hk,_,_,_,_=>absurd hw.len (by omega)
 | k+1,(a,m)::rest,s,w,hw,hk,hst,htw,hd,hh=>by
   obtain⟨ha,hm⟩:=hst (a,m) (by simp)
   simp only at ha hm
   obtain⟨i,hi⟩:∃ i,ins[a]?=some i:=⟨_,List.getElem?_eq_getElem ha⟩
   simp only[List.map_cons]at htw hh ⊢
   obtain⟨h1,h2⟩:=zKu h hP htw
   rw[zBt hw h1 h2 hi]at htw hh
   have hl:(stepS w i a).seen.length=w.seen.length+1:=by simp[stepS]
   have hok:=hw.step h2 hi
   have hsl:=zJz h hP hw h2 ha
   have hrest:∀ x∈rest,x.1 < ins.length∧x.2.length=18:=fun x hx=>hst x (List.mem_cons_of_mem _ hx)
   obtain⟨st0,st1,st2,st3,st4⟩:=zJr h hP p regs m hm hi
   simp only[runS,enC,hi]
   have go:∀ stk2:Stk,stk2.map (·.1)=nexts i a→(∀ x∈stk2,x.1 < ins.length∧x.2.length=18)→stepW P (wayM p regs (a,m))=.ways (stk2.map (wayM p regs)) →
     ∃ sF,runS ins enC (yiC ins t p) k (stk2++rest) s=some sF∧sF.nx=s.nx∧sF.way=s.way∧Ends P (wayM p regs (a,m)::rest.map (wayM p regs)) (if sF.dn=true then some (p,markL regs sF.la p) else none) (ins.length - w.seen.length):=by
    intro stk2 e2 e4 e5
    obtain⟨sF,r1,r2,r3,r4⟩:=zLW k (stk2++rest) s (stepS w i a) hok (by rw[hl];omega) (fun x hx=>(List.mem_append.1 hx).elim (e4 x) (hrest x)) (by rw[List.map_append,e2];exact htw) hd (by
     rw[List.map_append,e2]
     intro b hb hx
     exact List.mem_append_left _ (hh b hb hx))
    refine⟨sF,r1,r2,r3,?_⟩
    rw[List.map_append]at r4
    rw[hl]at r4
    have:=Ends.step e5 r4
    exact this.mono (by omega)
   rcases h.ops i (List.mem_of_getElem? hi) with h0|h0|h0|h0|h0
   ·rw[if_neg (by omega),if_neg (by omega),if_neg (by omega),if_pos (.inr h0)]
    have ey:chY ins t p s a m = { s with dn:=true,la:=m }:=by simp only[chY,hi,if_pos h0]
    simp only[yiC,ey,Bool.not_true]
    refine⟨_,rfl,rfl,rfl,?_⟩
    rw[if_pos rfl]
    exact Ends.done (st0 h0) (by omega)
   ·rw[if_neg (by omega),if_neg (by omega),if_neg (by omega),if_pos (.inl h0)]
    have hst1:a∈(stepS w i a).stops:=by simp[stepS,stopB,h0]
    have hpre:=(zEn h.in1 (ins.length+1) (nexts i a++rest.map (·.1)) [] (stepS w i a) hok (by omega) (fun b hb=>by
     rcases List.mem_append.1 hb with hb|hb
     ·exact h.in1 a i hi b hb
     ·obtain⟨x,hx,rfl⟩:=List.mem_map.1 hb
      exact(hrest x hx).1)).2.2 rfl
    have hnh:hitB ins t p a=false:=by
     refine Bool.eq_false_iff.2 fun e=>h2 ?_
     exact hh a (hpre.subset hst1) e
    have ey:chY ins t p s a m=s:=by
     simp only[chY,hi]
     rw[if_neg (by omega)]
     cases ht:t[p]? with
     | none=>rfl
     | some x=>
       simp only[hitB,ht,leadB,hi,h0,decide_true,Bool.true_and]at hnh
       simp only
       rw[if_neg (by simp[hnh])]
    simp only[yiC,ey,hd,Bool.not_false]
    have hs:=st1 h0
    rw[if_neg (by simp[hnh])]at hs
    have hnx:nexts i a=[]:=by simp[nexts,h0]
    exact go [] (by simp[hnx]) (fun x hx=>by simp at hx) (by simpa using hs)
   ·rw[if_pos h0]
    exact go [(i.x.toNat,m),(i.y.toNat,m)] (by simp[nexts,h0]) (fun x hx=>by
     have h1:=(h.leads a i hi).1 (.inl h0)
     have h2:=(h.leads a i hi).2.1 h0
     simp at hx;rcases hx with rfl|rfl
     ·exact⟨h1.2,hm⟩
     ·exact⟨h2.2,hm⟩) (st2 h0)
   ·rw[if_neg (by omega),if_pos h0]
    exact go [(i.x.toNat,m)] (by simp[nexts,h0]) (fun x hx=>by
     have h1:=(h.leads a i hi).1 (.inr h0)
     simp at hx;subst hx;exact⟨h1.2,hm⟩) (st3 h0)
   ·rw[if_neg (by omega),if_neg (by omega),if_pos h0]
    exact go [(a+1,m.set i.n.toNat true)] (by simp[nexts,h0]) (fun x hx=>by
     have h1:=(h.leads a i hi).2.2 h0
     simp at hx;subst hx;exact⟨h1.1,by simp[hm]⟩) (st4 h0)
theorem zLX:∀(k:Nat) (stk:Stk) (s:CS) (w:WS),w.Ok ins.length→ins.length < k+w.seen.length→(∀ x∈stk,x.1 < ins.length∧x.2.length=18)→(visF ins (stk.map (·.1)) w).tw=false→s.dn=false→s.nx = -1 →
  (∀ a∈(visF ins (stk.map (·.1)) w).stops,∀ b∈(visF ins (stk.map (·.1)) w).stops,hitB ins t p a=true→hitB ins t p b=true→a=b) →
  ∃ sF,runS ins enC (yiC ins t p) k stk s=some sF ∧
    ((sF.nx = -1∧Ends P (stk.map (wayM p regs)) (if sF.dn=true then some (p,markL regs sF.la p) else none) (ins.length - w.seen.length)) ∨
     ∃ a,a∈(visF ins (stk.map (·.1)) w).stops∧hitB ins t p a=true∧sF.nx=((a+1:Nat):Int)∧∀ r N,Ends P [⟨a+1,p+1,markL regs sF.way p⟩] r N→Ends P (stk.map (wayM p regs)) (r.or (if sF.dn=true then some (p,markL regs sF.la p) else none)) (N+(ins.length - w.seen.length)))
 | k,[],s,w,hw,hk,_,_,hd,hx,_=>⟨s,by cases k<;>rfl,.inl ⟨hx,by rw[if_neg (by simp[hd])];exact Ends.nil _ _⟩⟩
 | 0,_::_,s,w,hw,hk,_,_,_,_,_=>absurd hw.len (by omega)
 | k+1,(a,m)::rest,s,w,hw,hk,hst,htw,hd,hx,hh=>by
   obtain⟨ha,hm⟩:=hst (a,m) (by simp)
   simp only at ha hm
   obtain⟨i,hi⟩:∃ i,ins[a]?=some i:=⟨_,List.getElem?_eq_getElem ha⟩
   simp only[List.map_cons]at htw hh ⊢
   obtain⟨h1,h2⟩:=zKu h hP htw
   rw[zBt hw h1 h2 hi]at htw hh
   rw[zBt hw h1 h2 hi]
   have hl:(stepS w i a).seen.length=w.seen.length+1:=by simp[stepS]
   have hok:=hw.step h2 hi
   have hsl:=zJz h hP hw h2 ha
   have hrest:∀ x∈rest,x.1 < ins.length∧x.2.length=18:=fun x hx=>hst x (List.mem_cons_of_mem _ hx)
   obtain⟨st0,st1,st2,st3,st4⟩:=zJr h hP p regs m hm hi
   simp only[runS,enC,hi]
   have go:∀ stk2:Stk,stk2.map (·.1)=nexts i a→(∀ x∈stk2,x.1 < ins.length∧x.2.length=18)→stepW P (wayM p regs (a,m))=.ways (stk2.map (wayM p regs)) →
     ∃ sF,runS ins enC (yiC ins t p) k (stk2++rest) s=some sF ∧
       ((sF.nx = -1∧Ends P (wayM p regs (a,m)::rest.map (wayM p regs)) (if sF.dn=true then some (p,markL regs sF.la p) else none) (ins.length - w.seen.length)) ∨
        ∃ b,b∈(visF ins (nexts i a++rest.map (·.1)) (stepS w i a)).stops∧hitB ins t p b=true∧sF.nx=((b+1:Nat):Int)∧∀ r N,Ends P [⟨b+1,p+1,markL regs sF.way p⟩] r N→Ends P (wayM p regs (a,m)::rest.map (wayM p regs)) (r.or (if sF.dn=true then some (p,markL regs sF.la p) else none)) (N+(ins.length - w.seen.length))):=by
    intro stk2 e2 e4 e5
    obtain⟨sF,r1,r2⟩:=zLX k (stk2++rest) s (stepS w i a) hok (by rw[hl];omega) (fun x hx=>(List.mem_append.1 hx).elim (e4 x) (hrest x)) (by rw[List.map_append,e2];exact htw) hd hx (by
     rw[List.map_append,e2]
     exact hh)
    rw[List.map_append,List.map_append,e2,hl]at r2
    refine⟨sF,r1,?_⟩
    rcases r2 with ⟨r2,r3⟩|⟨b,r2,r3,r4,r5⟩
    ·exact .inl ⟨r2,(Ends.step e5 r3).mono (by omega)⟩
    ·exact .inr ⟨b,r2,r3,r4,fun r N hr=>(Ends.step e5 (r5 r N hr)).mono (by omega)⟩
   rcases h.ops i (List.mem_of_getElem? hi) with h0|h0|h0|h0|h0
   ·rw[if_neg (by omega),if_neg (by omega),if_neg (by omega),if_pos (.inr h0)]
    have ey:chY ins t p s a m = { s with dn:=true,la:=m }:=by simp only[chY,hi,if_pos h0]
    simp only[yiC,ey,Bool.not_true]
    refine⟨_,rfl,.inl ⟨hx,?_⟩⟩
    rw[if_pos rfl]
    exact Ends.done (st0 h0) (by omega)
   ·rw[if_neg (by omega),if_neg (by omega),if_neg (by omega),if_pos (.inl h0)]
    have hst1:a∈(stepS w i a).stops:=by simp[stepS,stopB,h0]
    have hpre:=(zEn h.in1 (ins.length+1) (nexts i a++rest.map (·.1)) [] (stepS w i a) hok (by omega) (fun b hb=>by
     rcases List.mem_append.1 hb with hb|hb
     ·exact h.in1 a i hi b hb
     ·obtain⟨x,hx,rfl⟩:=List.mem_map.1 hb
      exact(hrest x hx).1)).2.2 rfl
    have hain:=hpre.subset hst1
    have hs:=st1 h0
    have hnx:nexts i a=[]:=by simp[nexts,h0]
    cases hq:hitB ins t p a with
    | false=>
      have ey:chY ins t p s a m=s:=by
       simp only[chY,hi]
       rw[if_neg (by omega)]
       cases ht:t[p]? with
       | none=>rfl
       | some x=>
         simp only[hitB,ht,leadB,hi,h0,decide_true,Bool.true_and]at hq
         simp only
         rw[if_neg (by simp[hq])]
      simp only[yiC,ey,hd,Bool.not_false]
      rw[if_neg (by simp[hq])]at hs
      exact go [] (by simp[hnx]) (fun x hx=>by simp at hx) (by simpa using hs)
    | true=>
      rw[if_pos hq]at hs
      have ey:chY ins t p s a m = { s with nx:=((a+1:Nat):Int),way:=m }:=by
       simp only[chY,hi]
       rw[if_neg (by omega)]
       cases ht:t[p]? with
       | none=>simp[hitB,ht]at hq
       | some x=>
         simp only[hitB,ht,leadB,hi,h0,decide_true,Bool.true_and]at hq
         simp only
         rw[if_pos hq]
      simp only[yiC,ey,hd,Bool.not_false]
      rw[hnx,List.nil_append]at htw hh hain
      rw[hnx,List.nil_append]
      obtain⟨sF,r1,r2,r3,r4⟩:=zLW h hP p regs k rest { s with nx:=((a+1:Nat):Int),way:=m } (stepS w i a) hok (by rw[hl];omega) hrest htw hd (fun b hb hx=>by
       rw[hh b hb a hain hx hq]
       simp[stepS])
      have hde:({ nx:=((a+1:Nat):Int),way:=m,dn:=false,la:=s.la }:CS) = { s with nx:=((a+1:Nat):Int),way:=m }:=by simp[hd]
      refine⟨sF,by first|exact r1|(rw[hde];exact r1),.inr ⟨a,hain,hq,r2,fun r N hr=>?_⟩⟩
      rw[r3]at hr
      rw[hl]at r4
      exact(Ends.step hs (hr.or r4)).mono (by omega)
   ·rw[if_pos h0]
    exact go [(i.x.toNat,m),(i.y.toNat,m)] (by simp[nexts,h0]) (fun x hx=>by
     have h1:=(h.leads a i hi).1 (.inl h0)
     have h2:=(h.leads a i hi).2.1 h0
     simp at hx;rcases hx with rfl|rfl
     ·exact⟨h1.2,hm⟩
     ·exact⟨h2.2,hm⟩) (st2 h0)
   ·rw[if_neg (by omega),if_pos h0]
    exact go [(i.x.toNat,m)] (by simp[nexts,h0]) (fun x hx=>by
     have h1:=(h.leads a i hi).1 (.inr h0)
     simp at hx;subst hx;exact⟨h1.2,hm⟩) (st3 h0)
   ·rw[if_neg (by omega),if_neg (by omega),if_pos h0]
    exact go [(a+1,m.set i.n.toNat true)] (by simp[nexts,h0]) (fun x hx=>by
     have h1:=(h.leads a i hi).2.2 h0
     simp at hx;subst hx;exact⟨h1.1,by simp[hm]⟩) (st4 h0)
end
structure Closed (ins:List Ins) (Q:Nat→Prop):Prop where
 lt:∀ st,Q st→st < ins.length
 nf:∀ st,Q st→¬ ForkS ins st
 next:∀ st s b,Q st→leadS ins st s=some b→Q b
def chS (ins:List Ins) (t:List Int) (st p:Nat):CS:=(runS ins enC (yiC ins t p) (ins.length+1) [(st,m0S)] CS0).getD CS0
theorem zGT {ins:List Ins} (h:OkP ins) {t:List Int} {st p a:Nat} (hf:¬ ForkS ins st) (ha:a∈(fromS ins st).stops) (hh:hitB ins t p a=true):∃ x,t[p]?=some x∧leadS ins st x=some (a+1):=by
 unfold hitB at hh
 cases ht:t[p]? with
 | none=>simp[ht]at hh
 | some x=>
   rw[ht]at hh
   simp only at hh
   obtain⟨i,hi,h1,h2⟩:=zIp hh
   obtain⟨q,hq,_⟩:=zBW.1 h2
   exact⟨x,rfl,zH6 h hf (zKz ha hi h1 (List.length_pos_of_mem hq)) hi h2⟩
theorem zMH {ins:List Ins} (h:OkP ins) {t:List Int} {P:Prog1} (hP:ProgT P ins t) {st:Nat} (hst:st < ins.length) (hf:¬ ForkS ins st) (p:Nat) (regs:List Int) (hr:regs.length≤18) :
  runS ins enC (yiC ins t p) (ins.length+1) [(st,m0S)] CS0=some (chS ins t st p) ∧
   (((chS ins t st p).nx = -1∧Ends P [⟨st,p,regs⟩] (if(chS ins t st p).dn=true then some (p,markL regs (chS ins t st p).la p) else none) ins.length) ∨
    ∃ b x,t[p]?=some x∧leadS ins st x=some b∧(chS ins t st p).nx=(b:Int)∧∀ r N,Ends P [⟨b,p+1,markL regs (chS ins t st p).way p⟩] r N→Ends P [⟨st,p,regs⟩] (r.or (if(chS ins t st p).dn=true then some (p,markL regs (chS ins t st p).la p) else none)) (N+ins.length)):=by
 have htw:(fromS ins st).tw=false:=by
  refine Bool.eq_false_iff.2 fun e=>hf (.inl e)
 obtain⟨sF,h1,h2⟩:=zLX h hP p regs (ins.length+1) [(st,m0S)] CS0 w0S (zGq _) (by simp[w0S]) (fun x hx=>by simp at hx;subst hx;exact⟨hst,rfl⟩) htw rfl rfl (fun a ha b hb e1 e2=>by
  obtain⟨x,hx,hla⟩:=zGT h hf ha e1
  obtain⟨y,hy,hlb⟩:=zGT h hf hb e2
  rw[hx]at hy;cases hy
  rw[hla]at hlb
  simp only[Option.some.injEq]at hlb
  omega)
 have hc:chS ins t st p=sF:=by unfold chS;rw[h1];rfl
 rw[hc]
 refine⟨h1,?_⟩
 have e1:[((st,m0S):Nat×List Bool)].map (wayM p regs)=[⟨st,p,regs⟩]:=by simp[wayM,zD8 _ _ hr]
 have e2:ins.length - w0S.seen.length=ins.length:=by simp[w0S]
 rw[e1,e2]at h2
 rcases h2 with h2|⟨a,ha,hh,hn,hk⟩
 ·exact .inl h2
 ·obtain⟨x,hx,hl⟩:=zGT h hf ha hh
  exact .inr ⟨a+1,x,hx,hl,hn,hk⟩
def runO (ins:List Ins) (t:List Int):Nat→Nat→Nat→List Int→Option (Nat×List Int)→Option (Nat×List Int)
 | 0,_,_,_,res=>res
 | k+1,st,p,regs,res=>
   if(chS ins t st p).nx < 0 then(if(chS ins t st p).dn=true then some (p,markL regs (chS ins t st p).la p) else res)
   else runO ins t k (chS ins t st p).nx.toNat (p+1) (markL regs (chS ins t st p).way p) (if(chS ins t st p).dn=true then some (p,markL regs (chS ins t st p).la p) else res)
end Go.Ev
namespace Go.Ev
attribute [local go_sem] evAppend evBuild splice List.length_append List.map_append
section
attribute [local go_sem] tySzE List.head?_drop Nat.mul_one zAN zAQ zAL zAO zAP zAU
open Go.Proofs Go.RowKit Go.IntWalk
set_option maxRecDepth 100000
set_option maxHeartbeats 4000000
def capP (a b:Int):Int×Int:=if a = -1∨b = -1 then(-1,-1) else(a,b)
def capsN (regs:List Int) (n:Nat):List (Int×Int):=(List.range n).map fun k=>capP (regs.getD (2 * k) 0) (regs.getD (2 * k+1) 0)
theorem zJb (regs:List Int) (n:Nat):capsN regs (n+1)=capsN regs n++[capP (regs.getD (2 * n) 0) (regs.getD (2 * n+1) 0)]:=by
 simp[capsN,List.range_succ]
theorem zD2 (regs:List Int) (n:Nat):(capsN regs n).length=n:=by simp[capsN]
def matAV (s e:Int) (caps:List (Int×Int)):AV:=.agg [I s,I e,.sl false (caps.map spanAV)]
theorem zHH (s e:Int) (caps:List (Int×Int)):AV.plain (matAV s e caps)=true:=by simp[matAV,AV.plain,AV.plainL,zAG]
end
section
attribute [local go_sem] tySzE List.head?_drop Nat.mul_one zAN zAQ zAL zAO zAP zAU
open Go.Proofs Go.RowKit Go.IntWalk
set_option maxRecDepth 100000
set_option maxHeartbeats 16000000
theorem f45 (ins:List Ins) (num begin_ end_:Int) (regs:List Int) (n:Nat) (hr:regs.length=18) (hn:n≤9) (H:List MB) :
  call Tryd.prog pol1 29 [.pt [.sl false (ins.map insAV),I n,I num],I begin_,I end_,.agg (regs.map I)] H=some (matAV begin_ end_ (capsN regs n),H):=by
 have t1:List.take 18 (regs.map I)=regs.map I:=List.take_of_length_le (by simp[hr])
 have o1:(regs.map I).all AV.ok=true:=by simp[AV.ok]
 refine zAS Tryd.func29 rfl rfl rfl rfl rfl rfl (fun _=>rfl) (by simp[AV.plain,AV.plainL,zAF,zAH]) (zHH _ _ _) ?_ H
 simp +contextual (disch:=omega) only[Tryd.f29,dd29,go_sem,simprocAttr,mu29,↓zAE,↓zAC,↓zAB,↓zAA,t1,o1,hr]
 let cur:Nat→List (Int×Int):=fun i=>(capsN regs i)++List.replicate (n - i) (0,0)
 have hcl:∀ i,i≤n→(cur i).length=n:=fun i hi=>by simp[cur,zD2];omega
 have hc0:List.replicate n (.agg [I 0,I 0])=(cur 0).map spanAV:=by simp[cur,capsN,spanAV]
 have hcN:cur n=capsN regs n:=by simp[cur]
 have hstep:∀ i,i < n→cur (i+1)=(cur i).set i (capP (regs.getD (2 * i) 0) (regs.getD (2 * i+1) 0)):=fun i hi=>by
  simp only[cur]
  rw[zJb,show n - i=(n - (i+1))+1 by omega,List.replicate_succ,List.set_append_right _ _ (by simp[zD2])]
  simp[zD2]
 have hn0:(n:Int).toNat=n:=by simp
 refine zAY (M:=(mskOf (pol1.mask 29) (pol1.gc 29) (pol1.acts 29) 0 3)) (by rfl) n (fun i=>(⟨59,[(22,NV i),(21,I n),(9,.rf 3 1 0 0),(8,.rf 1 1 0 0),(7,.rf 0 1 0 0)],[.row 18 [.agg (regs.map I)] 0,.row 3 [.agg [I 0,I 0,.sl true []]] 0,.row 2 ((cur i).map spanAV) 0,.row 3 [.agg [I begin_,I end_,.ms 2 2 n 0 n]] 0]⟩:St)) (fun _=>True) ?_ ?_ trivial _ ?_
 ·intro i hi _
  obtain⟨a,ha⟩:∃ a,regs[2 * i]?=some a:=⟨_,List.getElem?_eq_getElem (by omega)⟩
  obtain⟨b,hb⟩:∃ b,regs[2 * i+1]?=some b:=⟨_,List.getElem?_eq_getElem (by omega)⟩
  have hl:=hcl i (by omega)
  have hs:=hstep i hi
  rw[List.getD_eq_getElem?_getD,List.getD_eq_getElem?_getD,ha,hb]at hs
  simp only[Option.getD_some]at hs
  rw[hs]
  generalize cur i=cs at *
  have e2:(2:Int) * (i:Int)=((2 * i:Nat):Int):=by omega
  have e3:((2 * i:Nat):Int)+1=((2 * i+1:Nat):Int):=by omega
  have hlt:((i:Int) < (n:Int))=True:=eq_true (by omega)
  have hwi:IntKind.i64.wrap ((i:Int)+1)=((i+1:Nat):Int):=by rw[i64_in]<;>omega
  have hm:∀ p:Int×Int,(cs.map spanAV).set i (spanAV p)=(cs.set i p).map spanAV:=fun p=>by rw[List.map_set]
  obtain⟨c0,hc0⟩:∃ c,cs[i]?=some c:=⟨_,List.getElem?_eq_getElem (by omega)⟩
  have hsi:∀ x:AV,((cs.map spanAV).set i x)[i]?=some x:=fun x=>List.getElem?_set_self (by simp;omega)
  have hss:∀ x y:AV,((cs.map spanAV).set i x).set i y=(cs.map spanAV).set i y:=fun x y=>by rw[List.set_set]
  have hsl:∀ x:AV,((cs.map spanAV).set i x).length=n:=fun x=>by simp[hl]
  have hsu:∀ p:Int×Int,AV.underL 4 ((cs.set i p).map spanAV)=true:=fun p=>zAD 4 _ (zAG _)
  have hk4:AV.underL 4 [NV (i+1),I n,.rf 3 1 0 0,.rf 1 1 0 0,.rf 0 1 0 0]=true:=rfl
  have hun:∀ p:Int×Int,[MB.row 18 [.agg (regs.map I)] 0,.row 3 [.agg [I 0,I 0,.sl true []]] 0,.row 2 ((cs.map spanAV).set i (spanAV p)) 0,.row 3 [.agg [I begin_,I end_,.ms 2 2 n 0 n]] 0].all (MB.under 4)=true:=fun p=>by
   rw[hm]
   have h1:=zAD 4 _ (zAF regs)
   have h2:=hsu p
   simp[-List.map_set,MB.under,AV.underL,AV.under,h1,h2]
  by_cases h1:a = -1
  ·simp +contextual (disch:=omega) only[Tryd.f29,dd29,go_sem,simprocAttr,mu29,↓zAE,↓zAC,↓zAB,↓zAA,ha,hb,hl,e2,e3,hlt,hwi,h1,hc0,hsi,hss,hsl]
   rw[show capP (-1) b=(-1,-1) by simp[capP],← hm]
   exact zAV rfl rfl hk4 (hun (-1,-1)) rfl
  ·by_cases h2:b = -1
   ·simp +contextual (disch:=omega) only[Tryd.f29,dd29,go_sem,simprocAttr,mu29,↓zAE,↓zAC,↓zAB,↓zAA,ha,hb,hl,e2,e3,hlt,hwi,h1,h2,hc0,hsi,hss,hsl]
    rw[show capP a (-1)=(-1,-1) by simp[capP],← hm]
    exact zAV rfl rfl hk4 (hun (-1,-1)) rfl
   ·simp +contextual (disch:=omega) only[Tryd.f29,dd29,go_sem,simprocAttr,mu29,↓zAE,↓zAC,↓zAB,↓zAA,ha,hb,hl,e2,e3,hlt,hwi,h1,h2,hc0,hsi,hss,hsl]
    refine⟨(by unfold dOk;kernel_rfl),?_⟩
    rw[show capP a b=(a,b) by simp[capP,h1,h2],← hm]
    exact zAV rfl rfl hk4 (hun (a,b)) rfl
 ·intro _
  rw[hcN]
  have hl:=zD2 regs n
  generalize capsN regs n=cs at *
  simp +contextual (disch:=omega) only[Tryd.f29,dd29,go_sem,simprocAttr,mu29,↓zAE,↓zAC,↓zAB,↓zAA,hl]
  simp only[fz,zID,fzL,zFF]
  rw[zDW (els:=cs.map spanAV) (k:=2) (z:=0) rfl (by simp[hl]) (zAG cs)]
  exact⟨_,rfl⟩
 ·rw[← hc0]
  have h1:=zAD 4 _ (zAF regs)
  have h2:AV.underL 4 (List.replicate n (AV.agg [I 0,I 0]))=true:=by rw[hc0];exact zAD 4 _ (zAG _)
  exact zAV rfl rfl rfl (by simp[MB.under,AV.underL,AV.under,h1,h2]) rfl
end
theorem zKr (ins:List Ins) (i:Nat) (r:RS) (xs:List RS) (s:Int):xs <+: addS ins i r xs s∧∀ b,leadS ins r.st s=some b→b∈(addS ins i r xs s).map (·.st):=by
 unfold addS
 cases hq:leadS ins r.st s with
 | none=>exact⟨List.prefix_refl _,fun b h=>by cases h⟩
 | some c=>
   simp only
   split
   ·rename_i hc
    exact⟨List.prefix_refl _,fun b h=>by cases h;exact hc⟩
   ·exact⟨List.prefix_append _ _,fun b h=>by cases h;simp⟩
theorem zI2 (ins:List Ins) (i:Nat) (r:RS):∀(syms:List Int) (xs:List RS),xs <+: syms.foldl (addS ins i r) xs∧∀ s∈syms,∀ b,leadS ins r.st s=some b→b∈(syms.foldl (addS ins i r) xs).map (·.st)
 | [],xs=>⟨List.prefix_refl _,fun s hs=>by cases hs⟩
 | s::syms,xs=>by
   obtain⟨h1,h2⟩:=zKr ins i r xs s
   obtain⟨h3,h4⟩:=zI2 ins i r syms (addS ins i r xs s)
   refine⟨h1.trans h3,fun s' hs b hb=>?_⟩
   rcases List.mem_cons.1 hs with rfl|hs
   ·exact(h3.map (·.st)).subset (h2 b hb)
   ·exact h4 s' hs b hb
def Gone (ins:List Ins) (xs:List RS) (r:RS):Prop:=¬ ForkS ins r.st∧∀ n∈(exS ins r.st).rd,n+1∈xs.map (·.st)
theorem zGw {ins:List Ins} (h:OkP ins) {syms:List Int} (hL:LeastTo ins ins.length syms):∀(f i:Nat) (xs xs':List RS),XOk ins xs→ins.length < f+i→srch ins syms f i xs=(xs',false)→(∀ j r,j < i→xs[j]?=some r→Gone ins xs r) →
  xs <+: xs'∧∀ r∈xs',Gone ins xs' r
 | 0,i,xs,xs',hx,hf,hs,hg=>by
   simp only[srch,Prod.mk.injEq,and_true]at hs
   subst hs
   have:=hx.len
   refine⟨List.prefix_refl _,fun r hr=>?_⟩
   obtain⟨j,hj⟩:=List.mem_iff_getElem?.1 hr
   exact hg j r (by have:=(List.getElem?_eq_some_iff.1 hj).1;omega) hj
 | f+1,i,xs,xs',hx,hf,hs,hg=>by
   simp only[srch]at hs
   cases hi:xs[i]? with
   | none=>
     rw[hi]at hs
     simp only[Prod.mk.injEq,and_true]at hs
     subst hs
     refine⟨List.prefix_refl _,fun r hr=>?_⟩
     obtain⟨j,hj⟩:=List.mem_iff_getElem?.1 hr
     have h1:=(List.getElem?_eq_some_iff.1 hj).1
     have h2:=List.getElem?_eq_none_iff.1 hi
     exact hg j r (by omega) hj
   | some r=>
     rw[hi]at hs
     simp only at hs
     split at hs
     ·simp at hs
     ·rename_i hfk
      obtain⟨h1,h2⟩:=zI2 ins i r syms xs
      obtain⟨h3,h4,h5⟩:=XOk.adds h syms hx hi
      have hil:=(List.getElem?_eq_some_iff.1 hi).1
      have hpre:∀ j,j≤i→(syms.foldl (addS ins i r) xs)[j]?=xs[j]?:=fun j hj=>by
       obtain⟨t,ht⟩:=h1
       rw[← ht,List.getElem?_append_left (by omega)]
      obtain⟨h6,h7⟩:=zGw h hL f (i+1) _ xs' h3 (by omega) hs (fun j q hj hq=>by
       rw[hpre j (by omega)]at hq
       by_cases e:j=i
       ·subst e
        rw[hi]at hq
        cases hq
        refine⟨hfk,fun n hn=>?_⟩
        obtain⟨x,hx1,hx2,hx3⟩:=zFa h hn
        have hn2:n < ins.length:=(List.getElem?_eq_some_iff.1 hx1).1
        exact h2 (keyI ins n) (hL.has n x hn2 hx1 hx2 hx3) (n+1) (zH6 h hfk hn hx1 (zDu h hx1 hx3).1)
       ·obtain⟨g1,g2⟩:=hg j q (by omega) hq
        exact⟨g1,fun n hn=>(h1.map (·.st)).subset (g2 n hn)⟩)
      exact⟨h1.trans h6,h7⟩
theorem zKR {ins:List Ins} (h:OkP ins) {syms:List Int} (hL:LeastTo ins ins.length syms) {xs:List RS} (hx:Explored ins xs false):Closed ins (fun st=>st∈xs.map (·.st))∧0∈xs.map (·.st):=by
 obtain⟨h1,h2⟩:=zGw h hL (ins.length+1) 0 xs0 xs (zKt h) (by omega) (hx.2 syms hL) (fun j r hj=>absurd hj (Nat.not_lt_zero _))
 refine⟨⟨fun st hst=>?_,fun st hst=>?_,fun st s b hst hl=>?_⟩,(h1.map (·.st)).subset (by simp[xs0])⟩
 ·obtain⟨r,hr,rfl⟩:=List.mem_map.1 hst
  exact hx.1.lt r hr
 ·obtain⟨r,hr,rfl⟩:=List.mem_map.1 hst
  exact(h2 r hr).1
 ·obtain⟨r,hr,rfl⟩:=List.mem_map.1 hst
  obtain⟨n,i,rfl,hn,_,_⟩:=zGP h hl
  exact(h2 r hr).2 n hn
end Go.Ev
namespace Go.Ev
attribute [local go_sem] evAppend evBuild splice List.length_append List.map_append
section
attribute [local go_sem] tySzE List.head?_drop Nat.mul_one zAN zAQ zAL zAO zAP zAU
open Go.Proofs Go.RowKit Go.IntWalk
set_option maxRecDepth 100000
set_option maxHeartbeats 16000000
def m18:List Int:=List.replicate 18 (-1)
def mat21 (b:Bool) (pos n:Nat):Option (Nat×List Int)→AV
 | none=>.agg [I 0,I 0,.sl b []]
 | some x=>matAV pos x.1 (capsN x.2 n)
abbrev cAV (ins:List Ins) (n:Nat) (num:Int):AV:=.pt [.sl false (ins.map insAV),I n,I num]
structure S21r where
 st:Int
 p:Nat
 regs:List Int
 res:Option (Nat×List Int)
def T21r (ins:List Ins) (n:Nat) (num:Int) (t:List Int) (pos:Nat) (s:S21r):St:=
 (⟨69,[(14,I s.st),(13,NV pos),(12,.bool s.res.isSome),(11,.rf 2 1 0 0),(9,.rf 1 1 0 0),(6,.rf 0 1 0 0),(2,NV s.p),(1,.sl false (t.map I)),(0,cAV ins n num)],[.row 3 [.agg [I 0,I 0,.sl true []]] 0,.row 18 [.agg (s.regs.map I)] 0,.row 3 [mat21 true pos n s.res] 0]⟩:St)
theorem zE6 (b:Bool) (pos n:Nat) (r:Option (Nat×List Int)):AV.plain (mat21 false pos n r)=true∧∀ k,AV.under k (mat21 b pos n r)=true:=by
 cases r with
 | none=>exact⟨rfl,fun k=>rfl⟩
 | some x=>
   refine⟨zHH _ _ _,fun k=>?_⟩
   have:=zAD k _ (zAG (capsN x.2 n))
   simp[mat21,matAV,AV.under,AV.underL,this]
theorem g21 {ins:List Ins} (h:OkP ins) {Q:Nat→Prop} (hQ:Closed ins Q) (hQ0:Q 0) (n:Nat) (hn:n≤9) (num:Int) (t:List Int) (ht:t.length≤65536) (pos:Nat) (hpos:pos≤t.length) (H:List MB) :
  call Tryd.prog pol1 12 [cAV ins n num,.sl false (t.map I),NV pos] H=some (.tup [mat21 false pos n (runO ins t (t.length+1 - pos) 0 pos m18 none),.bool (runO ins t (t.length+1 - pos) 0 pos m18 none).isSome,I 0],H):=by
 have hil:=h.len
 have hset:∀ i∈ins,i.set.length≤1000000:=fun i hi=>by have:=(h.sets i hi).2;omega
 generalize hR:runO ins t (t.length+1 - pos) 0 pos m18 none=R
 refine zAS Tryd.func12 rfl rfl rfl rfl rfl rfl (fun _=>rfl) (by simp[AV.plain,AV.plainL,zAF,zAH]) (by simp[AV.plain,AV.plainL,zE6 true]) ?_ H
 simp +contextual (disch:=omega) only[Tryd.f12,dd12,go_sem,simprocAttr,mu12,↓zAE,↓zAC,↓zAB,↓zAA]
 let cur:Nat→List Int:=fun i=>List.replicate i (-1)++List.replicate (18 - i) 0
 have hcl:∀ i,i≤18→(cur i).length=18:=fun i hi=>by simp[cur];omega
 have hc0:[I 0,I 0,I 0,I 0,I 0,I 0,I 0,I 0,I 0,I 0,I 0,I 0,I 0,I 0,I 0,I 0,I 0,I 0]=(cur 0).map I:=rfl
 have hcN:cur 18=m18:=by simp[cur,m18]
 have hstep:∀ i,i < 18→cur (i+1)=(cur i).set i (-1):=fun i hi=>by
  simp only[cur]
  rw[show 18 - i=(18 - (i+1))+1 by omega,List.replicate_succ (a:=(0:Int)),List.set_append_right _ _ (by simp),List.replicate_succ' (a:=(-1:Int))]
  simp
 refine zAY (M:=(mskOf (pol1.mask 12) (pol1.gc 12) (pol1.acts 12) 0 7)) (by rfl) 18 (fun i=>(⟨69,[(32,NV i),(9,.rf 1 1 0 0),(6,.rf 0 1 0 0),(2,NV pos),(1,.sl false (t.map I)),(0,cAV ins n num)],[.row 3 [.agg [I 0,I 0,.sl true []]] 0,.row 18 [.agg ((cur i).map I)] 0]⟩:St)) (fun _=>True) ?_ ?_ trivial _ ?_
 ·intro i hi _
  have hlt:((i:Int) < 18)=True:=eq_true (by omega)
  have hwi:IntKind.i64.wrap ((i:Int)+1)=((i+1:Nat):Int):=by rw[i64_in]<;>omega
  have hcl1:=hcl i (by omega)
  simp +contextual (disch:=omega) only[Tryd.f12,dd12,go_sem,simprocAttr,mu12,↓zAE,↓zAC,↓zAB,↓zAA,hlt,hwi,zAR,hcl1]
  rw[hstep i hi,List.map_set,List.set_eq_take_append_cons_drop,if_pos (by simp[hcl1];omega)]
  rfl
 ·intro _
  rw[hcN]
  have hm18:m18.length=18:=rfl
  simp +contextual (disch:=omega) only[Tryd.f12,dd12,go_sem,simprocAttr,mu12,↓zAE,↓zAC,↓zAB,↓zAA,hm18]
  have hk4:∀ s:S21r,AV.underL 3 [I s.st,NV pos,.bool s.res.isSome,.rf 2 1 0 0,.rf 1 1 0 0,.rf 0 1 0 0,NV s.p,.sl false (t.map I),cAV ins n num]=true:=fun s=>by
   have h1:=zAD 3 _ (zAF t)
   have h2:=zAD 3 _ (zAH ins)
   simp[AV.underL,AV.under,h1,h2]
  have hun:∀ s:S21r,[MB.row 3 [.agg [I 0,I 0,.sl true []]] 0,.row 18 [.agg (s.regs.map I)] 0,.row 3 [mat21 true pos n s.res] 0].all (MB.under 3)=true:=fun s=>by
   have h1:=zAD 3 _ (zAF s.regs)
   have h2:=(zE6 true pos n s.res).2 3
   simp[MB.under,AV.underL,AV.under,h1,h2]
  refine zHw (M:=(mskOf (pol1.mask 12) (pol1.gc 12) (pol1.acts 12) 0 15)) (by rfl) (T21r ins n num t pos) (fun s=>s.regs.length=18∧(s.st = -1∨(0≤s.st∧Q s.st.toNat∧s.p≤t.length))∧R=(if s.st < 0 then s.res else runO ins t (t.length+1 - s.p) s.st.toNat s.p s.regs s.res)) (fun s=>if s.st < 0 then 0 else t.length+2 - s.p) ⟨0,pos,m18,none⟩ ?_ ⟨rfl,.inr ⟨Int.le_refl _,hQ0,hpos⟩,hR.symm⟩ _ ?_
  ·rintro⟨st,p,regs,res⟩ ⟨hrl,hst,hr⟩
   simp only at hrl hst hr
   simp only[T21r]
   rcases hst with rfl|⟨hst0,hq,hp⟩
   ·rw[if_pos (by omega)]at hr
    subst hr
    have hneg:(0≤(-1:Int))=False:=by simp
    cases R with
    | none=>
      simp only[mat21]
      simp +contextual (disch:=omega) only[Tryd.f12,dd12,go_sem,simprocAttr,mu12,↓zAE,↓zAC,↓zAB,↓zAA]
      exact⟨_,rfl⟩
    | some x=>
      simp only[mat21,matAV]
      simp +contextual (disch:=omega) only[Tryd.f12,dd12,go_sem,simprocAttr,mu12,↓zAE,↓zAC,↓zAB,↓zAA]
      exact⟨_,zBC _ (by simp[mat21,matAV,AV.plain,AV.plainL,zAG])⟩
   ·obtain⟨k,rfl⟩:∃ k:Nat,st=k:=⟨st.toNat,by omega⟩
    simp only[Int.toNat_natCast]at hq hr
    rw[if_neg (by omega)]at hr
    have hk:=hQ.lt k hq
    obtain⟨hrun,hnx⟩:=zMH h (P:=⟨fun n=>ins[n]?,fun s n=>match t[n]? with
     | some x=>hasSpan s x
     | none=>false,fun _ _=>false⟩) ⟨fun _=>rfl,fun _ _=>rfl⟩ hk (hQ.nf k hq) p regs (by omega)
    obtain⟨hs1,hs2⟩:=zCc _ _ _ _ hrun (fun w hw=>by simp at hw;subst hw;rfl) ⟨rfl,rfl⟩
    have h44:=fun H=>f44 ins n num t p k (by omega) (by omega) hset h.leads hk (ins.length+1) (by omega) _ hrun H
    have hro:runO ins t (t.length+1 - p) k p regs res=if(chS ins t k p).nx < 0 then(if(chS ins t k p).dn=true then some (p,markL regs (chS ins t k p).la p) else res)
      else runO ins t (t.length - p) (chS ins t k p).nx.toNat (p+1) (markL regs (chS ins t k p).way p) (if(chS ins t k p).dn=true then some (p,markL regs (chS ins t k p).la p) else res):=by
     rw[show t.length+1 - p=(t.length - p)+1 by omega];rfl
    rw[hro]at hr
    have hnext:(chS ins t k p).nx = -1∨(0≤(chS ins t k p).nx∧Q (chS ins t k p).nx.toNat∧p+1≤t.length):=by
     rcases hnx with ⟨e,_⟩|⟨b,x,hx,hl,e,_⟩
     ·exact .inl e
     ·right
      rw[e,Int.toNat_natCast]
      exact⟨by omega,hQ.next k x b hq hl,(List.getElem?_eq_some_iff.1 hx).1⟩
    clear hnx hro
    generalize chS ins t k p=s at *
    have h46a:=fun H=>f46 regs s.way p hrl hs1 H
    have h46b:=fun H=>f46 regs s.la p hrl hs2 H
    have hml:∀ m:List Bool,m.length=18→(markL regs m p).length=18:=fun m hm=>by simp[markL,hrl,hm]
    have h45:=fun H=>f45 ins num pos p (markL regs s.la p) n (hml _ hs2) hn H
    have hge:(0≤(k:Int))=True:=eq_true (by omega)
    have hwi:IntKind.i64.wrap ((p:Int)+1)=((p+1:Nat):Int):=by rw[i64_in]<;>omega
    have w1:=zDL s.way hs1
    have w2:=zDL s.la hs2
    have w3:List.take 18 (regs.map I)=regs.map I:=List.take_of_length_le (by simp[hrl])
    have w4:=zAj s.way
    have w5:=zAj s.la
    have w6:(regs.map I).all AV.ok=true:=by simp[AV.ok]
    have w7:((markL regs s.way p).map I).all AV.ok=true:=by simp[AV.ok]
    have w8:=hml _ hs1
    have w9:=hml _ hs2
    have w10:(regs.map I).drop 18=[]:=List.drop_of_length_le (by simp[hrl])
    obtain⟨m1,m2,m3,hm⟩:∃ a b c,mat21 true pos n res=.agg [a,b,c]:=by cases res<;>exact⟨_,_,_,rfl⟩
    have hms:∀ x:AV,(match x with | .agg cs=>AV.agg cs|y=>y)=x:=fun x=>by cases x<;>rfl
    have hme:(if s.nx < 0 then 0 else t.length+2 - (p+1)) < (if(k:Int) < 0 then 0 else t.length+2 - p):=by rw[if_neg (show ¬ (k:Int) < 0 by omega)];split<;>omega
    have hle:t.length - p=t.length+1 - (p+1):=by omega
    rw[hle]at hr
    cases hd:s.dn with
    | true=>
      rw[hd]at h44 hr
      simp +contextual (disch:=omega) only[Tryd.f12,dd12,go_sem,simprocAttr,mu12,↓zAE,↓zAC,↓zAB,↓zAA,h44,h46a,h46b,h45,hge,hwi,w1,w2,w3,w4,w5,w6,w7,w8,w9,w10,hm,hrl,hs1,hs2,matAV,List.append_nil]
      refine⟨⟨s.nx,p+1,markL regs s.way p,some (p,markL regs s.la p)⟩,⟨w8,hnext,by simpa using hr⟩,hme,?_⟩
      exact zAV rfl rfl (hk4 ⟨s.nx,p+1,markL regs s.way p,some (p,markL regs s.la p)⟩) (hun ⟨s.nx,p+1,markL regs s.way p,some (p,markL regs s.la p)⟩) rfl
    | false=>
      rw[hd]at h44 hr
      simp +contextual (disch:=omega) only[Tryd.f12,dd12,go_sem,simprocAttr,mu12,↓zAE,↓zAC,↓zAB,↓zAA,h44,h46a,h46b,h45,hge,hwi,w1,w2,w3,w4,w5,w6,w7,w8,w9,w10,hrl,hs1,hs2,List.append_nil]
      refine⟨⟨s.nx,p+1,markL regs s.way p,res⟩,⟨w8,hnext,by simpa using hr⟩,hme,?_⟩
      exact zAV rfl rfl (hk4 ⟨s.nx,p+1,markL regs s.way p,res⟩) (hun ⟨s.nx,p+1,markL regs s.way p,res⟩) rfl
  ·exact zAV rfl rfl (hk4 ⟨0,pos,m18,none⟩) (hun ⟨0,pos,m18,none⟩) rfl
 ·rfl
end
end Go.Ev
set_option linter.unusedSectionVars false
namespace Go.Ev
def seqI (t:List Int):List Ins:=t.map (fun x=>(⟨1,0,0,0,[(x,x)]⟩:Ins))++[⟨0,0,0,0,[]⟩]
theorem zEs (t:List Int):(seqI t).length=t.length+1:=by simp[seqI]
theorem zE1 {t:List Int} {k:Nat} {x:Int} (h:t[k]?=some x):(seqI t)[k]?=some ⟨1,0,0,0,[(x,x)]⟩:=by
 have hk:=(List.getElem?_eq_some_iff.1 h).1
 rw[seqI,List.getElem?_append_left (by simpa using hk),List.getElem?_map,h]
 rfl
theorem zDF (t:List Int):(seqI t)[t.length]?=some ⟨0,0,0,0,[]⟩:=by
 rw[seqI,List.getElem?_append_right (by simp)]
 simp
theorem zJy {t:List Int} {k:Nat} (hk:k≤t.length):∃ i,(seqI t)[k]?=some i∧stopB i=true∧nexts i k=[]:=by
 by_cases h:k < t.length
 ·obtain⟨x,hx⟩:∃ x,t[k]?=some x:=⟨_,List.getElem?_eq_getElem h⟩
  exact⟨_,zE1 hx,by simp[stopB],by simp[nexts]⟩
 ·obtain rfl:k=t.length:=by omega
  exact⟨_,zDF t,by simp[stopB],by simp[nexts]⟩
theorem zIh {t:List Int} {k:Nat} (hk:k≤t.length):fromS (seqI t) k=⟨[k],[k],false⟩:=by
 obtain⟨i,hi,h1,h2⟩:=zJy hk
 unfold fromS
 rw[zBt (zGq _) rfl (by simp[w0S]) hi,h2,List.nil_append,zDg]
 simp[stepS,h1,w0S]
theorem zI9 {t:List Int} {k:Nat} (hk:k≤t.length):¬ ForkS (seqI t) k:=by
 have hf:=zIh hk
 rintro(h|h|h)
 ·rw[hf]at h;simp at h
 ·rw[zLo,hf]at h
  simp only at h
  have:([k]:List Nat).countP (dnB (seqI t))≤[k].length:=List.countP_le_length
  simp only[List.length_singleton]at this
  omega
 ·refine h ?_
  rw[zIv,hf]
  by_cases hr:rdB (seqI t) k=true
  ·simp only[List.filter_cons,hr,if_true,List.filter_nil,List.flatMap_cons,List.flatMap_nil,List.append_nil]
   by_cases hkl:k < t.length
   ·obtain⟨x,hx⟩:∃ x,t[k]?=some x:=⟨_,List.getElem?_eq_getElem hkl⟩
    simp[setI,zE1 hx]
   ·obtain rfl:k=t.length:=by omega
    simp[setI,zDF]
  ·simp[List.filter_cons,hr]
theorem zKa {t:List Int} {k:Nat} (hk:k≤t.length) (s:Int):leadS (seqI t) k s=if t[k]?=some s then some (k+1) else none:=by
 unfold leadS
 rw[zIh hk]
 by_cases hkl:k < t.length
 ·obtain⟨x,hx⟩:∃ x,t[k]?=some x:=⟨_,List.getElem?_eq_getElem hkl⟩
  have hb:leadB (seqI t) s k=decide (x=s):=by
   simp only[leadB,zE1 hx,hasSpan,List.any_cons,List.any_nil,Bool.or_false,decide_true,Bool.true_and]
   by_cases e:x=s
   ·subst e;simp
   ·rw[decide_eq_false e]
    simp
    omega
  rw[hx]
  by_cases e:x=s
  ·subst e
   simp[List.find?,hb]
  ·simp[List.find?,hb,e]
 ·obtain rfl:k=t.length:=by omega
  have hb:leadB (seqI t) s t.length=false:=by simp[leadB,zDF]
  simp[List.find?,hb]
theorem zIf {t:List Int} {syms:List Int} (hs:∀(k:Nat) (x:Int),t[k]?=some x→x∈syms):∀(f i:Nat) (xs:List RS),xs.map (·.st)=List.range (i+1)→i≤t.length→t.length < f+i →
  ∃ xs',srch (seqI t) syms f i xs=(xs',false)∧xs'.length=t.length+1
 | 0,i,xs,hx,hi,hf=>absurd hf (by omega)
 | f+1,i,xs,hx,hi,hf=>by
   have hxl:xs.length=i+1:=by
    have:=congrArg List.length hx
    simpa using this
   obtain⟨r,hr⟩:∃ r,xs[i]?=some r:=⟨_,List.getElem?_eq_getElem (by omega)⟩
   have hst:r.st=i:=by
    have:=congrArg (fun l:List Nat=>l[i]?) hx
    simp only[List.getElem?_map,hr,Option.map_some]at this
    rw[List.getElem?_range (by omega)]at this
    exact Option.some.inj this
   simp only[srch,hr]
   rw[if_neg (by rw[hst];exact zI9 hi)]
   have add:∀(l:List Int) (ys:List RS),(xs=ys∨ys.map (·.st)=List.range (i+2))→(xs=ys→∀ x,t[i]?=some x→x∈l) →
     (if i < t.length then(l.foldl (addS (seqI t) i r) ys).map (·.st)=List.range (i+2) else l.foldl (addS (seqI t) i r) ys=ys):=by
    intro l
    induction l with
    | nil=>
      intro ys h1 h2
      simp only[List.foldl_nil]
      split
      ·rename_i hil
       rcases h1 with h1|h1
       ·obtain⟨x,hx2⟩:∃ x,t[i]?=some x:=⟨_,List.getElem?_eq_getElem hil⟩
        have:=h2 h1 x hx2
        cases this
       ·exact h1
      ·trivial
    | cons s l ih=>
      intro ys h1 h2
      simp only[List.foldl_cons]
      have hl:=zKa hi s
      by_cases hil:i < t.length
      ·rw[if_pos hil]
       obtain⟨x,hx2⟩:∃ x,t[i]?=some x:=⟨_,List.getElem?_eq_getElem hil⟩
       have key:∀ zs,(xs=zs∨zs.map (·.st)=List.range (i+2))→(xs=zs→∀ x,t[i]?=some x→x∈l)→(l.foldl (addS (seqI t) i r) zs).map (·.st)=List.range (i+2):=fun zs a b=>by
        have:=ih zs a b
        rwa [if_pos hil]at this
       by_cases e:x=s
       ·subst e
        rcases h1 with rfl|h1
        ·have ha:addS (seqI t) i r xs x=xs++[⟨i+1,i,x,r.tx++[x]⟩]:=by
          unfold addS
          rw[hst,hl,if_pos hx2]
          simp only
          rw[if_neg (by rw[hx];simp)]
         rw[ha]
         refine key _ (.inr ?_) (fun e2=>?_)
         ·rw[List.map_append,hx]
          simp[List.range_succ]
         ·have:=congrArg List.length e2
          simp at this
        ·have ha:addS (seqI t) i r ys x=ys:=by
          unfold addS
          rw[hst,hl,if_pos hx2]
          simp only
          rw[if_pos (by rw[h1];simp)]
         rw[ha]
         refine key _ (.inr h1) (fun e2=>?_)
         rw[← e2,hx]at h1
         have:=congrArg List.length h1
         simp at this
       ·have ha:addS (seqI t) i r ys s=ys:=by
         unfold addS
         rw[hst,hl,if_neg (by rw[hx2];simp[e])]
        rw[ha]
        refine key _ h1 (fun e2 y hy=>?_)
        have h3:=h2 e2 y hy
        rcases List.mem_cons.1 h3 with rfl|h3
        ·rw[hx2]at hy;cases hy;exact absurd rfl e
        ·exact h3
      ·rw[if_neg hil]
       obtain rfl:i=t.length:=by omega
       have hn:t[t.length]?=none:=List.getElem?_eq_none (Nat.le_refl _)
       have:addS (seqI t) t.length r ys s=ys:=by
        unfold addS
        rw[hst,hl,hn]
        simp
       rw[this]
       have h3:=ih ys h1 (fun e2 y hy=>by rw[hn]at hy;cases hy)
       rwa [if_neg hil]at h3
   have h4:=add syms xs (.inl rfl) (fun _ x hx2=>hs i x hx2)
   by_cases hil:i < t.length
   ·rw[if_pos hil]at h4
    exact zIf hs f (i+1) _ h4 (by omega) (by omega)
   ·rw[if_neg hil]at h4
    rw[h4]
    obtain rfl:i=t.length:=by omega
    refine⟨xs,?_,hxl⟩
    cases f with
    | zero=>rfl
    | succ f=>
      simp only[srch]
      rw[List.getElem?_eq_none (by omega)]
theorem zKw {t o:List Int} {k:Nat} (hk:k≤t.length) (p:Nat) :
  (k=t.length→chS (seqI t) o k p = { CS0 with dn:=true,la:=m0S }) ∧
  (∀ x,t[k]?=some x→chS (seqI t) o k p=if o[p]?=some x then { CS0 with nx:=((k+1:Nat):Int),way:=m0S } else CS0):=by
 have hL:=zEs t
 constructor
 ·rintro rfl
  unfold chS
  rw[hL]
  simp only[runS,enC,zDF]
  simp[yiC,chY,zDF,CS0]
 ·intro x hx
  unfold chS
  rw[hL]
  have hat:=zE1 hx
  have hy:chY (seqI t) o p CS0 k m0S=if o[p]?=some x then { CS0 with nx:=((k+1:Nat):Int),way:=m0S } else CS0:=by
   simp only[chY,hat]
   rw[if_neg (by omega)]
   cases ho:o[p]? with
   | none=>simp
   | some y=>
     simp only[hasSpan,List.any_cons,List.any_nil,Bool.or_false]
     by_cases e:y=x
     ·subst e;simp
     ·have:¬ (x≤y∧y≤x):=by omega
      simp[e,this]
  have hdn:(if o[p]?=some x then({ CS0 with nx:=((k+1:Nat):Int),way:=m0S }:CS) else CS0).dn=false:=by split<;>rfl
  simp only[runS,enC,hat]
  simp only[yiC,hy,hdn]
  cases t.length<;>simp[runS]
theorem zJw {t o:List Int} (ho:o.length=t.length):∀(d k:Nat) (res:Option (Nat×List Int)),k+d=t.length→(∀ j,j < k→t[j]?=o[j]?) →
  runO (seqI t) o (d+1) k k m18 res=if t=o then some (t.length,m18) else res
 | 0,k,res,hk,hj=>by
   obtain rfl:k=t.length:=by omega
   have h1:=(zKw (t:=t) (o:=o) (Nat.le_refl _) t.length).1 rfl
   have e:t=o:=List.ext_getElem? fun j=>by
    rcases Nat.lt_or_ge j t.length with h|h
    ·exact hj j h
    ·rw[List.getElem?_eq_none h,List.getElem?_eq_none (by omega)]
   unfold runO
   rw[h1,if_pos e]
   simp[CS0,zD8,m18]
 | d+1,k,res,hk,hj=>by
   obtain⟨x,hx⟩:∃ x,t[k]?=some x:=⟨_,List.getElem?_eq_getElem (by omega)⟩
   have h1:=(zKw (t:=t) (o:=o) (k:=k) (by omega) k).2 x hx
   unfold runO
   rw[h1]
   by_cases e:o[k]?=some x
   ·rw[if_pos e]
    simp only[CS0,Int.toNat_natCast,Bool.false_eq_true,if_false]
    rw[if_neg (by omega),zD8 _ _ (by simp[m18])]
    exact zJw ho d (k+1) res (by omega) (fun j hjk=>by
     rcases Nat.lt_or_ge j k with h|h
     ·exact hj j h
     ·obtain rfl:j=k:=by omega
      rw[hx,e])
   ·rw[if_neg e]
    have hne:t≠o:=fun h=>e (by rw[← h];exact hx)
    rw[if_neg hne]
    simp[CS0]
end Go.Ev
namespace Go.Ev
attribute [local go_sem] evAppend evBuild splice List.length_append List.map_append
section
attribute [local go_sem] tySzE List.head?_drop Nat.mul_one zAN zAQ zAL zAO zAP zAU
open Go.Proofs Go.RowKit Go.IntWalk
set_option maxRecDepth 100000
set_option maxHeartbeats 4000000
theorem f102 (r:Bool) (H:List MB):call Tryd.prog pol1 35 [.bool r] H=some (I (if r then 1114111 else 255),H):=by
 cases r
 ·refine zAS Tryd.func35 rfl rfl rfl rfl rfl rfl (fun _=>rfl) (by simp[AV.plain,AV.plainL,zAF,zAG,zAH,zAI]) (by simp[AV.plain,AV.plainL,zAF,zAG,zAH,zAI]) ?_ H
  simp +contextual (disch:=omega) only[Tryd.f35,dd35,go_sem,simprocAttr,mu35,↓zAE,↓zAC,↓zAB,↓zAA]
  exact fzEq rfl rfl
 ·refine zAS Tryd.func35 rfl rfl rfl rfl rfl rfl (fun _=>rfl) (by simp[AV.plain,AV.plainL,zAF,zAG,zAH,zAI]) (by simp[AV.plain,AV.plainL,zAF,zAG,zAH,zAI]) ?_ H
  simp +contextual (disch:=omega) only[Tryd.f35,dd35,go_sem,simprocAttr,mu35,↓zAE,↓zAC,↓zAB,↓zAA]
  exact fzEq rfl rfl
theorem zLT {l:List (Int×Int)} {top:Int} {i:Nat} {p:Int×Int} (hp:l[i]?=some p) (h:p.1 < 0∨p.2 < p.1∨top < p.2):badS l top i=true:=by
 simp only[badS,hp]
 rcases h with h|h|h<;>simp[h]
theorem zKU {l:List (Int×Int)} {top:Int} {p:Int×Int} (hp:l[0]?=some p) (h:¬ (p.1 < 0∨p.2 < p.1∨top < p.2)):badS l top 0=false:=by
 have h1:¬ p.1 < 0:=fun e=>h (.inl e)
 have h2:¬ p.2 < p.1:=fun e=>h (.inr (.inl e))
 have h3:¬ top < p.2:=fun e=>h (.inr (.inr e))
 simp[badS,hp,h1,h2,h3]
theorem zKV {l:List (Int×Int)} {top:Int} {i:Nat} {p q:Int×Int} (hp:l[i+1]?=some p) (hq:l[i]?=some q) (h:¬ (p.1 < 0∨p.2 < p.1∨top < p.2)):badS l top (i+1)=decide (p.1 < q.2+2):=by
 have h1:¬ p.1 < 0:=fun e=>h (.inl e)
 have h2:¬ p.2 < p.1:=fun e=>h (.inr (.inl e))
 have h3:¬ top < p.2:=fun e=>h (.inr (.inr e))
 simp[badS,hp,hq,h1,h2,h3]
theorem zLU {l:List (Int×Int)} {top:Int} {i:Nat} {q:Int×Int} (hq:l[i]?=some q) (h:badS l top i=false):0≤q.1∧q.1≤q.2∧q.2≤top:=by
 simp only[badS,hq,Bool.or_eq_false_iff,decide_eq_false_iff_not]at h
 omega
theorem f131 (l:List (Int×Int)) (top:Int) (ht:top≤1114111) (hl:l.length≤1000000) (H:List MB):call Tryd.prog pol1 53 [.sl false (l.map spanAV),I top] H=some (.bool (spansG l top),H):=by
 refine zAS Tryd.func53 rfl rfl rfl rfl rfl rfl (fun _=>rfl) (by simp[AV.plain,AV.plainL,zAG]) rfl ?_ H
 by_cases h64:64 < l.length
 ·rw[zH2 h64]
  simp +contextual (disch:=omega) only[Tryd.f53,dd53,go_sem,simprocAttr,mu53,↓zAE,↓zAC,↓zAB,↓zAA]
  exact fzEq rfl rfl
 ·simp +contextual (disch:=omega) only[Tryd.f53,dd53,go_sem,simprocAttr,mu53,↓zAE,↓zAC,↓zAB,↓zAA]
  refine zAY (M:=(mskOf (pol1.mask 53) (pol1.gc 53) (pol1.acts 53) 0 4)) rfl l.length (fun i=>(⟨50,[(12,I i),(11,I l.length),(10,.sl false (l.map spanAV)),(1,I top),(0,.sl false (l.map spanAV))],[]⟩:St)) (fun i=>∀ k,k < i→badS l top k=false) ?_ ?_ (fun k h=>by omega) _ (by first|rfl|(refine zAV (n:=0) (m:=⟨some [12,11,10,1,0],some 0,[]⟩) rfl rfl ?_ ?_ ?_<;>first|rfl|(simp[keepT,AV.underL,AV.under,MB.under,zAD,zAK,zAJ,zAF,zAG,zAH,zAI,-List.map_take,-List.map_replicate,-List.map_set];done)|(simp[keepT,AV.underL,AV.under,MB.under,zAD,zAK,zAJ,zAF,zAG,zAH,zAI,-List.map_take,-List.map_replicate,-List.map_set];omega)))
  ·intro i hlt hg
   obtain⟨p,hp⟩:∃ p,l[i]?=some p:=⟨_,List.getElem?_eq_getElem hlt⟩
   have ext:badS l top i=false→∀ k,k < i+1→badS l top k=false:=fun h k hk=>by
    rcases Nat.lt_or_ge k i with h1|h1
    ·exact hg k h1
    ·obtain rfl:k=i:=by omega
     exact h
   by_cases hgd:p.1 < 0∨p.2 < p.1∨top < p.2
   ·rw[zFi hlt (zLT hp hgd)]
    have hgd':p.1 < 0∨(¬ p.1 < 0∧p.2 < p.1)∨(¬ p.1 < 0∧¬ p.2 < p.1∧top < p.2):=by omega
    rcases hgd' with h|⟨h,h'⟩|⟨h,h',h''⟩
    all_goals (
     simp +contextual (disch:=omega) only[Tryd.f53,dd53,go_sem,simprocAttr,mu53,↓zAE,↓zAC,↓zAB,↓zAA,hp,spanAV]
     repeat' (first|intro _|apply And.intro|(unfold dOk;kernel_rfl)|exact St.beq_refl _|(show altO _ _ _ _=true;kernel_rfl)|(show (_ || _)=true;kernel_rfl)|(show (_ && _)=true;kernel_rfl))
     all_goals exact fzEq rfl rfl)
   ·rcases i with _|i
    ·simp +contextual (disch:=omega) only[Tryd.f53,dd53,go_sem,simprocAttr,mu53,↓zAE,↓zAC,↓zAB,↓zAA,hp,spanAV]
     repeat' (first|intro _|apply And.intro|(unfold dOk;kernel_rfl)|exact St.beq_refl _|(show altO _ _ _ _=true;kernel_rfl)|(show (_ || _)=true;kernel_rfl)|(show (_ && _)=true;kernel_rfl))
     ·exact ext (zKU hp hgd) _ ‹_›
     ·exact(by first|rfl|(refine zAV (n:=0) (m:=⟨some [12,11,10,1,0],some 0,[]⟩) rfl rfl ?_ ?_ ?_<;>first|rfl|(simp[keepT,AV.underL,AV.under,MB.under,zAD,zAK,zAJ,zAF,zAG,zAH,zAI,-List.map_take,-List.map_replicate,-List.map_set];done)|(simp[keepT,AV.underL,AV.under,MB.under,zAD,zAK,zAJ,zAF,zAG,zAH,zAI,-List.map_take,-List.map_replicate,-List.map_set];omega)))
    ·obtain⟨q,hq⟩:∃ q,l[i]?=some q:=⟨_,List.getElem?_eq_getElem (by omega)⟩
     have hqb:=zLU hq (hg i (by omega))
     have hb:=zKV hp hq hgd
     by_cases h2:p.1 < q.2+2
     ·rw[zFi hlt (by rw[hb];simp[h2])]
      simp +contextual (disch:=omega) only[Tryd.f53,dd53,go_sem,simprocAttr,mu53,↓zAE,↓zAC,↓zAB,↓zAA,hp,hq,spanAV]
      repeat' (first|intro _|apply And.intro|(unfold dOk;kernel_rfl)|exact St.beq_refl _|(show altO _ _ _ _=true;kernel_rfl)|(show (_ || _)=true;kernel_rfl)|(show (_ && _)=true;kernel_rfl))
      all_goals exact fzEq rfl rfl
     ·simp +contextual (disch:=omega) only[Tryd.f53,dd53,go_sem,simprocAttr,mu53,↓zAE,↓zAC,↓zAB,↓zAA,hp,hq,spanAV]
      repeat' (first|intro _|apply And.intro|(unfold dOk;kernel_rfl)|exact St.beq_refl _|(show altO _ _ _ _=true;kernel_rfl)|(show (_ || _)=true;kernel_rfl)|(show (_ && _)=true;kernel_rfl))
      ·exact ext (by rw[hb];simp[h2]) _ ‹_›
      ·exact(by first|rfl|(refine zAV (n:=0) (m:=⟨some [12,11,10,1,0],some 0,[]⟩) rfl rfl ?_ ?_ ?_<;>first|rfl|(simp[keepT,AV.underL,AV.under,MB.under,zAD,zAK,zAJ,zAF,zAG,zAH,zAI,-List.map_take,-List.map_replicate,-List.map_set];done)|(simp[keepT,AV.underL,AV.under,MB.under,zAD,zAK,zAJ,zAF,zAG,zAH,zAI,-List.map_take,-List.map_replicate,-List.map_set];omega)))
  ·intro hg
   rw[zEx (by omega) hg]
   simp +contextual (disch:=omega) only[Tryd.f53,dd53,go_sem,simprocAttr,mu53,↓zAE,↓zAC,↓zAB,↓zAA]
   exact fzEq rfl rfl
end
section
attribute [local go_sem] tySzE List.head?_drop Nat.mul_one zAN zAQ zAL zAO zAP zAU
open Go.Proofs Go.RowKit Go.IntWalk
set_option maxRecDepth 100000
set_option maxHeartbeats 8000000
abbrev nodeL (op:Int) (set:List (Int×Int)) (kids:List Re) (mn mx md n:Int) (neg:Bool):List AV:=[I op,.sl false (set.map spanAV),.sl false (kids.map reAV),I mn,I mx,I md,I n,.bool neg]
theorem f132 (op:Int) (set:List (Int×Int)) (kids:List Re) (mn mx md n:Int) (neg:Bool) (H:List MB):call Tryd.prog pol1 54 [.pt (nodeL op set kids mn mx md n neg)] H=some (.bool (repG mn mx md),H):=by
 refine zAS Tryd.func54 rfl rfl rfl rfl rfl rfl (fun _=>rfl) (by simp[AV.plain,AV.plainL,zAG,zAp]) rfl ?_ H
 by_cases h:mn < 0∨32 < mn∨md < 0∨2 < md
 ·have e:repG mn mx md=false:=by
   simp only[repG,Bool.and_eq_false_iff,decide_eq_false_iff_not]
   omega
  rw[e]
  have h':mn < 0∨(¬ mn < 0∧32 < mn)∨(¬ mn < 0∧¬ 32 < mn∧md < 0)∨(¬ mn < 0∧¬ 32 < mn∧¬ md < 0∧2 < md):=by omega
  rcases h' with h|⟨h,h1⟩|⟨h,h1,h2⟩|⟨h,h1,h2,h3⟩
  all_goals (
   simp +contextual (disch:=omega) only[Tryd.f54,dd54,go_sem,simprocAttr,mu54,↓zAE,↓zAC,↓zAB,↓zAA]
   repeat' (first|intro _|apply And.intro|(unfold dOk;kernel_rfl)|exact St.beq_refl _|(show altO _ _ _ _=true;kernel_rfl)|(show (_ || _)=true;kernel_rfl)|(show (_ && _)=true;kernel_rfl))
   all_goals exact fzEq rfl rfl)
 ·have e:repG mn mx md=(mx == -1 || (decide (1≤mx) && decide (mx≤32) && decide (mn≤mx))):=by
   have h1:0≤mn:=by omega
   have h2:mn≤32:=by omega
   have h3:0≤md:=by omega
   have h4:md≤2:=by omega
   simp[repG,h1,h2,h3,h4]
  rw[e]
  simp +contextual (disch:=omega) only[Tryd.f54,dd54,go_sem,simprocAttr,mu54,↓zAE,↓zAC,↓zAB,↓zAA]
  repeat' (first|intro _|apply And.intro|(unfold dOk;kernel_rfl)|exact St.beq_refl _|(show altO _ _ _ _=true;kernel_rfl)|(show (_ || _)=true;kernel_rfl)|(show (_ && _)=true;kernel_rfl))
  all_goals (first|exact fzEq rfl rfl|refine fzEq rfl (congrArg AV.bool ?_))
  all_goals (rw[Bool.eq_iff_iff];simp<;>omega)
theorem zMO (caps top:Int) (ht:top≤1114111) (op:Int) (set:List (Int×Int)) (kids:List Re) (mn mx md n:Int) (neg:Bool) (hs:set.length≤1000000) (hk:kids.length≤1000000) (H:List MB) :
  call Tryd.prog pol1 37 [.pt (nodeL op set kids mn mx md n neg),I caps,I top] H=some (.bool (formedG caps top (.mk op set kids mn mx md n neg)),H):=by
 refine zAS Tryd.func37 rfl rfl rfl rfl rfl rfl (fun _=>rfl) (by simp[AV.plain,AV.plainL,zAG,zAp]) rfl ?_ H
 have h131:=f131 set top ht hs
 have h132:=f132 op set kids mn mx md n neg
 by_cases h0:op < 0∨11 < op
 ·have e:formedG caps top (.mk op set kids mn mx md n neg)=false:=by
   have:¬ (0≤op∧op≤11):=by omega
   simp only[formedG,Bool.and_eq_false_iff,decide_eq_false_iff_not]
   omega
  rw[e]
  simp +contextual (disch:=omega) only[Tryd.f37,dd37,go_sem,simprocAttr,mu37,↓zAE,↓zAC,↓zAB,↓zAA,h131,h132]
  repeat' (first|intro _|apply And.intro|(unfold dOk;kernel_rfl)|exact St.beq_refl _|(show altO _ _ _ _=true;kernel_rfl)|(show (_ || _)=true;kernel_rfl)|(show (_ && _)=true;kernel_rfl))
  all_goals exact fzEq rfl rfl
 have hop:op=1∨op=4∨op=0∨op=2∨op=3∨op=5∨op=6∨op=7∨op=8∨op=9∨op=10∨op=11:=by omega
 clear h0
 rcases hop with rfl|rfl|rfl|rfl|rfl|rfl|rfl|rfl|rfl|rfl|rfl|rfl
 ·cases hsp:spansG set top
  all_goals (
   rw[hsp]at h131
   simp +contextual (disch:=omega) only[Tryd.f37,dd37,go_sem,simprocAttr,mu37,↓zAE,↓zAC,↓zAB,↓zAA,h131,h132]
   repeat' (first|intro _|apply And.intro|(unfold dOk;kernel_rfl)|exact St.beq_refl _|(show altO _ _ _ _=true;kernel_rfl)|(show (_ || _)=true;kernel_rfl)|(show (_ && _)=true;kernel_rfl))
   all_goals (clear h131 h132;refine fzEq rfl (congrArg AV.bool ?_);first|(simp_all [formedG,kidsG];done)|(simp_all [formedG,kidsG];omega)))
 ·cases hrp:repG mn mx md
  all_goals (
   rw[hrp]at h132
   simp +contextual (disch:=omega) only[Tryd.f37,dd37,go_sem,simprocAttr,mu37,↓zAE,↓zAC,↓zAB,↓zAA,h131,h132]
   repeat' (first|intro _|apply And.intro|(unfold dOk;kernel_rfl)|exact St.beq_refl _|(show altO _ _ _ _=true;kernel_rfl)|(show (_ || _)=true;kernel_rfl)|(show (_ && _)=true;kernel_rfl))
   all_goals (clear h131 h132;refine fzEq rfl (congrArg AV.bool ?_);first|(simp_all [formedG,kidsG];done)|(simp_all [formedG,kidsG];omega)))
 all_goals (
  simp +contextual (disch:=omega) only[Tryd.f37,dd37,go_sem,simprocAttr,mu37,↓zAE,↓zAC,↓zAB,↓zAA,h131,h132]
  repeat' (first|intro _|apply And.intro|(unfold dOk;kernel_rfl)|exact St.beq_refl _|(show altO _ _ _ _=true;kernel_rfl)|(show (_ || _)=true;kernel_rfl)|(show (_ && _)=true;kernel_rfl))
  all_goals (clear h131 h132;refine fzEq rfl (congrArg AV.bool ?_);first|(simp_all [formedG,kidsG,repG];done)|(simp_all [formedG,kidsG,repG];omega)))
end
section
attribute [local go_sem] tySzE List.head?_drop Nat.mul_one zAN zAQ zAL zAO zAP zAU
open Go.Proofs Go.RowKit Go.IntWalk
set_option maxRecDepth 100000
set_option maxHeartbeats 8000000
theorem zDq:∀ {l:List Re} {k:Re},k∈l→nullG k=false→nullAll l=false
 | x::l,k,h,hk=>by
   rcases List.mem_cons.1 h with e|e
   ·rw[← e];simp[nullAll,hk]
   ·simp[nullAll,zDq e hk]
theorem zEO:∀ {l:List Re},(∀(i:Nat) (k:Re),i < l.length→l[i]?=some k→nullG k=true)→nullAll l=true
 | [],_=>by simp[nullAll]
 | x::l,h=>by
   simp only[nullAll,Bool.and_eq_true]
   exact⟨h 0 x (by simp) rfl,zEO fun i k hi hk=>h (i+1) k (by simp;omega) (by simpa using hk)⟩
theorem zC0:∀ {l:List Re} {k:Re},k∈l→nullG k=true→nullAny l=true
 | x::l,k,h,hk=>by
   rcases List.mem_cons.1 h with e|e
   ·rw[← e];simp[nullAny,hk]
   ·simp[nullAny,zC0 e hk]
theorem zDp:∀ {l:List Re},(∀(i:Nat) (k:Re),i < l.length→l[i]?=some k→nullG k=false)→nullAny l=false
 | [],_=>by simp[nullAny]
 | x::l,h=>by
   simp only[nullAny,Bool.or_eq_false_iff]
   exact⟨h 0 x (by simp) rfl,zDp fun i k hi hk=>h (i+1) k (by simp;omega) (by simpa using hk)⟩
end
section
attribute [local go_sem] tySzE List.head?_drop Nat.mul_one zAN zAQ zAL zAO zAP zAU
open Go.Proofs Go.RowKit Go.IntWalk
set_option maxRecDepth 100000
set_option maxHeartbeats 8000000
theorem zAt {caps top op:Int} {set:List (Int×Int)} {kids:List Re} {mn mx md n:Int} {neg:Bool} (h:wholeG caps top (.mk op set kids mn mx md n neg)=true) :
  (∀ k∈kids,wholeG caps top k=true)∧kidsG op kids.length=true∧(op=4→repG mn mx md=true)∧(op=5∨op=6∨op=10→1≤n∧n≤caps)∧0≤op∧op≤11:=by
 rw[wholeG,Bool.and_eq_true,zD3]at h
 obtain⟨h1,h2⟩:=h
 simp only[formedG,Bool.and_eq_true,decide_eq_true_eq]at h1
 obtain⟨⟨⟨⟨⟨⟨a1,a2⟩,a3⟩,a4⟩,a5⟩,a6⟩,a7⟩:=h1
 refine⟨h2,a3,fun e=>?_,fun e=>?_,a1,a2⟩
 ·rw[if_pos e]at a5;exact a5
 ·rw[if_pos e]at a6;simpa using a6
theorem f133 (b0:MB) (caps top:Int):∀(N:Nat) (r:Re),r.wt≤N→r.wt≤1000000→wholeG caps top r=true→call Tryd.prog pol1 55 [.pt (reC r),.rf 1 1 0 0] [b0,.row 1 [.clo 55 [.rf 1 1 0 0]] 0]=some (.bool (nullG r),[b0,.row 1 [.clo 55 [.rf 1 1 0 0]] 0])
 | 0,r,h,_,_=>by have:=r.wt_pos;omega
 | N+1,.mk op set kids mn mx md n neg,h,hN,hw=>by
   have hkl:=Re.wtL_len kids
   have hwt:1+set.length+Re.wtL kids=(Re.mk op set kids mn mx md n neg).wt:=by simp[Re.wt]
   obtain⟨hwk,hkd,hrp,_,ho1,ho2⟩:=zAt hw
   have ih:=fun k (hk:k∈kids)=>f133 b0 caps top N k (by have:=Re.wtL_mem hk;omega) (by have:=Re.wtL_mem hk;omega) (hwk k hk)
   rw[show (.pt (reC (.mk op set kids mn mx md n neg)):AV)=.pt (nodeL op set kids mn mx md n neg) from congrArg AV.pt zFn]
   have fr:frzArgs pol1 55 0 [.pt (nodeL op set kids mn mx md n neg),.rf 1 1 0 0] [b0,.row 1 [.clo 55 [.rf 1 1 0 0]] 0]=some ([.pt (nodeL op set kids mn mx md n neg),.rf 1 1 0 0],[b0,.row 1 [.clo 55 [.rf 1 1 0 0]] 0]):=
    zAa _ _ _ (by simp[mixOk,show pol1.byref 55 1=true from rfl,AV.plain,AV.plainL,zAG,zAp])
   have rt:∀ x:Bool,retPol pol1 55 [b0,.row 1 [.clo 55 [.rf 1 1 0 0]] 0] (.bool x) [b0,.row 1 [.clo 55 [.rf 1 1 0 0]] 0]=some (.bool x,[b0,.row 1 [.clo 55 [.rf 1 1 0 0]] 0]):=fun x=>
    zAf rfl rfl rfl (by simp[keptOk,MB.beq_refl]) rfl
   refine zAg (pol:=pol1) Tryd.func55 rfl rfl rfl rfl fr ?_
   have any:∀ r':Bool,r' = nullAny kids→∀ i,i < kids.length→∀ k,kids[i]?=some k→(∀ j q,j < i→kids[j]?=some q→nullG q=false)→nullG k=true→r' = true:=fun r' hr i _ k hk _ hn=>by rw[hr,zC0 (List.mem_of_getElem? hk) hn]
   have hop:op=0∨op=1∨op=2∨op=3∨op=4∨op=5∨op=6∨op=7∨op=8∨op=9∨op=10∨op=11:=by omega
   have hone:op=4∨op=5∨op=9→nullHd kids=nullAny kids:=fun e=>by
    have:kids.length=1:=by rcases e with rfl|rfl|rfl<;>simpa [kidsG] using hkd
    match kids,this with
    | [k],_=>simp[nullHd,nullAny]
   by_cases hloop:op=3∨op=10∨op=5∨op=9∨(op=4∧mn≠0)
   ·have hres:nullG (.mk op set kids mn mx md n neg)=nullAny kids:=by
     rw[nullG]
     rcases hloop with rfl|rfl|rfl|rfl|⟨rfl,hmn⟩
     ·simp
     ·simp
     ·simp[hone (.inr (.inl rfl))]
     ·simp[hone (.inr (.inr rfl))]
     ·have hr:=hrp rfl
      simp only[repG,Bool.and_eq_true,decide_eq_true_eq]at hr
      have:¬ mn≤0:=by omega
      simp[hone (.inl rfl),this]
    rw[hres]
    clear hres hone any
    rcases hloop with rfl|rfl|rfl|rfl|⟨rfl,hmn⟩
    all_goals (
     simp +contextual (disch:=omega) only[Tryd.f55,dd55,go_sem,simprocAttr,mu55,↓zAE,↓zAC,↓zAB,↓zAA]
     refine zAY (M:=(mskOf (pol1.mask 55) (pol1.gc 55) (pol1.acts 55) 0 25)) rfl kids.length (fun i=>(⟨65,[(53,I i),(52,I kids.length),(1,.rf 1 1 0 0),(0,.pt (nodeL _ set kids mn mx md n neg))],[b0,.row 1 [.clo 55 [.rf 1 1 0 0]] 0]⟩:St)) (fun i=>∀ j k,j < i→kids[j]?=some k→nullG k=false) ?_ ?_ (fun j k h=>by omega) _ rfl
     ·intro i hi hg
      obtain⟨k,hk⟩:∃ k,kids[i]?=some k:=⟨_,List.getElem?_eq_getElem hi⟩
      have ihk:=ih k (List.mem_of_getElem? hk)
      have hl8:=zA1 k
      have ht8:=zBS k
      cases hn:nullG k with
      | true=>
        rw[hn]at ihk
        rw[zC0 (List.mem_of_getElem? hk) hn]
        simp +contextual (disch:=omega) only[Tryd.f55,dd55,go_sem,simprocAttr,mu55,↓zAE,↓zAC,↓zAB,↓zAA,hk,ihk,hl8,ht8,rt]
        repeat' (first|intro _|apply And.intro|(unfold dOk;kernel_rfl)|exact St.beq_refl _|(show altO _ _ _ _=true;kernel_rfl)|(show (_ || _)=true;kernel_rfl)|(show (_ && _)=true;kernel_rfl))
      | false=>
        rw[hn]at ihk
        simp +contextual (disch:=omega) only[Tryd.f55,dd55,go_sem,simprocAttr,mu55,↓zAE,↓zAC,↓zAB,↓zAA,hk,ihk,hl8,ht8]
        repeat' (first|intro _|apply And.intro|(unfold dOk;kernel_rfl)|exact St.beq_refl _|(show altO _ _ _ _=true;kernel_rfl)|(show (_ || _)=true;kernel_rfl)|(show (_ && _)=true;kernel_rfl))
        ·rename_i j q hj hq
         rcases Nat.lt_or_ge j i with h|h
         ·exact hg j q h hq
         ·obtain rfl:j=i:=by omega
          rw[hk]at hq;obtain rfl:=Option.some.inj hq
          exact hn
        ·rfl
     ·intro hg
      rw[zDp fun j k hj hk=>hg j k hj hk]
      simp +contextual (disch:=omega) only[Tryd.f55,dd55,go_sem,simprocAttr,mu55,↓zAE,↓zAC,↓zAB,↓zAA,rt])
   ·clear any hone
    have hop:op=2∨op=1∨(op=4∧mn=0)∨op=0∨op=6∨op=7∨op=8∨op=11:=by omega
    clear hloop
    rcases hop with rfl|hop
    ·rw[nullG,if_neg (by omega),if_pos rfl]
     simp +contextual (disch:=omega) only[Tryd.f55,dd55,go_sem,simprocAttr,mu55,↓zAE,↓zAC,↓zAB,↓zAA]
     refine zAY (M:=(mskOf (pol1.mask 55) (pol1.gc 55) (pol1.acts 55) 0 11)) rfl kids.length (fun i=>(⟨65,[(23,I i),(22,I kids.length),(1,.rf 1 1 0 0),(0,.pt (nodeL _ set kids mn mx md n neg))],[b0,.row 1 [.clo 55 [.rf 1 1 0 0]] 0]⟩:St)) (fun i=>∀ j k,j < i→kids[j]?=some k→nullG k=true) ?_ ?_ (fun j k h=>by omega) _ rfl
     ·intro i hi hg
      obtain⟨k,hk⟩:∃ k,kids[i]?=some k:=⟨_,List.getElem?_eq_getElem hi⟩
      have ihk:=ih k (List.mem_of_getElem? hk)
      have hl8:=zA1 k
      have ht8:=zBS k
      cases hn:nullG k with
      | false=>
        rw[hn]at ihk
        rw[zDq (List.mem_of_getElem? hk) hn]
        simp +contextual (disch:=omega) only[Tryd.f55,dd55,go_sem,simprocAttr,mu55,↓zAE,↓zAC,↓zAB,↓zAA,hk,ihk,hl8,ht8,rt]
        repeat' (first|intro _|apply And.intro|(unfold dOk;kernel_rfl)|exact St.beq_refl _|(show altO _ _ _ _=true;kernel_rfl)|(show (_ || _)=true;kernel_rfl)|(show (_ && _)=true;kernel_rfl))
      | true=>
        rw[hn]at ihk
        simp +contextual (disch:=omega) only[Tryd.f55,dd55,go_sem,simprocAttr,mu55,↓zAE,↓zAC,↓zAB,↓zAA,hk,ihk,hl8,ht8]
        repeat' (first|intro _|apply And.intro|(unfold dOk;kernel_rfl)|exact St.beq_refl _|(show altO _ _ _ _=true;kernel_rfl)|(show (_ || _)=true;kernel_rfl)|(show (_ && _)=true;kernel_rfl))
        ·rename_i j q hj hq
         rcases Nat.lt_or_ge j i with h|h
         ·exact hg j q h hq
         ·obtain rfl:j=i:=by omega
          rw[hk]at hq;obtain rfl:=Option.some.inj hq
          exact hn
        ·rfl
     ·intro hg
      rw[zEO fun j k hj hk=>hg j k hj hk]
      simp +contextual (disch:=omega) only[Tryd.f55,dd55,go_sem,simprocAttr,mu55,↓zAE,↓zAC,↓zAB,↓zAA,rt]
    ·have hres:nullG (.mk op set kids mn mx md n neg)=(if op=1 then false else true):=by
      rw[nullG]
      rcases hop with rfl|⟨rfl,rfl⟩|rfl|rfl|rfl|rfl|rfl<;>simp
     rw[hres]
     rcases hop with rfl|⟨rfl,rfl⟩|rfl|rfl|rfl|rfl|rfl
     all_goals (
      first|rw[if_pos rfl]|rw[if_neg (by omega)]
      simp +contextual (disch:=omega) only[Tryd.f55,dd55,go_sem,simprocAttr,mu55,↓zAE,↓zAC,↓zAB,↓zAA,rt])
theorem zMN (r:Re) (hN:r.wt≤1000000) (caps top:Int) (hw:wholeG caps top r=true) (H:List MB):call Tryd.prog pol1 38 [reAV r] H=some (.bool (nullG r),H):=by
 refine zAS Tryd.func38 rfl rfl rfl rfl rfl rfl (fun _=>rfl) (by simp[AV.plain,AV.plainL,zA8]) rfl ?_ H
 have hz:fz (.rf 0 1 0 0) [.row 8 [.agg (reC r)] 0]=some (.pt (reC r),[.row 8 [.agg (reC r)] 1]):=zKk (x:=.agg (reC r)) (k:=8) (z:=0) rfl rfl rfl (zA8 r)
 have hc:=fun b0=>f133 b0 caps top r.wt r (Nat.le_refl _) hN hw
 have hl8:=zA1 r
 have hal:=zJ2 r
 simp +contextual (disch:=omega) only[Tryd.f38,dd38,go_sem,simprocAttr,mu38,↓zAE,↓zAC,↓zAB,↓zAA,hl8,hz,hc,hal,lookD,look]
 exact fzEq rfl rfl
end
section
attribute [local go_sem] tySzE List.head?_drop Nat.mul_one zAN zAQ zAL zAO zAP zAU
open Go.Proofs Go.RowKit Go.IntWalk
set_option maxRecDepth 100000
set_option maxHeartbeats 8000000
mutual
def lenG:Re→Nat
 | .mk op set kids mn mx md n neg=>
   if op=1∨op=11 then 1 else if op=3 then lenL kids+2 * (kids.length - 1) else if op=5 then lenL kids+2
   else if op=4 then(if mx = -1 then(mn.toNat+1) * lenL kids+2 else mx.toNat * lenL kids+(mx.toNat - mn.toNat)) else lenL kids
def lenL:List Re→Nat
 | []=>0
 | k::ks=>lenG k+lenL ks
end
theorem zDT:∀(a b:List Re),lenL (a++b)=lenL a+lenL b
 | [],b=>by simp[lenL]
 | k::ks,b=>by simp[lenL,zDT ks b,Nat.add_assoc]
theorem zDr {l:List Re} {i:Nat} {k:Re} (h:l[i]?=some k):lenL (l.take (i+1))=lenL (l.take i)+lenG k:=by
 rw[List.take_add_one,h,zDT];simp[lenL]
theorem f50 (caps top:Int):∀(N:Nat) (r:Re),r.wt≤N→r.wt≤1000000→wholeG caps top r=true→∀ H,call Tryd.prog pol1 22 [.pt (reC r)] H=some (I ((min (lenG r) 8193:Nat):Int),H)
 | 0,r,h,_,_,_=>by have:=r.wt_pos;omega
 | N+1,.mk op set kids mn mx md n neg,h,hN,hw,H=>by
   have hkl:=Re.wtL_len kids
   have hwt:1+set.length+Re.wtL kids=(Re.mk op set kids mn mx md n neg).wt:=by simp[Re.wt]
   obtain⟨hwk,hkd,hrp,_,ho1,ho2⟩:=zAt hw
   have ih:=fun k (hk:k∈kids)=>f50 caps top N k (by have:=Re.wtL_mem hk;omega) (by have:=Re.wtL_mem hk;omega) (hwk k hk)
   rw[show (.pt (reC (.mk op set kids mn mx md n neg)):AV)=.pt (nodeL op set kids mn mx md n neg) from congrArg AV.pt zFn]
   refine zAS Tryd.func22 rfl rfl rfl rfl rfl rfl (fun _=>rfl) (by simp[AV.plain,AV.plainL,zAG,zAp]) rfl ?_ H
   simp +contextual (disch:=omega) only[Tryd.f22,dd22,go_sem,simprocAttr,mu22,↓zAE,↓zAC,↓zAB,↓zAA]
   refine zAY (M:=(mskOf (pol1.mask 22) (pol1.gc 22) (pol1.acts 22) 0 3)) rfl kids.length (fun i=>(⟨81,[(11,I i),(10,I kids.length),(3,I ((min (lenL (kids.take i)) 8193:Nat):Int)),(0,.pt (nodeL op set kids mn mx md n neg))],[]⟩:St)) (fun _=>True) ?_ ?_ trivial _ (by first|rfl|(simp[keepT,AV.underL,AV.under,MB.under,zAD,zAK,zAJ,zAF,zAG,zAH,zAI,-List.map_take,-List.map_replicate,-List.map_set,lenL,zAp];done))
   ·intro i hi _
    obtain⟨k,hk⟩:∃ k,kids[i]?=some k:=⟨_,List.getElem?_eq_getElem hi⟩
    have ihk:=ih k (List.mem_of_getElem? hk)
    have hl8:=zA1 k
    have ht8:=zBS k
    have e1:=zDr hk
    have hm:(if(8193:Int) < ((min (lenL (kids.take i)) 8193:Nat):Int)+((min (lenG k) 8193:Nat):Int) then(8193:Int) else((min (lenL (kids.take i)) 8193:Nat):Int)+((min (lenG k) 8193:Nat):Int))=((min (lenL (kids.take (i+1))) 8193:Nat):Int):=by
     rw[e1];split<;>omega
    simp +contextual (disch:=omega) only[Tryd.f22,dd22,go_sem,simprocAttr,mu22,↓zAE,↓zAC,↓zAB,↓zAA,hk,ihk,evMin,hm,hl8,ht8]
    exact(by first|rfl|(simp[keepT,AV.underL,AV.under,MB.under,zAD,zAK,zAJ,zAF,zAG,zAH,zAI,-List.map_take,-List.map_replicate,-List.map_set,zAp];done))
   ·intro _
    rw[List.take_length]
    have hop:op=0∨op=1∨op=2∨op=3∨op=4∨op=5∨op=6∨op=7∨op=8∨op=9∨op=10∨op=11:=by omega
    rw[lenG]
    generalize lenL kids=L at *
    by_cases h1:op=1∨op=11
    ·rw[if_pos h1]
     rcases h1 with rfl|rfl
     all_goals (
      simp +contextual (disch:=omega) only[Tryd.f22,dd22,go_sem,simprocAttr,mu22,↓zAE,↓zAC,↓zAB,↓zAA,evMin]
      exact fzEq rfl rfl)
    rw[if_neg h1]
    by_cases h3:op=3
    ·subst h3
     rw[if_pos rfl]
     have hk2:2≤kids.length:=by simpa [kidsG] using hkd
     have hw1:IntKind.i64.wrap (((kids.length:Nat):Int) - 1)=((kids.length - 1:Nat):Int):=zAB ⟨by omega,by omega⟩
     simp +contextual (disch:=omega) only[Tryd.f22,dd22,go_sem,simprocAttr,mu22,↓zAE,↓zAC,↓zAB,↓zAA,evMin]
     refine fzEq rfl (congrArg (AV.int .i64) ?_)
     split<;>omega
    rw[if_neg h3]
    by_cases h5:op=5
    ·subst h5
     rw[if_pos rfl]
     simp +contextual (disch:=omega) only[Tryd.f22,dd22,go_sem,simprocAttr,mu22,↓zAE,↓zAC,↓zAB,↓zAA,evMin]
     refine fzEq rfl (congrArg (AV.int .i64) ?_)
     split<;>omega
    rw[if_neg h5]
    by_cases h4:op=4
    ·subst h4
     rw[if_pos rfl]
     have hr:=hrp rfl
     simp only[repG,Bool.and_eq_true,Bool.or_eq_true,decide_eq_true_eq,beq_iff_eq]at hr
     obtain⟨mn',rfl⟩:∃ m:Nat,mn=m:=⟨mn.toNat,by omega⟩
     have hmn:mn'≤32:=by omega
     have hmul:∀ a:Nat,a≤33→a * (min L 8193)≤33 * 8193:=fun a ha=>Nat.mul_le_mul ha (by omega)
     have hml:=hmul mn' (by omega)
     have hc1:(mn':Int) * ((min L 8193:Nat):Int)=((mn' * min L 8193:Nat):Int):=by simp
     by_cases hmx:mx = -1
     ·subst hmx
      rw[if_pos rfl]
      simp +contextual (disch:=omega) only[Tryd.f22,dd22,go_sem,simprocAttr,mu22,↓zAE,↓zAC,↓zAB,↓zAA,evMin,hc1]
      refine fzEq rfl (congrArg (AV.int .i64) ?_)
      rw[Nat.succ_mul]
      by_cases hL:L≤8193
      ·rw[Nat.min_eq_left hL]at *
       split<;>omega
      ·have hle:L≤mn' * L+L:=Nat.le_add_left _ _
       rw[Nat.min_eq_right (by omega)]at *
       split<;>omega
     ·rw[if_neg hmx]
      obtain⟨mx',rfl⟩:∃ m:Nat,mx=m:=⟨mx.toNat,by omega⟩
      obtain⟨e,rfl⟩:∃ e,mx' = mn' + e:=⟨mx' - mn',by omega⟩
      have hsub:((mn' + e:Nat):Int) - (mn':Int)=(e:Int):=by omega
      have hme:e * (min L 8193+1)≤33 * 8194:=Nat.mul_le_mul (by omega) (by omega)
      have hc2:(e:Int) * ((min L 8193+1:Nat):Int)=((e * (min L 8193+1):Nat):Int):=by simp
      have hnn:mn' + e - mn' = e:=by omega
      simp +contextual (disch:=omega) only[Tryd.f22,dd22,go_sem,simprocAttr,mu22,↓zAE,↓zAC,↓zAB,↓zAA,evMin,hc1,hc2,hnn,hsub]
      refine⟨by unfold dOk;kernel_rfl,?_⟩
      refine fzEq rfl (congrArg (AV.int .i64) ?_)
      rw[Nat.mul_add,Nat.add_mul,Nat.mul_one]at *
      by_cases hL:L≤8193
      ·rw[Nat.min_eq_left hL]at *
       split<;>omega
      ·rw[Nat.min_eq_right (by omega)]at *
       have h1:mn' = 0∨L≤mn' * L:=by
        rcases Nat.eq_zero_or_pos mn' with h|h
        ·exact .inl h
        ·exact .inr (Nat.le_mul_of_pos_left _ h)
       have h2:e=0∨L≤e * L:=by
        rcases Nat.eq_zero_or_pos e with h|h
        ·exact .inl h
        ·exact .inr (Nat.le_mul_of_pos_left _ h)
       split<;>omega
    rw[if_neg h4]
    simp +contextual (disch:=omega) only[Tryd.f22,dd22,go_sem,simprocAttr,mu22,↓zAE,↓zAC,↓zAB,↓zAA,evMin]
    refine fzEq rfl (congrArg (AV.int .i64) ?_)
    split<;>omega
end
end Go.Ev
