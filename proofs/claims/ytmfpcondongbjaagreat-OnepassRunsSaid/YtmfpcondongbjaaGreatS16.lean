/- A run that each symbol leads, and the first result of the ways: plain. -/
import Derived.Test.YtmfpcondongbjaaGreatS15
import Derived.Test.YtmfpcondongbjaaGreatS07
import Derived.Test.YtmfpcondongbjaaGreatS14
import Derived.Test.YtmfpcondongbjaaGreatS08
set_option linter.unusedVariables false
set_option linter.unusedSimpArgs false
set_option linter.unusedSectionVars false
namespace Go.Ev
def Ends (p:Prog1) (S:List Way) (r:Option (Nat×List Int)) (n:Nat):Prop:=
 ∃ n',n'≤n∧(match r with
   | some x=>∃ pc,∀ rest fuel,runW p 1 (n' + fuel) (S++rest) []=some [⟨pc,x.1,x.2⟩]
   | none=>∀ rest fuel,runW p 1 (n' + fuel) (S++rest) []=runW p 1 fuel rest [])
theorem Ends.nil (p:Prog1) (n:Nat):Ends p [] none n:=⟨0,Nat.zero_le _,fun rest fuel=>by simp⟩
theorem Ends.mono {p:Prog1} {S:List Way} {r:Option (Nat×List Int)} {n m:Nat} (h:Ends p S r n) (hm:n≤m):Ends p S r m:=by
 obtain⟨n',h1,h2⟩:=h
 exact⟨n',Nat.le_trans h1 hm,h2⟩
theorem Ends.fst {p:Prog1} {S T:List Way} {x:Nat×List Int} {n:Nat} (h:Ends p S (some x) n):Ends p (S++T) (some x) n:=by
 obtain⟨n',h1,pc,h2⟩:=h
 exact⟨n',h1,pc,fun rest fuel=>by rw[List.append_assoc];exact h2 _ _⟩
theorem Ends.app {p:Prog1} {S T:List Way} {r:Option (Nat×List Int)} {n m:Nat} (h:Ends p S none n) (g:Ends p T r m):Ends p (S++T) r (n+m):=by
 obtain⟨n',h1,h2⟩:=h
 obtain⟨m',g1,g2⟩:=g
 refine⟨n' + m',by omega,?_⟩
 cases r with
 | none=>exact fun rest fuel=>by rw[List.append_assoc,Nat.add_assoc,h2,g2]
 | some x=>
   obtain⟨pc,g2⟩:=g2
   exact⟨pc,fun rest fuel=>by rw[List.append_assoc,Nat.add_assoc,h2,g2]⟩
theorem Ends.or {p:Prog1} {S T:List Way} {r q:Option (Nat×List Int)} {n m:Nat} (h:Ends p S r n) (g:Ends p T q m):Ends p (S++T) (r.or q) (n+m):=by
 cases r with
 | none=>exact h.app g
 | some x=>exact(h.fst (T:=T)).mono (by omega)
theorem runW_one {p:Prog1} {fuel:Nat} {rest:List Way} {w:Way}:runW p 1 fuel rest [w]=some [w]:=by
 cases rest with
 | nil=>unfold runW;rfl
 | cons v rest=>unfold runW;simp
theorem Ends.done {p:Prog1} {w:Way} {S:List Way} {n:Nat} (hs:stepW p w=.done) (hn:1≤n):Ends p (w::S) (some (w.at_,w.regs)) n:=by
 refine⟨1,hn,w.pc,fun rest fuel=>?_⟩
 rw[Nat.add_comm,List.cons_append,runW_step (by simp),hs]
 exact runW_one
theorem Ends.step {p:Prog1} {w:Way} {S l:List Way} {r:Option (Nat×List Int)} {n:Nat} (hs:stepW p w=.ways l) (h:Ends p (l++S) r n):Ends p (w::S) r (n+1):=by
 obtain⟨n',h1,h2⟩:=h
 refine⟨n' + 1,by omega,?_⟩
 have e:∀ rest fuel,runW p 1 (n' + 1+fuel) (w::S++rest) []=runW p 1 (n' + fuel) (l++S++rest) []:=fun rest fuel=>by
  rw[show n' + 1+fuel=(n' + fuel)+1 by omega,List.cons_append,runW_step (by simp),hs,List.append_assoc]
 cases r with
 | none=>exact fun rest fuel=>by rw[e,h2]
 | some x=>
   obtain⟨pc,h2⟩:=h2
   exact⟨pc,fun rest fuel=>by rw[e,h2]⟩
structure ProgT (p:Prog1) (ins:List Ins) (t:List Int):Prop where
 ins:∀ n,p.ins n=ins[n]?
 has:∀ s n,p.has s n=match t[n]? with
  | some x=>hasSpan s x
  | none=>false
def hitB (ins:List Ins) (t:List Int) (p a:Nat):Bool:=match t[p]? with
 | some x=>leadB ins x a
 | none=>false
abbrev wayM (p:Nat) (regs:List Int) (w:Nat×List Bool):Way:=⟨w.1,p,markL regs w.2 p⟩
theorem markL_set (regs:List Int) (m:List Bool) (p:Int) (n:Nat) (hn:n < m.length):(markL regs m p).set n p=markL regs (m.set n true) p:=by
 apply List.ext_getElem?
 intro q
 by_cases e:n=q
 ·subst e
  by_cases hl:n < regs.length
  ·have h1:n < (markL regs m p).length:=by simp[markL];omega
   rw[List.getElem?_set_self h1]
   simp[markL,List.getElem?_zipWith,hl,hn]
  ·rw[List.getElem?_eq_none (by simp[markL];omega),List.getElem?_eq_none (by simp[markL];omega)]
 ·rw[List.getElem?_set_ne e]
  simp[markL,List.getElem?_zipWith,List.getElem?_set_ne e]
theorem markL_none (regs:List Int) (p:Int) (h:regs.length≤18):markL regs m0S p=regs:=by
 apply List.ext_getElem?
 intro q
 simp only[markL,List.getElem?_zipWith,m0S,List.getElem?_replicate]
 by_cases hq:q < regs.length
 ·rw[if_pos (by omega),List.getElem?_eq_getElem hq]
  simp
 ·rw[List.getElem?_eq_none (by omega)]
section
set_option linter.unusedSectionVars false
variable {ins:List Ins} {t:List Int} {P:Prog1} (h:OkP ins) (hP:ProgT P ins t) (p:Nat) (regs:List Int)
include h hP
theorem step_of {a:Nat} {i:Ins} (m:List Bool) (hm:m.length=18) (hi:ins[a]?=some i) :
  (i.op=0→stepW P (wayM p regs (a,m))=.done) ∧
  (i.op=1→stepW P (wayM p regs (a,m))=if hitB ins t p a=true then .ways [⟨a+1,p+1,markL regs m p⟩] else .ways []) ∧
  (i.op=2→stepW P (wayM p regs (a,m))=.ways [wayM p regs (i.x.toNat,m),wayM p regs (i.y.toNat,m)]) ∧
  (i.op=3→stepW P (wayM p regs (a,m))=.ways [wayM p regs (i.x.toNat,m)]) ∧
  (i.op=4→stepW P (wayM p regs (a,m))=.ways [wayM p regs (a+1,m.set i.n.toNat true)]):=by
 have hp:P.ins a=some i:=by rw[hP.ins,hi]
 refine⟨fun e=>by simp[stepW,hp,e],fun e=>?_,fun e=>by simp[stepW,hp,e],fun e=>by simp[stepW,hp,e],fun e=>?_⟩
 ·have hh:=hP.has i.set p
  cases ht:t[p]? with
  | none=>rw[ht]at hh;simp[stepW,hp,e,hh,hitB,ht]
  | some x=>rw[ht]at hh;simp[stepW,hp,e,hh,hitB,ht,leadB,hi]
 ·have h4:=(h.leads a i hi).2.2 e
  simp only[stepW,hp,e]
  simp
  rw[markL_set _ _ _ _ (by omega)]
theorem vis_tw {a:Nat} {s:List Nat} {w:WS} (ht:(visF ins (a::s) w).tw=false):w.tw=false∧a ∉ w.seen:=by
 constructor
 ·refine Bool.eq_false_iff.2 fun e=>?_
  rw[visF_again (.inl e)]at ht
  simp at ht
 ·intro e
  rw[visF_again (.inr e)]at ht
  simp at ht
theorem seen_lt {a:Nat} {w:WS} (hw:w.Ok ins.length) (hn:a ∉ w.seen) (ha:a < ins.length):w.seen.length+1≤ins.length:=by
 have:=nodup_len (n:=ins.length) (l:=a::w.seen) (List.nodup_cons.2 ⟨hn,hw.1⟩) (fun b hb=>by
  rcases List.mem_cons.1 hb with rfl|hb
  ·exact ha
  ·exact hw.2 b hb)
 simpa using this
theorem walkB:∀(k:Nat) (stk:Stk) (s:CS) (w:WS),w.Ok ins.length→ins.length < k+w.seen.length→(∀ x∈stk,x.1 < ins.length∧x.2.length=18)→(visF ins (stk.map (·.1)) w).tw=false→s.dn=false →
  (∀ a∈(visF ins (stk.map (·.1)) w).stops,hitB ins t p a=true→a∈w.seen) →
  ∃ sF,runS ins enC (yiC ins t p) k stk s=some sF∧sF.nx=s.nx∧sF.way=s.way∧Ends P (stk.map (wayM p regs)) (if sF.dn=true then some (p,markL regs sF.la p) else none) (ins.length - w.seen.length)
 | k,[],s,w,hw,hk,_,_,hd,_=>⟨s,by cases k<;>rfl,rfl,rfl,by rw[if_neg (by simp[hd])];exact Ends.nil _ _⟩
 | 0,_::_,s,w,hw,hk,_,_,_,_=>absurd hw.len (by omega)
 | k+1,(a,m)::rest,s,w,hw,hk,hst,htw,hd,hh=>by
   obtain⟨ha,hm⟩:=hst (a,m) (by simp)
   simp only at ha hm
   obtain⟨i,hi⟩:∃ i,ins[a]?=some i:=⟨_,List.getElem?_eq_getElem ha⟩
   simp only[List.map_cons]at htw hh ⊢
   obtain⟨h1,h2⟩:=vis_tw h hP htw
   rw[visF_step hw h1 h2 hi]at htw hh
   have hl:(stepS w i a).seen.length=w.seen.length+1:=by simp[stepS]
   have hok:=hw.step h2 hi
   have hsl:=seen_lt h hP hw h2 ha
   have hrest:∀ x∈rest,x.1 < ins.length∧x.2.length=18:=fun x hx=>hst x (List.mem_cons_of_mem _ hx)
   obtain⟨st0,st1,st2,st3,st4⟩:=step_of h hP p regs m hm hi
   simp only[runS,enC,hi]
   have go:∀ stk2:Stk,stk2.map (·.1)=nexts i a→(∀ x∈stk2,x.1 < ins.length∧x.2.length=18)→stepW P (wayM p regs (a,m))=.ways (stk2.map (wayM p regs)) →
     ∃ sF,runS ins enC (yiC ins t p) k (stk2++rest) s=some sF∧sF.nx=s.nx∧sF.way=s.way∧Ends P (wayM p regs (a,m)::rest.map (wayM p regs)) (if sF.dn=true then some (p,markL regs sF.la p) else none) (ins.length - w.seen.length):=by
    intro stk2 e2 e4 e5
    obtain⟨sF,r1,r2,r3,r4⟩:=walkB k (stk2++rest) s (stepS w i a) hok (by rw[hl];omega) (fun x hx=>(List.mem_append.1 hx).elim (e4 x) (hrest x)) (by rw[List.map_append,e2];exact htw) hd (by
     rw[List.map_append,e2]
     intro b hb hx
     exact List.mem_append_left _ (hh b hb hx))
    refine⟨sF,r1,r2,r3,?_⟩
    rw[List.map_append]at r4
    rw[hl]at r4
    have:=Ends.step e5 r4
    exact this.mono (by omega)
   rcases h.ops i (List.mem_of_getElem? hi) with h0|h0|h0|h0|h0
   ·rw[if_neg (by omega),if_neg (by omega),if_neg (by omega),if_pos (.inr h0)]
    have ey:chY ins t p s a m = { s with dn:=true,la:=m }:=by simp only[chY,hi,if_pos h0]
    simp only[yiC,ey,Bool.not_true]
    refine⟨_,rfl,rfl,rfl,?_⟩
    rw[if_pos rfl]
    exact Ends.done (st0 h0) (by omega)
   ·rw[if_neg (by omega),if_neg (by omega),if_neg (by omega),if_pos (.inl h0)]
    have hst1:a∈(stepS w i a).stops:=by simp[stepS,stopB,h0]
    have hpre:=(visF_app h.in1 (ins.length+1) (nexts i a++rest.map (·.1)) [] (stepS w i a) hok (by omega) (fun b hb=>by
     rcases List.mem_append.1 hb with hb|hb
     ·exact h.in1 a i hi b hb
     ·obtain⟨x,hx,rfl⟩:=List.mem_map.1 hb
      exact(hrest x hx).1)).2.2 rfl
    have hnh:hitB ins t p a=false:=by
     refine Bool.eq_false_iff.2 fun e=>h2 ?_
     exact hh a (hpre.subset hst1) e
    have ey:chY ins t p s a m=s:=by
     simp only[chY,hi]
     rw[if_neg (by omega)]
     cases ht:t[p]? with
     | none=>rfl
     | some x=>
       simp only[hitB,ht,leadB,hi,h0,decide_true,Bool.true_and]at hnh
       simp only
       rw[if_neg (by simp[hnh])]
    simp only[yiC,ey,hd,Bool.not_false]
    have hs:=st1 h0
    rw[if_neg (by simp[hnh])]at hs
    have hnx:nexts i a=[]:=by simp[nexts,h0]
    exact go [] (by simp[hnx]) (fun x hx=>by simp at hx) (by simpa using hs)
   ·rw[if_pos h0]
    exact go [(i.x.toNat,m),(i.y.toNat,m)] (by simp[nexts,h0]) (fun x hx=>by
     have h1:=(h.leads a i hi).1 (.inl h0)
     have h2:=(h.leads a i hi).2.1 h0
     simp at hx;rcases hx with rfl|rfl
     ·exact⟨h1.2,hm⟩
     ·exact⟨h2.2,hm⟩) (st2 h0)
   ·rw[if_neg (by omega),if_pos h0]
    exact go [(i.x.toNat,m)] (by simp[nexts,h0]) (fun x hx=>by
     have h1:=(h.leads a i hi).1 (.inr h0)
     simp at hx;subst hx;exact⟨h1.2,hm⟩) (st3 h0)
   ·rw[if_neg (by omega),if_neg (by omega),if_pos h0]
    exact go [(a+1,m.set i.n.toNat true)] (by simp[nexts,h0]) (fun x hx=>by
     have h1:=(h.leads a i hi).2.2 h0
     simp at hx;subst hx;exact⟨h1.1,by simp[hm]⟩) (st4 h0)
theorem walkA:∀(k:Nat) (stk:Stk) (s:CS) (w:WS),w.Ok ins.length→ins.length < k+w.seen.length→(∀ x∈stk,x.1 < ins.length∧x.2.length=18)→(visF ins (stk.map (·.1)) w).tw=false→s.dn=false→s.nx = -1 →
  (∀ a∈(visF ins (stk.map (·.1)) w).stops,∀ b∈(visF ins (stk.map (·.1)) w).stops,hitB ins t p a=true→hitB ins t p b=true→a=b) →
  ∃ sF,runS ins enC (yiC ins t p) k stk s=some sF ∧
    ((sF.nx = -1∧Ends P (stk.map (wayM p regs)) (if sF.dn=true then some (p,markL regs sF.la p) else none) (ins.length - w.seen.length)) ∨
     ∃ a,a∈(visF ins (stk.map (·.1)) w).stops∧hitB ins t p a=true∧sF.nx=((a+1:Nat):Int)∧∀ r N,Ends P [⟨a+1,p+1,markL regs sF.way p⟩] r N→Ends P (stk.map (wayM p regs)) (r.or (if sF.dn=true then some (p,markL regs sF.la p) else none)) (N+(ins.length - w.seen.length)))
 | k,[],s,w,hw,hk,_,_,hd,hx,_=>⟨s,by cases k<;>rfl,.inl ⟨hx,by rw[if_neg (by simp[hd])];exact Ends.nil _ _⟩⟩
 | 0,_::_,s,w,hw,hk,_,_,_,_,_=>absurd hw.len (by omega)
 | k+1,(a,m)::rest,s,w,hw,hk,hst,htw,hd,hx,hh=>by
   obtain⟨ha,hm⟩:=hst (a,m) (by simp)
   simp only at ha hm
   obtain⟨i,hi⟩:∃ i,ins[a]?=some i:=⟨_,List.getElem?_eq_getElem ha⟩
   simp only[List.map_cons]at htw hh ⊢
   obtain⟨h1,h2⟩:=vis_tw h hP htw
   rw[visF_step hw h1 h2 hi]at htw hh
   rw[visF_step hw h1 h2 hi]
   have hl:(stepS w i a).seen.length=w.seen.length+1:=by simp[stepS]
   have hok:=hw.step h2 hi
   have hsl:=seen_lt h hP hw h2 ha
   have hrest:∀ x∈rest,x.1 < ins.length∧x.2.length=18:=fun x hx=>hst x (List.mem_cons_of_mem _ hx)
   obtain⟨st0,st1,st2,st3,st4⟩:=step_of h hP p regs m hm hi
   simp only[runS,enC,hi]
   have go:∀ stk2:Stk,stk2.map (·.1)=nexts i a→(∀ x∈stk2,x.1 < ins.length∧x.2.length=18)→stepW P (wayM p regs (a,m))=.ways (stk2.map (wayM p regs)) →
     ∃ sF,runS ins enC (yiC ins t p) k (stk2++rest) s=some sF ∧
       ((sF.nx = -1∧Ends P (wayM p regs (a,m)::rest.map (wayM p regs)) (if sF.dn=true then some (p,markL regs sF.la p) else none) (ins.length - w.seen.length)) ∨
        ∃ b,b∈(visF ins (nexts i a++rest.map (·.1)) (stepS w i a)).stops∧hitB ins t p b=true∧sF.nx=((b+1:Nat):Int)∧∀ r N,Ends P [⟨b+1,p+1,markL regs sF.way p⟩] r N→Ends P (wayM p regs (a,m)::rest.map (wayM p regs)) (r.or (if sF.dn=true then some (p,markL regs sF.la p) else none)) (N+(ins.length - w.seen.length))):=by
    intro stk2 e2 e4 e5
    obtain⟨sF,r1,r2⟩:=walkA k (stk2++rest) s (stepS w i a) hok (by rw[hl];omega) (fun x hx=>(List.mem_append.1 hx).elim (e4 x) (hrest x)) (by rw[List.map_append,e2];exact htw) hd hx (by
     rw[List.map_append,e2]
     exact hh)
    rw[List.map_append,List.map_append,e2,hl]at r2
    refine⟨sF,r1,?_⟩
    rcases r2 with ⟨r2,r3⟩|⟨b,r2,r3,r4,r5⟩
    ·exact .inl ⟨r2,(Ends.step e5 r3).mono (by omega)⟩
    ·exact .inr ⟨b,r2,r3,r4,fun r N hr=>(Ends.step e5 (r5 r N hr)).mono (by omega)⟩
   rcases h.ops i (List.mem_of_getElem? hi) with h0|h0|h0|h0|h0
   ·rw[if_neg (by omega),if_neg (by omega),if_neg (by omega),if_pos (.inr h0)]
    have ey:chY ins t p s a m = { s with dn:=true,la:=m }:=by simp only[chY,hi,if_pos h0]
    simp only[yiC,ey,Bool.not_true]
    refine⟨_,rfl,.inl ⟨hx,?_⟩⟩
    rw[if_pos rfl]
    exact Ends.done (st0 h0) (by omega)
   ·rw[if_neg (by omega),if_neg (by omega),if_neg (by omega),if_pos (.inl h0)]
    have hst1:a∈(stepS w i a).stops:=by simp[stepS,stopB,h0]
    have hpre:=(visF_app h.in1 (ins.length+1) (nexts i a++rest.map (·.1)) [] (stepS w i a) hok (by omega) (fun b hb=>by
     rcases List.mem_append.1 hb with hb|hb
     ·exact h.in1 a i hi b hb
     ·obtain⟨x,hx,rfl⟩:=List.mem_map.1 hb
      exact(hrest x hx).1)).2.2 rfl
    have hain:=hpre.subset hst1
    have hs:=st1 h0
    have hnx:nexts i a=[]:=by simp[nexts,h0]
    cases hq:hitB ins t p a with
    | false=>
      have ey:chY ins t p s a m=s:=by
       simp only[chY,hi]
       rw[if_neg (by omega)]
       cases ht:t[p]? with
       | none=>rfl
       | some x=>
         simp only[hitB,ht,leadB,hi,h0,decide_true,Bool.true_and]at hq
         simp only
         rw[if_neg (by simp[hq])]
      simp only[yiC,ey,hd,Bool.not_false]
      rw[if_neg (by simp[hq])]at hs
      exact go [] (by simp[hnx]) (fun x hx=>by simp at hx) (by simpa using hs)
    | true=>
      rw[if_pos hq]at hs
      have ey:chY ins t p s a m = { s with nx:=((a+1:Nat):Int),way:=m }:=by
       simp only[chY,hi]
       rw[if_neg (by omega)]
       cases ht:t[p]? with
       | none=>simp[hitB,ht]at hq
       | some x=>
         simp only[hitB,ht,leadB,hi,h0,decide_true,Bool.true_and]at hq
         simp only
         rw[if_pos hq]
      simp only[yiC,ey,hd,Bool.not_false]
      rw[hnx,List.nil_append]at htw hh hain
      rw[hnx,List.nil_append]
      obtain⟨sF,r1,r2,r3,r4⟩:=walkB h hP p regs k rest { s with nx:=((a+1:Nat):Int),way:=m } (stepS w i a) hok (by rw[hl];omega) hrest htw hd (fun b hb hx=>by
       rw[hh b hb a hain hx hq]
       simp[stepS])
      have hde:({ nx:=((a+1:Nat):Int),way:=m,dn:=false,la:=s.la }:CS) = { s with nx:=((a+1:Nat):Int),way:=m }:=by simp[hd]
      refine⟨sF,by first|exact r1|(rw[hde];exact r1),.inr ⟨a,hain,hq,r2,fun r N hr=>?_⟩⟩
      rw[r3]at hr
      rw[hl]at r4
      exact(Ends.step hs (hr.or r4)).mono (by omega)
   ·rw[if_pos h0]
    exact go [(i.x.toNat,m),(i.y.toNat,m)] (by simp[nexts,h0]) (fun x hx=>by
     have h1:=(h.leads a i hi).1 (.inl h0)
     have h2:=(h.leads a i hi).2.1 h0
     simp at hx;rcases hx with rfl|rfl
     ·exact⟨h1.2,hm⟩
     ·exact⟨h2.2,hm⟩) (st2 h0)
   ·rw[if_neg (by omega),if_pos h0]
    exact go [(i.x.toNat,m)] (by simp[nexts,h0]) (fun x hx=>by
     have h1:=(h.leads a i hi).1 (.inr h0)
     simp at hx;subst hx;exact⟨h1.2,hm⟩) (st3 h0)
   ·rw[if_neg (by omega),if_neg (by omega),if_pos h0]
    exact go [(a+1,m.set i.n.toNat true)] (by simp[nexts,h0]) (fun x hx=>by
     have h1:=(h.leads a i hi).2.2 h0
     simp at hx;subst hx;exact⟨h1.1,by simp[hm]⟩) (st4 h0)
end
structure Closed (ins:List Ins) (Q:Nat→Prop):Prop where
 lt:∀ st,Q st→st < ins.length
 nf:∀ st,Q st→¬ ForkS ins st
 next:∀ st s b,Q st→leadS ins st s=some b→Q b
def chS (ins:List Ins) (t:List Int) (st p:Nat):CS:=(runS ins enC (yiC ins t p) (ins.length+1) [(st,m0S)] CS0).getD CS0
theorem hit_lead {ins:List Ins} (h:OkP ins) {t:List Int} {st p a:Nat} (hf:¬ ForkS ins st) (ha:a∈(fromS ins st).stops) (hh:hitB ins t p a=true):∃ x,t[p]?=some x∧leadS ins st x=some (a+1):=by
 unfold hitB at hh
 cases ht:t[p]? with
 | none=>simp[ht]at hh
 | some x=>
   rw[ht]at hh
   simp only at hh
   obtain⟨i,hi,h1,h2⟩:=leadB_at hh
   obtain⟨q,hq,_⟩:=hasSpan_iff.1 h2
   exact⟨x,rfl,rd_lead h hf (mem_rd ha hi h1 (List.length_pos_of_mem hq)) hi h2⟩
theorem level {ins:List Ins} (h:OkP ins) {t:List Int} {P:Prog1} (hP:ProgT P ins t) {st:Nat} (hst:st < ins.length) (hf:¬ ForkS ins st) (p:Nat) (regs:List Int) (hr:regs.length≤18) :
  runS ins enC (yiC ins t p) (ins.length+1) [(st,m0S)] CS0=some (chS ins t st p) ∧
   (((chS ins t st p).nx = -1∧Ends P [⟨st,p,regs⟩] (if(chS ins t st p).dn=true then some (p,markL regs (chS ins t st p).la p) else none) ins.length) ∨
    ∃ b x,t[p]?=some x∧leadS ins st x=some b∧(chS ins t st p).nx=(b:Int)∧∀ r N,Ends P [⟨b,p+1,markL regs (chS ins t st p).way p⟩] r N→Ends P [⟨st,p,regs⟩] (r.or (if(chS ins t st p).dn=true then some (p,markL regs (chS ins t st p).la p) else none)) (N+ins.length)):=by
 have htw:(fromS ins st).tw=false:=by
  refine Bool.eq_false_iff.2 fun e=>hf (.inl e)
 obtain⟨sF,h1,h2⟩:=walkA h hP p regs (ins.length+1) [(st,m0S)] CS0 w0S (w0S_ok _) (by simp[w0S]) (fun x hx=>by simp at hx;subst hx;exact⟨hst,rfl⟩) htw rfl rfl (fun a ha b hb e1 e2=>by
  obtain⟨x,hx,hla⟩:=hit_lead h hf ha e1
  obtain⟨y,hy,hlb⟩:=hit_lead h hf hb e2
  rw[hx]at hy;cases hy
  rw[hla]at hlb
  simp only[Option.some.injEq]at hlb
  omega)
 have hc:chS ins t st p=sF:=by unfold chS;rw[h1];rfl
 rw[hc]
 refine⟨h1,?_⟩
 have e1:[((st,m0S):Nat×List Bool)].map (wayM p regs)=[⟨st,p,regs⟩]:=by simp[wayM,markL_none _ _ hr]
 have e2:ins.length - w0S.seen.length=ins.length:=by simp[w0S]
 rw[e1,e2]at h2
 rcases h2 with h2|⟨a,ha,hh,hn,hk⟩
 ·exact .inl h2
 ·obtain⟨x,hx,hl⟩:=hit_lead h hf ha hh
  exact .inr ⟨a+1,x,hx,hl,hn,hk⟩
def runO (ins:List Ins) (t:List Int):Nat→Nat→Nat→List Int→Option (Nat×List Int)→Option (Nat×List Int)
 | 0,_,_,_,res=>res
 | k+1,st,p,regs,res=>
   if(chS ins t st p).nx < 0 then(if(chS ins t st p).dn=true then some (p,markL regs (chS ins t st p).la p) else res)
   else runO ins t k (chS ins t st p).nx.toNat (p+1) (markL regs (chS ins t st p).way p) (if(chS ins t st p).dn=true then some (p,markL regs (chS ins t st p).la p) else res)
theorem markL_len (regs:List Int) (m:List Bool) (p:Int):(markL regs m p).length≤regs.length:=by simp[markL];omega
theorem markL_take (regs:List Int) (m:List Bool) (p:Int) (c:Nat):(markL regs m p).take c=markL (regs.take c) m p:=by
 apply List.ext_getElem?
 intro q
 simp only[markL,List.getElem?_take,List.getElem?_zipWith]
 by_cases hq:q < c
 ·simp[hq]
 ·simp[hq]
theorem runO_ends {ins:List Ins} (h:OkP ins) {t:List Int} {P:Prog1} (hP:ProgT P ins t) {Q:Nat→Prop} (hQ:Closed ins Q) (c:Nat):∀(k st p:Nat) (regs:List Int) (res:Option (Nat×List Int)),Q st→t.length < p+k→p≤t.length→regs.length≤18 →
  ∃ r:Option (Nat×List Int),runO ins t k st p regs res=r.or res∧Ends P [⟨st,p,regs.take c⟩] (r.map fun x=>(x.1,x.2.take c)) (k * ins.length)
 | 0,st,p,regs,res,_,hk,hp,_=>absurd hk (by omega)
 | k+1,st,p,regs,res,hq,hk,hp,hr=>by
   obtain⟨_,h2⟩:=level h hP (hQ.lt st hq) (hQ.nf st hq) p (regs.take c) (by simp;omega)
   unfold runO
   have hnm:(k+1) * ins.length=k * ins.length+ins.length:=by rw[Nat.succ_mul]
   rcases h2 with ⟨h2,h3⟩|⟨b,x,hx,hl,hn,hk2⟩
   ·rw[if_pos (by omega)]
    cases hd:(chS ins t st p).dn with
    | true=>
      rw[hd,if_pos rfl]at h3
      refine⟨some (p,markL regs (chS ins t st p).la p),by simp,?_⟩
      simp only[Option.map_some,markL_take]
      exact h3.mono (by omega)
    | false=>
      rw[hd,if_neg (by simp)]at h3
      refine⟨none,by simp,?_⟩
      exact h3.mono (by omega)
   ·rw[if_neg (by omega)]
    have hpt:=(List.getElem?_eq_some_iff.1 hx).1
    obtain⟨r,r1,r2⟩:=runO_ends h hP hQ c k b (p+1) (markL regs (chS ins t st p).way p) (if(chS ins t st p).dn=true then some (p,markL regs (chS ins t st p).la p) else res) (hQ.next st x b hq hl) (by omega) (by omega) (Nat.le_trans (markL_len _ _ _) hr)
    rw[hn,Int.toNat_natCast,r1]
    rw[markL_take]at r2
    have h3:=hk2 _ _ r2
    rw[hnm]
    cases hd:(chS ins t st p).dn with
    | true=>
      rw[hd,if_pos rfl]at h3
      refine⟨r.or (some (p,markL regs (chS ins t st p).la p)),by cases r<;>simp,?_⟩
      have e:Option.map (fun x:Nat×List Int=>(x.1,x.2.take c)) (r.or (some (p,markL regs (chS ins t st p).la p)))=(r.map fun x=>(x.1,x.2.take c)).or (some (p,markL (regs.take c) (chS ins t st p).la p)):=by
       cases r<;>simp[markL_take]
      rw[e]
      exact h3
    | false=>
      rw[hd,if_neg (by simp)]at h3
      refine⟨r,by simp,?_⟩
      have e:(Option.map (fun x:Nat×List Int=>(x.1,x.2.take c)) r).or none=r.map fun x=>(x.1,x.2.take c):=by cases r<;>rfl
      rw[e]at h3
      exact h3
end Go.Ev
namespace Go.Ev
attribute [local go_sem] W_block evBuild evMakeSlice splice
section
attribute [local go_sem] evAppend
open Go.Proofs Go.RowKit Go.IntWalk
set_option maxRecDepth 100000
set_option maxHeartbeats 4000000
theorem all_int1 (l:List Int):((l.map I).all fun y=>decide (y.cells.length=1) && y.cells.all AV.ok)=true:=by
 simp only[List.all_eq_true,List.mem_map,Bool.and_eq_true,decide_eq_true_eq]
 rintro _ ⟨i,_,rfl⟩
 exact⟨rfl,fun x hx=>by
  simp only[AV.cells,List.mem_singleton]at hx
  rw[hx];rfl⟩
theorem fz_ints {id tot:Nat} {l:List Int} {H:List MB} (hr:getRow H id=some (1,l.map I,0)) (hn:tot=l.length) :
  ∃ H',fz (.ms id 1 tot 0 tot) H=some (.sl false (l.map I),H'):=by
 subst hn
 refine⟨mark H id (0+l.length),fzA_ms (n:=5) hr (by simp) (by simp) ?_⟩
 rw[List.drop_zero,List.take_of_length_le (by simp)]
 exact fzL_plain _ _ _ (plain_ints _)
theorem f65 (l:List Int) (i:Nat) (v:Int) (hi:i < l.length) (hl:l.length≤1000000) (H:List MB):call Tryz.prog pol1 50 [.sl false (l.map I),I i,I v] H=some (.sl false ((l.set i v).map I),H):=by
 refine call_run Tryz.func50 rfl rfl rfl rfl rfl rfl (fun _=>rfl) (by simp[AV.plain,AV.plainL,plain_ints]) (by simp only[AV.plain,plain_ints];rfl) ?_ H
 cases l with
 | nil=>simp at hi
 | cons x xs=>
   simp only[List.length_cons]at hi hl
   obtain⟨p,hp⟩:∃ p,(x::xs)[i]?=some p:=⟨_,List.getElem?_eq_getElem (by simpa using hi)⟩
   have hp':(I x::List.map I xs)[i]?=some (I p):=by
    have:((x::xs).map I)[i]?=some (I p):=by rw[List.getElem?_map,hp];rfl
    exact this
   simp +contextual (disch:=omega) only[Tryz.f50,dd50,go_sem,simprocAttr,mu50,↓wrap_up,↓wrap_down,↓wrap_pred,↓wrap_sub_nat,hp']
   refine⟨all_int1 (x::xs),by simp[roomFor];omega,?_⟩
   refine fz_ints ?_ (by simp)
   rw[List.map_set]
   rfl
end
section
attribute [local go_sem] evAppend tySzE List.head?_drop Nat.mul_one sameAt_zero sameAt_two sameAt_three sameAt_four sameAt_five room_ok
open Go.Proofs Go.RowKit Go.IntWalk
set_option maxRecDepth 100000
set_option maxHeartbeats 4000000
def capP (a b:Int):Int×Int:=if a = -1∨b = -1 then(-1,-1) else(a,b)
def capsN (regs:List Int) (n:Nat):List (Int×Int):=(List.range n).map fun k=>capP (regs.getD (2 * k) 0) (regs.getD (2 * k+1) 0)
theorem capsN_succ (regs:List Int) (n:Nat):capsN regs (n+1)=capsN regs n++[capP (regs.getD (2 * n) 0) (regs.getD (2 * n+1) 0)]:=by
 simp[capsN,List.range_succ]
theorem capsN_len (regs:List Int) (n:Nat):(capsN regs n).length=n:=by simp[capsN]
def matAV (s e:Int) (caps:List (Int×Int)):AV:=.agg [I s,I e,.sl false (caps.map spanAV)]
theorem plain_mat (s e:Int) (caps:List (Int×Int)):AV.plain (matAV s e caps)=true:=by simp[matAV,AV.plain,AV.plainL,plain_span]
theorem f63 (pc pos start:Int) (regs:List Int) (n:Nat) (hr:regs.length=2 * n) (hn:n≤1000) (H:List MB) :
  call Tryz.prog pol1 48 [.agg [I pc,I pos,.sl false (regs.map I)],I start] H=some (matAV start pos (capsN regs n),H):=by
 refine call_run Tryz.func48 rfl rfl rfl rfl rfl rfl (fun _=>rfl) (by simp[AV.plain,AV.plainL,plain_ints]) (plain_mat _ _ _) ?_ H
 simp +contextual (disch:=omega) only[Tryz.f48,dd48,go_sem,simprocAttr,mu48,↓wrap_up,↓wrap_down,↓wrap_pred,↓wrap_sub_nat]
 refine W_count (M:=(mskOf (pol1.mask 48) (pol1.gc 48) (pol1.acts 48) 0 3)) rfl n (fun j=>(⟨48,[(6,I ((2 * j:Nat):Int)),(5,.rf 2 1 0 0),(4,.rf 1 1 0 0),(2,.rf 0 1 0 0)],[.row 3 [.agg [I pc,I pos,.sl false (regs.map I)]] 0,.row 3 [.agg [I 0,I 0,.sl true []]] 0,
  .row 3 [.agg [I start,I pos,.ms 3 2 j 0 j]] 0,.row 2 ((capsN regs j).map spanAV) 0]⟩:St)) (fun _=>True) ?_ ?_ trivial _ (by first|rfl|(refine prep_cut rfl (by rfl) (by rfl) (by rfl) ?_ ?_<;>simp[AV.underL,AV.under,MB.under,underL_plain,under_plain,plain_ints,plain_span,plain_ins,plain_prg,-List.map_take]))
 ·intro j hj _
  obtain⟨a,ha⟩:∃ a,regs[2 * j]?=some a:=⟨_,List.getElem?_eq_getElem (by omega)⟩
  obtain⟨b,hb⟩:∃ b,regs[2 * j+1]?=some b:=⟨_,List.getElem?_eq_getElem (by omega)⟩
  have hl:=capsN_len regs j
  rw[capsN_succ,List.getD_eq_getElem?_getD,List.getD_eq_getElem?_getD,ha,hb]
  simp only[Option.getD_some]
  generalize capsN regs j=cs at *
  have htk:=take_map_len (f:=spanAV) hl
  have e2:((2 * j:Nat):Int)+2=((2 * (j+1):Nat):Int):=by omega
  simp +contextual (disch:=omega) only[Tryz.f48,dd48,go_sem,simprocAttr,mu48,↓wrap_up,↓wrap_down,↓wrap_pred,↓wrap_sub_nat,ha,hb,hl,htk,e2]
  repeat' (first|intro _|apply And.intro|(unfold dOk;kernel_rfl)|exact St.beq_refl _|(show altO _ _ _ _=true;kernel_rfl)|(show (_ || _)=true;kernel_rfl)|(show (_ && _)=true;kernel_rfl))
  all_goals exact(by first|rfl|(refine prep_to (n:=4) (m:=⟨some [6,5,4,2],some 4,[]⟩) rfl rfl ?_ ?_ ?_<;>first|rfl|(simp[keepT,AV.underL,AV.under,MB.under,underL_plain,under_plain,underL_append,plain_ints,plain_span,plain_ins,plain_prg,-List.map_take,-List.map_replicate,-List.map_set,capP, *];done)|(simp[keepT,AV.underL,AV.under,MB.under,underL_plain,under_plain,underL_append,plain_ints,plain_span,plain_ins,plain_prg,-List.map_take,-List.map_replicate,-List.map_set,capP, *];omega)))
 ·intro _
  have hl:=capsN_len regs n
  generalize capsN regs n=cs at *
  simp +contextual (disch:=omega) only[Tryz.f48,dd48,go_sem,simprocAttr,mu48,↓wrap_up,↓wrap_down,↓wrap_pred,↓wrap_sub_nat,hr,hl]
  simp only[fz,fzA_agg,fzL,fzA_int]
  rw[fzA_row (els:=cs.map spanAV) (k:=2) (z:=0) rfl (by simp[hl]) (plain_span cs)]
  exact⟨_,rfl⟩
end
section
attribute [local go_sem] evAppend tySzE List.head?_drop Nat.mul_one sameAt_zero sameAt_two sameAt_three sameAt_four sameAt_five room_ok
open Go.Proofs Go.RowKit Go.IntWalk
set_option maxRecDepth 100000
set_option maxHeartbeats 16000000
theorem f45 (ins:List Ins) (num begin_ end_:Int) (regs:List Int) (n:Nat) (hr:regs.length=18) (hn:n≤9) (H:List MB) :
  call Tryz.prog pol1 45 [.pt [.sl false (ins.map insAV),I n,I num],I begin_,I end_,.agg (regs.map I)] H=some (matAV begin_ end_ (capsN regs n),H):=by
 have t1:List.take 18 (regs.map I)=regs.map I:=List.take_of_length_le (by simp[hr])
 have o1:(regs.map I).all AV.ok=true:=by simp[AV.ok]
 refine call_run Tryz.func45 rfl rfl rfl rfl rfl rfl (fun _=>rfl) (by simp[AV.plain,AV.plainL,plain_ints,plain_ins]) (plain_mat _ _ _) ?_ H
 simp +contextual (disch:=omega) only[Tryz.f45,dd45,go_sem,simprocAttr,mu45,↓wrap_up,↓wrap_down,↓wrap_pred,↓wrap_sub_nat,t1,o1,hr]
 let cur:Nat→List (Int×Int):=fun i=>(capsN regs i)++List.replicate (n - i) (0,0)
 have hcl:∀ i,i≤n→(cur i).length=n:=fun i hi=>by simp[cur,capsN_len];omega
 have hc0:List.replicate n (.agg [I 0,I 0])=(cur 0).map spanAV:=by simp[cur,capsN,spanAV]
 have hcN:cur n=capsN regs n:=by simp[cur]
 have hstep:∀ i,i < n→cur (i+1)=(cur i).set i (capP (regs.getD (2 * i) 0) (regs.getD (2 * i+1) 0)):=fun i hi=>by
  simp only[cur]
  rw[capsN_succ,show n - i=(n - (i+1))+1 by omega,List.replicate_succ,List.set_append_right _ _ (by simp[capsN_len])]
  simp[capsN_len]
 have hn0:(n:Int).toNat=n:=by simp
 refine W_count (M:=(mskOf (pol1.mask 45) (pol1.gc 45) (pol1.acts 45) 0 3)) (by rfl) n (fun i=>(⟨59,[(22,NV i),(21,I n),(9,.rf 3 1 0 0),(8,.rf 1 1 0 0),(7,.rf 0 1 0 0)],[.row 18 [.agg (regs.map I)] 0,.row 3 [.agg [I 0,I 0,.sl true []]] 0,.row 2 ((cur i).map spanAV) 0,.row 3 [.agg [I begin_,I end_,.ms 2 2 n 0 n]] 0]⟩:St)) (fun _=>True) ?_ ?_ trivial _ ?_
 ·intro i hi _
  obtain⟨a,ha⟩:∃ a,regs[2 * i]?=some a:=⟨_,List.getElem?_eq_getElem (by omega)⟩
  obtain⟨b,hb⟩:∃ b,regs[2 * i+1]?=some b:=⟨_,List.getElem?_eq_getElem (by omega)⟩
  have hl:=hcl i (by omega)
  have hs:=hstep i hi
  rw[List.getD_eq_getElem?_getD,List.getD_eq_getElem?_getD,ha,hb]at hs
  simp only[Option.getD_some]at hs
  rw[hs]
  generalize cur i=cs at *
  have e2:(2:Int) * (i:Int)=((2 * i:Nat):Int):=by omega
  have e3:((2 * i:Nat):Int)+1=((2 * i+1:Nat):Int):=by omega
  have hlt:((i:Int) < (n:Int))=True:=eq_true (by omega)
  have hwi:IntKind.i64.wrap ((i:Int)+1)=((i+1:Nat):Int):=by rw[i64_in]<;>omega
  have hm:∀ p:Int×Int,(cs.map spanAV).set i (spanAV p)=(cs.set i p).map spanAV:=fun p=>by rw[List.map_set]
  obtain⟨c0,hc0⟩:∃ c,cs[i]?=some c:=⟨_,List.getElem?_eq_getElem (by omega)⟩
  have hsi:∀ x:AV,((cs.map spanAV).set i x)[i]?=some x:=fun x=>List.getElem?_set_self (by simp;omega)
  have hss:∀ x y:AV,((cs.map spanAV).set i x).set i y=(cs.map spanAV).set i y:=fun x y=>by rw[List.set_set]
  have hsl:∀ x:AV,((cs.map spanAV).set i x).length=n:=fun x=>by simp[hl]
  have hsu:∀ p:Int×Int,AV.underL 4 ((cs.set i p).map spanAV)=true:=fun p=>underL_plain 4 _ (plain_span _)
  have hk4:AV.underL 4 [NV (i+1),I n,.rf 3 1 0 0,.rf 1 1 0 0,.rf 0 1 0 0]=true:=rfl
  have hun:∀ p:Int×Int,[MB.row 18 [.agg (regs.map I)] 0,.row 3 [.agg [I 0,I 0,.sl true []]] 0,.row 2 ((cs.map spanAV).set i (spanAV p)) 0,.row 3 [.agg [I begin_,I end_,.ms 2 2 n 0 n]] 0].all (MB.under 4)=true:=fun p=>by
   rw[hm]
   have h1:=underL_plain 4 _ (plain_ints regs)
   have h2:=hsu p
   simp[-List.map_set,MB.under,AV.underL,AV.under,h1,h2]
  by_cases h1:a = -1
  ·simp +contextual (disch:=omega) only[Tryz.f45,dd45,go_sem,simprocAttr,mu45,↓wrap_up,↓wrap_down,↓wrap_pred,↓wrap_sub_nat,ha,hb,hl,e2,e3,hlt,hwi,h1,hc0,hsi,hss,hsl]
   rw[show capP (-1) b=(-1,-1) by simp[capP],← hm]
   exact prep_to rfl rfl hk4 (hun (-1,-1)) rfl
  ·by_cases h2:b = -1
   ·simp +contextual (disch:=omega) only[Tryz.f45,dd45,go_sem,simprocAttr,mu45,↓wrap_up,↓wrap_down,↓wrap_pred,↓wrap_sub_nat,ha,hb,hl,e2,e3,hlt,hwi,h1,h2,hc0,hsi,hss,hsl]
    rw[show capP a (-1)=(-1,-1) by simp[capP],← hm]
    exact prep_to rfl rfl hk4 (hun (-1,-1)) rfl
   ·simp +contextual (disch:=omega) only[Tryz.f45,dd45,go_sem,simprocAttr,mu45,↓wrap_up,↓wrap_down,↓wrap_pred,↓wrap_sub_nat,ha,hb,hl,e2,e3,hlt,hwi,h1,h2,hc0,hsi,hss,hsl]
    refine⟨(by unfold dOk;kernel_rfl),?_⟩
    rw[show capP a b=(a,b) by simp[capP,h1,h2],← hm]
    exact prep_to rfl rfl hk4 (hun (a,b)) rfl
 ·intro _
  rw[hcN]
  have hl:=capsN_len regs n
  generalize capsN regs n=cs at *
  simp +contextual (disch:=omega) only[Tryz.f45,dd45,go_sem,simprocAttr,mu45,↓wrap_up,↓wrap_down,↓wrap_pred,↓wrap_sub_nat,hl]
  simp only[fz,fzA_agg,fzL,fzA_int]
  rw[fzA_row (els:=cs.map spanAV) (k:=2) (z:=0) rfl (by simp[hl]) (plain_span cs)]
  exact⟨_,rfl⟩
 ·rw[← hc0]
  have h1:=underL_plain 4 _ (plain_ints regs)
  have h2:AV.underL 4 (List.replicate n (AV.agg [I 0,I 0]))=true:=by rw[hc0];exact underL_plain 4 _ (plain_span _)
  exact prep_to rfl rfl rfl (by simp[MB.under,AV.underL,AV.under,h1,h2]) rfl
end
section
attribute [local go_sem] evAppend tySzE List.head?_drop Nat.mul_one sameAt_zero sameAt_two sameAt_three sameAt_four sameAt_five room_ok
open Go.Proofs Go.RowKit Go.IntWalk
set_option maxRecDepth 100000
set_option maxHeartbeats 16000000
theorem g41 (l:List Int) (n:Int) (hl:l.length≤1000000000) (H:List MB):call Tryz.prog pol1 41 [.sl false (l.map I),I n] H=some (.bool (decide (n∈l)),H):=by
 refine call_run Tryz.func41 rfl rfl rfl rfl rfl rfl (fun _=>rfl) (by simp[AV.plain,AV.plainL,plain_ints,plain_span,plain_ins,plain_prg]) (by simp[AV.plain,AV.plainL,plain_ints,plain_span,plain_ins,plain_prg]) ?_ H
 simp +contextual (disch:=omega) only[Tryz.f41,dd41,go_sem,simprocAttr,mu41,↓wrap_up,↓wrap_down,↓wrap_pred,↓wrap_sub_nat]
 refine W_count (M:=(mskOf (pol1.mask 41) (pol1.gc 41) (pol1.acts 41) 0 2)) rfl l.length (fun i=>(⟨18,[(5,I i),(1,I n),(0,.sl false (l.map I))],[]⟩:St)) (fun i=>∀ k x,k < i→l[k]?=some x→x≠n) ?_ ?_ (fun k p h=>by omega) _ (by first|rfl|(refine prep_cut rfl (by rfl) (by rfl) (by rfl) ?_ ?_<;>simp[AV.underL,AV.under,MB.under,underL_plain,under_plain,plain_ints,plain_span,plain_ins,plain_prg,-List.map_take]))
 ·intro i hi hg
  obtain⟨x,hx⟩:∃ x,l[i]?=some x:=⟨_,List.getElem?_eq_getElem hi⟩
  have hx':(l.map I)[i]?=some (I x):=by simp[hx]
  by_cases h:x=n
  ·have hm:n∈l:=h ▸ List.mem_of_getElem? hx
   simp +contextual (disch:=omega) only[Tryz.f41,dd41,go_sem,simprocAttr,mu41,↓wrap_up,↓wrap_down,↓wrap_pred,↓wrap_sub_nat,hx',h]
   simp only[hm,decide_true]
   exact fzEq rfl rfl
  ·simp +contextual (disch:=omega) only[Tryz.f41,dd41,go_sem,simprocAttr,mu41,↓wrap_up,↓wrap_down,↓wrap_pred,↓wrap_sub_nat,hx',h]
   refine⟨fun k y hk hy=>?_,(by first|rfl|(refine prep_cut rfl (by rfl) (by rfl) (by rfl) ?_ ?_<;>simp[AV.underL,AV.under,MB.under,underL_plain,under_plain,plain_ints,plain_span,plain_ins,plain_prg,-List.map_take]))⟩
   rcases Nat.lt_succ_iff_lt_or_eq.1 hk with hlt|rfl
   ·exact hg k y hlt hy
   ·rw[hx]at hy;cases hy;exact h
 ·intro hg
  have hm:¬ n∈l:=fun h=>by
   obtain⟨k,hk⟩:=List.mem_iff_getElem?.1 h
   exact hg k n (List.getElem?_eq_some_iff.1 hk).1 hk rfl
  simp +contextual (disch:=omega) only[Tryz.f41,dd41,go_sem,simprocAttr,mu41,↓wrap_up,↓wrap_down,↓wrap_pred,↓wrap_sub_nat]
  simp only[hm,decide_false]
  exact fzEq rfl rfl
theorem call_frzP {P:Program} {pol:Pol} {f:Nat} {args l:List AV} {H H1:List MB} (hp:pol.pure f=true) (h:frzArgs pol f 0 args H=some (l,H1)) (ha:AV.plainL l=true) :
  call P pol f args H=call P pol f l H1:=by
 have hf:∀(l:List AV) (i:Nat),AV.plainL l=true→frzArgs pol f i l H1=some (l,H1):=by
  intro l
  induction l with
  | nil=>intro i _;rfl
  | cons x l ih=>
    intro i h
    simp only[AV.plainL,Bool.and_eq_true]at h
    simp only[frzArgs,fz_plain H1 h.1,ih (i+1) h.2]
    split<;>simp_all
 rw[call_eq,call_eq]
 unfold evStep
 simp only[hp,if_true,h,hf l 0 ha]
end
section
attribute [local go_sem] tySzE List.head?_drop Nat.mul_one sameAt_zero sameAt_two sameAt_three sameAt_four sameAt_five room_ok
open Go.Proofs Go.RowKit Go.IntWalk
set_option maxRecDepth 100000
set_option maxHeartbeats 16000000
structure LeastTo (ins:List Ins) (i:Nat) (l:List Int):Prop where
 srt:l.Pairwise (·< ·)
 has:∀ n x,n < i→ins[n]?=some x→x.op=1→0 < x.set.length→keyI ins n∈l
 len:l.length≤i
theorem LeastTo.put {ins:List Ins} {i:Nat} {l:List Int} (h:LeastTo ins i l) {x:Ins} (hx:ins[i]?=some x) {n:Int} (hn:keyI ins i=n) {k:Nat} (hk:k≤l.length) (h1:∀ j y,j < k→l[j]?=some y→y < n) (h2:∀ y,l[k]?=some y→n < y):LeastTo ins (i+1) (l.take k++([n]++l.drop k)):=by
 have hdrop:∀ y∈l.drop k,n < y:=fun y hy=>by
  obtain⟨j,hj⟩:=List.mem_iff_getElem?.1 hy
  rw[List.getElem?_drop]at hj
  cases j with
  | zero=>exact h2 y hj
  | succ j=>
    obtain⟨hb,rfl⟩:=List.getElem?_eq_some_iff.1 hj
    have:=List.pairwise_iff_getElem.1 h.srt k (k+(j+1)) (by omega) hb (by omega)
    have h3:=h2 _ (List.getElem?_eq_getElem (by omega))
    omega
 have htake:∀ y∈l.take k,y < n:=fun y hy=>by
  obtain⟨j,hj⟩:=List.mem_iff_getElem?.1 hy
  rw[List.getElem?_take]at hj
  split at hj
  ·rename_i hjk;exact h1 j y hjk hj
  ·cases hj
 refine⟨?_,?_,?_⟩
 ·rw[List.pairwise_append]
  refine⟨h.srt.sublist (List.take_sublist _ _),?_,?_⟩
  ·rw[List.singleton_append,List.pairwise_cons]
   exact⟨hdrop,h.srt.sublist (List.drop_sublist _ _)⟩
  ·intro a ha b hb
   have:=htake a ha
   rcases List.mem_append.1 hb with hb|hb
   ·simp at hb;omega
   ·have:=hdrop b hb;omega
 ·intro m y hm hy h3 h4
  rcases Nat.lt_succ_iff_lt_or_eq.1 hm with hlt|rfl
  ·have:=h.has m y hlt hy h3 h4
   rw[← List.take_append_drop k l]at this
   rcases List.mem_append.1 this with h|h
   ·exact List.mem_append_left _ h
   ·exact List.mem_append_right _ (List.mem_append_right _ h)
  ·rw[hn];simp
 ·have:=h.len
  simp;omega
theorem LeastTo.skip {ins:List Ins} {i:Nat} {l:List Int} (h:LeastTo ins i l) (hs:∀ x,ins[i]?=some x→x.op=1→0 < x.set.length→keyI ins i∈l):LeastTo ins (i+1) l:=by
 refine⟨h.srt,fun n x hn hx h1 h2=>?_,Nat.le_succ_of_le h.len⟩
 rcases Nat.lt_succ_iff_lt_or_eq.1 hn with hlt|rfl
 ·exact h.has n x hlt hx h1 h2
 ·exact hs x hx h1 h2
theorem ints_ok (l:List Int):(l.map I).all (fun y=>decide (y.cells.length=1) && y.cells.all AV.ok)=true:=by simp[AV.cells,AV.ok]
theorem appI {H:List MB} {i n:Nat} {rs l:List Int} {t:Bool} (hi:getRow H i=some (1,rs.map I,0)) (hn:rs.length=n) (hr:n+l.length≤4000000000) :
  evAppend Tryz.prog H 22 22 (.ms i 1 n 0 n) (.sl t (l.map I))=some (.ms i 1 (n+l.length) 0 (n+l.length),H.set i (.row 1 ((rs++l).map I) 0)):=by
 have hs:srcElems Tryz.prog H 3 (.sl t (l.map I))=some (l.map I):=rfl
 rw[evAppend_end (e:=3) (by kernel_rfl) (by kernel_rfl) (k:=1) (by kernel_rfl) (by_:=8) (by kernel_rfl) (ze:=I 0) (by kernel_rfl) rfl (by omega) hs (ints_ok l) hi (by rw[List.length_map];exact hn) (Nat.zero_le _) (room_ok (by simpa using hr) (by omega))]
 rw[List.map_append,List.length_map]
theorem appNil (H:List MB) {l:List Int} {t:Bool} (hl:0 < l.length) (hr:l.length≤4000000000) :
  evAppend Tryz.prog H 22 22 (.sl true []) (.sl t (l.map I))=some (.ms H.length 1 l.length 0 l.length,H++[.row 1 (l.map I) 0]):=by
 cases l with
 | nil=>cases hl
 | cons a l=>
   have hs:srcElems Tryz.prog H 3 (.sl t ((a::l).map I))=some ((a::l).map I):=rfl
   unfold evAppend
   simp only[show tyElem Tryz.prog 22=some 3 by kernel_rfl,show tyNotInt Tryz.prog 22=true by kernel_rfl,show tySz Tryz.prog 3=some 1 by kernel_rfl,show tyBytes Tryz.prog 3=some 8 by kernel_rfl,show tyZero Tryz.prog 3=some (I 0) by kernel_rfl,hs]
   rw[if_pos ⟨ints_ok _,by omega,rfl⟩]
   simp only[List.map_cons]
   rw[if_pos ⟨trivial,room_ok (by simp at hr ⊢;omega) (by omega),rfl⟩]
   simp
theorem appNil0 (H:List MB) {t:Bool}:evAppend Tryz.prog H 22 22 (.sl true []) (.sl t [])=some (.sl true [],H):=by
 unfold evAppend
 simp only[show tyElem Tryz.prog 22=some 3 by kernel_rfl,show tyNotInt Tryz.prog 22=true by kernel_rfl,show tySz Tryz.prog 3=some 1 by kernel_rfl,show tyBytes Tryz.prog 3=some 8 by kernel_rfl,show tyZero Tryz.prog 3=some (I 0) by kernel_rfl,srcElems]
 rfl
theorem g40 {g:Prg} (h:OkP g.ins):∃ r:AV,(∃ l:List Int,r=.sl false (l.map I)∧LeastTo g.ins g.ins.length l)∧∀ H,call Tryz.prog pol1 40 [prgAV g] H=some (r,H):=by
 have hl:=h.len
 refine call_runA Tryz.func40 rfl rfl rfl rfl rfl rfl (fun _=>rfl) (by simp[AV.plain,AV.plainL,plain_ints,plain_span,plain_ins,plain_prg]) ?_ ?_
 ·rintro r ⟨l,rfl,_⟩;exact plain_ints l
 have hnil:∀ H,fz (.sl true []) H=some (.sl false [],H):=fun H=>rfl
 simp +contextual (disch:=omega) only[Tryz.f40,dd40,go_sem,simprocAttr,evAppend,mu40,↓wrap_up,↓wrap_down,↓wrap_pred,↓wrap_sub_nat,hnil]
 have hu:[MB.row 3 [prgAV g] 0].all (MB.under 1)=true:=by
  have h1:=underL_plain 1 _ (plain_ins g.ins)
  simp[MB.under,AV.underL,AV.under,h1]
 have hul:∀ l:List Int,AV.underL 1 (l.map I)=true:=fun l=>underL_plain 1 _ (plain_ints l)
 have hu2:∀(x:Ins) (p:Int×Int) (m:List (Int×Int)),[MB.row 3 [prgAV g] 0,.row 5 [.agg [I 1,I x.x,I x.y,I x.n,.sl false (spanAV p::m.map spanAV)]] 0].all (MB.under 2)=true:=fun x p m=>by
  have h1:=underL_plain 2 _ (plain_ins g.ins)
  have h2:=underL_plain 2 _ (plain_span (p::m))
  simp only[List.map_cons]at h2
  simp[MB.under,AV.underL,AV.under,h1]at h2 ⊢
  exact h2
 have hk2:∀(k i:Nat) (n:Int) (l:List Int),AV.underL 2 [.int .i64 k,I n,.int .i64 i,.sl false (l.map I),.rf 0 1 0 0]=true:=fun k i n l=>by
  have:=underL_plain 2 _ (plain_ints l)
  simp[AV.underL,AV.under,this]
 have hk1:∀(i:Nat) (l:List Int),AV.underL 1 [.int .i64 i,.sl false (l.map I),.rf 0 1 0 0]=true:=fun i l=>by simp[AV.underL,AV.under,hul]
 refine W_for (σ:=Nat×List Int) (M:=(mskOf (pol1.mask 40) (pol1.gc 40) (pol1.acts 40) 0 3)) (by rfl) (fun s=>(⟨73,[(4,NV s.1),(3,.sl false (s.2.map I)),(1,.rf 0 1 0 0)],[.row 3 [prgAV g] 0]⟩:St)) (fun s=>s.1≤g.ins.length∧LeastTo g.ins s.1 s.2) (fun s=>g.ins.length - s.1) (0,[]) ?_ ⟨Nat.zero_le _,List.Pairwise.nil,fun n x hn=>by omega,Nat.le_refl _⟩ _ ?_
 ·rintro⟨i,l⟩ ⟨hi,hL⟩
  simp only at hi hL ⊢
  have hll:=hL.len
  have h41:=fun n H=>g41 l n (by omega) H
  by_cases hil:i < g.ins.length
  ·obtain⟨x,hx⟩:∃ x,g.ins[i]?=some x:=⟨_,List.getElem?_eq_getElem hil⟩
   have hx':(g.ins.map insAV)[i]?=some (insAV x):=by simp[hx]
   have hlt:((i:Int) < ((g.ins.length:Nat):Int))=True:=eq_true (by omega)
   have hwi:IntKind.i64.wrap ((i:Int)+1)=((i+1:Nat):Int):=by rw[i64_in]<;>omega
   by_cases h1:x.op=1
   ·by_cases hs:0 < x.set.length
    ·obtain⟨p,m,hp⟩:∃ p m,x.set=p::m:=by cases hq:x.set with
      | nil=>rw[hq]at hs;cases hs
      | cons p m=>exact⟨p,m,rfl⟩
     have hk:keyI g.ins i=p.1:=by simp[keyI,hx,hp]
     by_cases hm:p.1∈l
     ·simp +contextual (disch:=omega) only[Tryz.f40,dd40,go_sem,simprocAttr,evAppend,mu40,↓wrap_up,↓wrap_down,↓wrap_pred,↓wrap_sub_nat,hx',h1,hp,h41,hm,hlt,hwi,nonneg_nat]
      refine⟨(i+1,l),⟨hil,hL.skip fun y hy _ _=>by rw[hk];exact hm⟩,by simp only;omega,prep_to rfl rfl (hk1 i l) hu rfl⟩
     ·simp +contextual (disch:=omega) only[Tryz.f40,dd40,go_sem,simprocAttr,evAppend,mu40,↓wrap_up,↓wrap_down,↓wrap_pred,↓wrap_sub_nat,hx',h1,hp,h41,hm,hlt,hwi,nonneg_nat]
      refine W_for (σ:=Nat) (M:=(mskOf (pol1.mask 40) (pol1.gc 40) (pol1.acts 40) 0 9)) (by rfl) (fun k=>(⟨73,[(7,NV k),(6,I p.1),(4,NV i),(3,.sl false (l.map I)),(1,.rf 0 1 0 0)],[.row 3 [prgAV g] 0,.row 5 [.agg [I 1,I x.x,I x.y,I x.n,.sl false (spanAV p::m.map spanAV)]] 0]⟩:St)) (fun k=>k≤l.length∧∀ j y,j < k→l[j]?=some y→y < p.1) (fun k=>l.length - k) 0 ?_ ⟨Nat.zero_le _,fun j y h=>by omega⟩ _ ?_
      ·rintro k ⟨hkl,hkk⟩
       have hwk:IntKind.i64.wrap ((k:Int)+1)=((k+1:Nat):Int):=by rw[i64_in]<;>omega
       obtain⟨tk,htk⟩:∃ tk,tk=l.take k:=⟨_,rfl⟩
       obtain⟨dk,hdk⟩:∃ dk,dk=l.drop k:=⟨_,rfl⟩
       have ht:List.take k (List.map I l)=List.map I tk:=by rw[htk,List.map_take]
       have hd:List.drop k (List.take l.length (List.map I l))=List.map I dk:=by rw[List.take_of_length_le (by simp),hdk,List.map_drop]
       have htl:tk.length≤100000:=by rw[htk,List.length_take];omega
       have hdl:dk.length≤100000:=by rw[hdk,List.length_drop];omega
       have hkl3:(k≤l.length)=True:=eq_true hkl
       have done:(∀ y,l[k]?=some y→p.1 < y)→LeastTo g.ins (i+1) (l.take k++([p.1]++l.drop k)):=fun h2=>hL.put hx hk hkl hkk h2
       by_cases hkl2:k < l.length
       ·obtain⟨y,hy⟩:∃ y,l[k]?=some y:=⟨_,List.getElem?_eq_getElem hkl2⟩
        have hy':(l.map I)[k]?=some (I y):=by simp[hy]
        have hltk:((k:Int) < ((l.length:Nat):Int))=True:=eq_true (by omega)
        by_cases hyp:y < p.1
        ·simp +contextual (disch:=omega) only[Tryz.f40,dd40,go_sem,simprocAttr,evAppend,mu40,↓wrap_up,↓wrap_down,↓wrap_pred,↓wrap_sub_nat,hltk,hy',hyp,hwk,nonneg_nat]
         refine⟨k+1,⟨hkl2,fun j z hj hz=>?_⟩,by omega,prep_to rfl rfl (hk2 (k+1) i p.1 l) (hu2 x p m) rfl⟩
         rcases Nat.lt_succ_iff_lt_or_eq.1 hj with hlt|rfl
         ·exact hkk j z hlt hz
         ·rw[hy]at hz;cases hz;exact hyp
        ·have hne:∀ z,l[k]?=some z→p.1 < z:=fun z hz=>by
          rw[hy]at hz;cases hz
          have:y≠p.1:=fun e=>hm (e ▸ List.mem_of_getElem? hy)
          omega
         have dn:=done hne
         rw[← htk,← hdk]at dn
         simp +contextual (disch:=omega) only[Tryz.f40,dd40,go_sem,simprocAttr,mu40,↓wrap_up,↓wrap_down,↓wrap_pred,↓wrap_sub_nat,hltk,hy',hyp,hwk,nonneg_nat,hkl3,ht,hd,Bool.false_and]
         refine⟨(by simp),?_⟩
         by_cases h0:tk=[]
         ·subst h0
          have ap1:=appNil [MB.row 3 [prgAV g] 0,.row 5 [.agg [I 1,I x.x,I x.y,I x.n,.sl false (spanAV p::m.map spanAV)]] 0] (l:=[p.1]) (t:=true) (by simp) (by simp)
          have ap2:=fun t=>appI (H:=[MB.row 3 [prgAV g] 0,.row 5 [.agg [I 1,I x.x,I x.y,I x.n,.sl false (spanAV p::m.map spanAV)]] 0,.row 1 [I p.1] 0]) (i:=2) (n:=1) (rs:=[p.1]) (l:=dk) (t:=t) rfl rfl (by omega)
          have hf:=fz_row (H:=[MB.row 3 [prgAV g] 0,.row 5 [.agg [I 1,I x.x,I x.y,I x.n,.sl false (spanAV p::m.map spanAV)]] 0,.row 1 (([p.1]++dk).map I) 0]) (id:=2) (k:=1) (tot:=1+dk.length) (z:=0) (els:=([p.1]++dk).map I) rfl (by simp;omega) (plain_ints _)
          simp only[List.map_cons,List.map_nil,List.length_cons,List.length_nil,List.cons_append,List.nil_append,List.set,Nat.zero_add]at ap1 ap2 hf
          simp +contextual (disch:=omega) only[Tryz.f40,dd40,go_sem,simprocAttr,mu40,↓wrap_up,↓wrap_down,↓wrap_pred,↓wrap_sub_nat,hltk,hwk,hwi,hkl3,ht,hd,Bool.false_and,appNil0,List.map_nil,ap1,ap2,hf]
          refine⟨(by simp),?_⟩
          exact⟨(i+1,[]++([p.1]++dk)),⟨hil,dn⟩,by simp only;omega,prep_to rfl rfl (hk1 (i+1) (p.1::dk)) hu rfl⟩
         ·have hpos:0 < tk.length:=List.length_pos_iff.2 h0
          have ap0:=fun t=>appNil [MB.row 3 [prgAV g] 0,.row 5 [.agg [I 1,I x.x,I x.y,I x.n,.sl false (spanAV p::m.map spanAV)]] 0] (l:=tk) (t:=t) hpos (by omega)
          have ap1:=fun t=>appI (H:=[MB.row 3 [prgAV g] 0,.row 5 [.agg [I 1,I x.x,I x.y,I x.n,.sl false (spanAV p::m.map spanAV)]] 0,.row 1 (tk.map I) 0]) (i:=2) (n:=tk.length) (rs:=tk) (l:=[p.1]) (t:=t) rfl rfl (by simp;omega)
          have ap2:=fun t=>appI (H:=[MB.row 3 [prgAV g] 0,.row 5 [.agg [I 1,I x.x,I x.y,I x.n,.sl false (spanAV p::m.map spanAV)]] 0,.row 1 ((tk++[p.1]).map I) 0]) (i:=2) (n:=tk.length+1) (rs:=tk++[p.1]) (l:=dk) (t:=t) rfl (by simp) (by omega)
          have hf:=fz_row (H:=[MB.row 3 [prgAV g] 0,.row 5 [.agg [I 1,I x.x,I x.y,I x.n,.sl false (spanAV p::m.map spanAV)]] 0,.row 1 ((tk++[p.1]++dk).map I) 0]) (id:=2) (k:=1) (tot:=tk.length+1+dk.length) (z:=0) (els:=(tk++[p.1]++dk).map I) rfl (by simp;omega) (plain_ints _)
          simp only[List.map_cons,List.map_nil,List.map_append,List.length_cons,List.length_nil,List.cons_append,List.nil_append,List.append_assoc,List.set,Nat.zero_add]at ap0 ap1 ap2 hf
          simp +contextual (disch:=omega) only[Tryz.f40,dd40,go_sem,simprocAttr,mu40,↓wrap_up,↓wrap_down,↓wrap_pred,↓wrap_sub_nat,hltk,hwk,hwi,hkl3,ht,hd,Bool.false_and,ap0,ap1,ap2,hf,List.append_assoc]
          refine⟨(by simp),?_⟩
          refine⟨(i+1,tk++([p.1]++dk)),⟨hil,dn⟩,by simp only;omega,?_⟩
          simp only[List.map_append,List.map_cons,List.map_nil]
          have:=hk1 (i+1) (tk++([p.1]++dk))
          simp only[List.map_append,List.map_cons,List.map_nil]at this
          exact prep_to rfl rfl this hu rfl
       ·have hltk:((k:Int) < ((l.length:Nat):Int))=False:=eq_false (by omega)
        have hkk2:k=l.length:=by omega
        have dn:=done (fun z hz=>absurd (List.getElem?_eq_some_iff.1 hz).1 (by omega))
        rw[← htk,← hdk]at dn
        simp +contextual (disch:=omega) only[Tryz.f40,dd40,go_sem,simprocAttr,mu40,↓wrap_up,↓wrap_down,↓wrap_pred,↓wrap_sub_nat,hltk,hwk,nonneg_nat,hkl3,ht,hd,Bool.false_and]
        refine⟨(by simp),?_⟩
        by_cases h0:tk=[]
        ·subst h0
         have ap1:=appNil [MB.row 3 [prgAV g] 0,.row 5 [.agg [I 1,I x.x,I x.y,I x.n,.sl false (spanAV p::m.map spanAV)]] 0] (l:=[p.1]) (t:=true) (by simp) (by simp)
         have ap2:=fun t=>appI (H:=[MB.row 3 [prgAV g] 0,.row 5 [.agg [I 1,I x.x,I x.y,I x.n,.sl false (spanAV p::m.map spanAV)]] 0,.row 1 [I p.1] 0]) (i:=2) (n:=1) (rs:=[p.1]) (l:=dk) (t:=t) rfl rfl (by omega)
         have hf:=fz_row (H:=[MB.row 3 [prgAV g] 0,.row 5 [.agg [I 1,I x.x,I x.y,I x.n,.sl false (spanAV p::m.map spanAV)]] 0,.row 1 (([p.1]++dk).map I) 0]) (id:=2) (k:=1) (tot:=1+dk.length) (z:=0) (els:=([p.1]++dk).map I) rfl (by simp;omega) (plain_ints _)
         simp only[List.map_cons,List.map_nil,List.length_cons,List.length_nil,List.cons_append,List.nil_append,List.set,Nat.zero_add]at ap1 ap2 hf
         simp +contextual (disch:=omega) only[Tryz.f40,dd40,go_sem,simprocAttr,mu40,↓wrap_up,↓wrap_down,↓wrap_pred,↓wrap_sub_nat,hltk,hwk,hwi,hkl3,ht,hd,Bool.false_and,appNil0,List.map_nil,ap1,ap2,hf]
         refine⟨(by simp),?_⟩
         exact⟨(i+1,[]++([p.1]++dk)),⟨hil,dn⟩,by simp only;omega,prep_to rfl rfl (hk1 (i+1) (p.1::dk)) hu rfl⟩
        ·have hpos:0 < tk.length:=List.length_pos_iff.2 h0
         have ap0:=fun t=>appNil [MB.row 3 [prgAV g] 0,.row 5 [.agg [I 1,I x.x,I x.y,I x.n,.sl false (spanAV p::m.map spanAV)]] 0] (l:=tk) (t:=t) hpos (by omega)
         have ap1:=fun t=>appI (H:=[MB.row 3 [prgAV g] 0,.row 5 [.agg [I 1,I x.x,I x.y,I x.n,.sl false (spanAV p::m.map spanAV)]] 0,.row 1 (tk.map I) 0]) (i:=2) (n:=tk.length) (rs:=tk) (l:=[p.1]) (t:=t) rfl rfl (by simp;omega)
         have ap2:=fun t=>appI (H:=[MB.row 3 [prgAV g] 0,.row 5 [.agg [I 1,I x.x,I x.y,I x.n,.sl false (spanAV p::m.map spanAV)]] 0,.row 1 ((tk++[p.1]).map I) 0]) (i:=2) (n:=tk.length+1) (rs:=tk++[p.1]) (l:=dk) (t:=t) rfl (by simp) (by omega)
         have hf:=fz_row (H:=[MB.row 3 [prgAV g] 0,.row 5 [.agg [I 1,I x.x,I x.y,I x.n,.sl false (spanAV p::m.map spanAV)]] 0,.row 1 ((tk++[p.1]++dk).map I) 0]) (id:=2) (k:=1) (tot:=tk.length+1+dk.length) (z:=0) (els:=(tk++[p.1]++dk).map I) rfl (by simp;omega) (plain_ints _)
         simp only[List.map_cons,List.map_nil,List.map_append,List.length_cons,List.length_nil,List.cons_append,List.nil_append,List.append_assoc,List.set,Nat.zero_add]at ap0 ap1 ap2 hf
         simp +contextual (disch:=omega) only[Tryz.f40,dd40,go_sem,simprocAttr,mu40,↓wrap_up,↓wrap_down,↓wrap_pred,↓wrap_sub_nat,hltk,hwk,hwi,hkl3,ht,hd,Bool.false_and,ap0,ap1,ap2,hf,List.append_assoc]
         refine⟨(by simp),?_⟩
         refine⟨(i+1,tk++([p.1]++dk)),⟨hil,dn⟩,by simp only;omega,?_⟩
         simp only[List.map_append,List.map_cons,List.map_nil]
         have:=hk1 (i+1) (tk++([p.1]++dk))
         simp only[List.map_append,List.map_cons,List.map_nil]at this
         exact prep_to rfl rfl this hu rfl
      ·exact prep_to rfl rfl (hk2 0 i p.1 l) (hu2 x p m) rfl
    ·have hs0:x.set=[]:=List.length_eq_zero_iff.1 (by omega)
     simp +contextual (disch:=omega) only[Tryz.f40,dd40,go_sem,simprocAttr,evAppend,mu40,↓wrap_up,↓wrap_down,↓wrap_pred,↓wrap_sub_nat,hx',h1,hs0,hlt,hwi,nonneg_nat]
     refine⟨(i+1,l),⟨hil,hL.skip fun y hy _ h3=>?_⟩,by simp only;omega,prep_to rfl rfl (hk1 i l) hu rfl⟩
     rw[hx]at hy;cases hy;exact absurd h3 hs
   ·simp +contextual (disch:=omega) only[Tryz.f40,dd40,go_sem,simprocAttr,evAppend,mu40,↓wrap_up,↓wrap_down,↓wrap_pred,↓wrap_sub_nat,hx',h1,hlt,hwi,nonneg_nat]
    refine⟨(i+1,l),⟨hil,hL.skip fun y hy h2 _=>?_⟩,by simp only;omega,prep_to rfl rfl (hk1 i l) hu rfl⟩
    rw[hx]at hy;cases hy;exact absurd h2 h1
  ·have hlt:((i:Int) < ((g.ins.length:Nat):Int))=False:=eq_false (by omega)
   simp +contextual (disch:=omega) only[Tryz.f40,dd40,go_sem,simprocAttr,evAppend,mu40,↓wrap_up,↓wrap_down,↓wrap_pred,↓wrap_sub_nat,hlt]
   exact⟨_,⟨l,rfl,by rw[show g.ins.length=i by omega];exact hL⟩,_,fz_plain _ (plain_ints l)⟩
 ·exact prep_to rfl rfl (hk1 0 []) hu rfl
end
section
attribute [local go_sem] tySzE List.head?_drop Nat.mul_one sameAt_zero sameAt_two sameAt_three sameAt_four sameAt_five room_ok
open Go.Proofs Go.RowKit Go.IntWalk
set_option maxRecDepth 100000
set_option maxHeartbeats 16000000
theorem XOk.txl {ins:List Ins} {xs:List RS} (h:XOk ins xs):∀(j:Nat) (r:RS),xs[j]?=some r→r.tx.length≤j:=by
 intro j
 induction j using Nat.strongRecOn with
 | ind j ih=>
   intro r hr
   rcases h.bk j r hr with ⟨_,h1⟩|⟨k,q,h1,_,h3,h4⟩
   ·rw[h1];exact Nat.zero_le _
   ·have:=ih k h1 q h3
    rw[h4];simp;omega
end
section
attribute [local go_sem] tySzE List.head?_drop Nat.mul_one sameAt_zero sameAt_two sameAt_three sameAt_four sameAt_five room_ok
open Go.Proofs Go.RowKit Go.IntWalk
set_option maxRecDepth 100000
set_option maxHeartbeats 16000000
abbrev rsAV (r:RS):AV:=.agg [NV r.st,I r.be,I r.sy]
theorem plain_rs (l:List RS):AV.plainL (l.map rsAV)=true:=by
 induction l with
 | nil=>rfl
 | cons a l ih=>simp[AV.plainL,AV.plain,ih]
abbrev entX (xs:List RS):List (AV×AV):=xs.map fun r=>(NV r.st,AV.bool true)
theorem find_ent (b:Nat):∀ xs:List RS,findMp (NV b) (entX xs)=if b∈xs.map (·.st) then some (.bool true) else none
 | []=>rfl
 | r::xs=>by
   have ih:=find_ent b xs
   simp only[entX,List.map_cons,findMp]at ih ⊢
   by_cases e:r.st=b
   ·subst e
    rw[if_pos (by simp[AV.beq])]
    simp
   ·rw[if_neg (by simp[AV.beq,e];omega),ih]
    simp[Ne.symm e]
theorem upd_ent (b:Nat):∀ xs:List RS,b ∉ xs.map (·.st)→updMp (NV b) (.bool true) (entX xs)=entX xs++[(NV b,.bool true)]
 | [],_=>rfl
 | r::xs,h=>by
   have h1:r.st≠b:=fun e=>h (by simp[e])
   have ih:=upd_ent b xs (fun hm=>h (by simp at hm ⊢;exact .inr hm))
   simp only[entX,List.map_cons,updMp]at ih ⊢
   rw[if_neg (by simp[AV.beq];omega),ih]
   rfl
theorem appRs {H:List MB} {i n:Nat} {rs:List RS} {a b c:Int} {t:Bool} (hi:getRow H i=some (3,rs.map rsAV,0)) (hn:rs.length=n) (hr:n+1≤4000000000) :
  evAppend Tryz.prog H 86 86 (.ms i 3 n 0 n) (.sl t [.agg [I a,I b,I c]])=some (.ms i 3 (n+1) 0 (n+1),H.set i (.row 3 (rs.map rsAV++[.agg [I a,I b,I c]]) 0)):=by
 have hs:srcElems Tryz.prog H 94 (.sl t [.agg [I a,I b,I c]])=some [.agg [I a,I b,I c]]:=rfl
 rw[evAppend_end (e:=94) (by kernel_rfl) (by kernel_rfl) (k:=3) (by kernel_rfl) (by_:=24) (by kernel_rfl) (ze:=.agg [I 0,I 0,I 0]) (by kernel_rfl) rfl (by omega) hs rfl hi (by rw[List.length_map];exact hn) (Nat.zero_le _) (room_ok (by simpa using hr) (by omega))]
 rfl
theorem ex_under (xs:List RS):[MB.row 3 (xs.map rsAV) 0,.mp (.int .i64) (entX xs)].all (MB.under 2)=true:=by
 have h1:=underL_plain 2 _ (plain_rs xs)
 have h2:MB.underE 2 (entX xs)=true:=by
  induction xs with
  | nil=>rfl
  | cons r xs ih=>
    have:=ih (underL_plain 2 _ (plain_rs xs))
    simp only[entX,List.map_cons,MB.underE,AV.under,this,Bool.and_self]
 simp[MB.under,h1,h2]
theorem fz_rs {id n len:Nat} {b:Bool} {H:List MB} {xs:List RS} (hr:getRow H id=some (3,xs.map rsAV,0)) (h1:xs.length=n) (h2:len≤n) :
  ∃ H',fz (.tup [.ms id 3 n 0 len,.bool b]) H=some (.tup [.sl false ((xs.take len).map rsAV),.bool b],H'):=by
 refine⟨mark H id len,?_⟩
 have h3:fzA (fzJ 6) (.ms id 3 n 0 len) H=some (.sl false ((xs.take len).map rsAV),mark H id len):=by
  have:=fzA_row' (n:=5) (len:=len) hr (by rw[List.length_map];exact h1) h2 (by rw[← List.map_take];exact plain_rs _)
  rwa [← List.map_take]at this
 simp only[fz,fzA_tup,fzL,h3]
 rfl
theorem XOk.take {ins:List Ins} {xs:List RS} (h:XOk ins xs) (n:Nat):XOk ins (xs.take n):=by
 refine⟨?_,fun r hr=>h.lt r (List.mem_of_mem_take hr),fun j r hr=>?_⟩
 ·rw[List.map_take];exact(List.take_sublist _ _).nodup h.nd
 ·rw[List.getElem?_take]at hr
  split at hr
  ·rename_i hj
   rcases h.bk j r hr with h1|⟨k,q,h1,h2,h3,h4⟩
   ·exact .inl h1
   ·exact .inr ⟨k,q,h1,h2,by rw[List.getElem?_take,if_pos (by omega)];exact h3,h4⟩
  ·cases hr
theorem XOk.addL {ins:List Ins} (hp:OkP ins) {xs:List RS} (h:XOk ins xs) {i n:Nat} {st:Nat} {q:RS} (hn:n∈(exS ins st).rd) (hi:xs[i]?=some q):XOk ins (Go.Ev.addL ins i q xs n):=by
 unfold Go.Ev.addL
 split
 ·exact h
 ·rename_i hne
  obtain⟨j',hj',h3,_⟩:=rd_op hp hn
  exact h.add (hp.sym n j' hj' h3) hne hi
def Explored (ins:List Ins) (xs:List RS) (fk:Bool):Prop:=XOk ins xs∧∀ syms,LeastTo ins ins.length syms→srch ins syms (ins.length+1) 0 xs0=(xs,fk)
theorem f36 {ins:List Ins} (h:OkP ins):∃ r:AV,(∃ xs fk,Explored ins xs fk∧r=.tup [.sl false (xs.map rsAV),.bool fk])∧∀ H,call Tryz.prog pol1 36 [.sl false (ins.map insAV)] H=some (r,H):=by
 have hl:=h.len
 refine call_runA Tryz.func36 rfl rfl rfl rfl rfl rfl (fun _=>rfl) (by simp[AV.plain,AV.plainL,plain_ints,plain_span,plain_ins,plain_prg]) ?_ ?_
 ·rintro r ⟨xs,fk,_,rfl⟩;simp[AV.plain,AV.plainL,plain_rs]
 simp +contextual (disch:=omega) only[Tryz.f36,dd36,go_sem,simprocAttr,evAppend,mu36,↓wrap_up,↓wrap_down,↓wrap_pred,↓wrap_sub_nat]
 have hk4:∀(i n:Nat),AV.underL 2 [.int .i64 i,.mpr 1,.ms 0 3 n 0 n,.sl false (ins.map insAV)]=true:=fun i n=>by
  have:=underL_plain 2 _ (plain_ins ins)
  simp[AV.underL,AV.under,this]
 refine W_for (σ:=Nat×List RS) (M:=(mskOf (pol1.mask 36) (pol1.gc 36) (pol1.acts 36) 0 4)) (by rfl) (fun s=>(⟨67,[(6,NV s.1),(5,.mpr 1),(4,.ms 0 3 s.2.length 0 s.2.length),(0,.sl false (ins.map insAV))],[.row 3 (s.2.map rsAV) 0,.mp (.int .i64) (entX s.2)]⟩:St))
  (fun s=>XOk ins s.2∧s.1≤s.2.length∧∀ syms,LeastTo ins ins.length syms→srch ins syms (ins.length+1 - s.1) s.1 s.2=srch ins syms (ins.length+1) 0 xs0) (fun s=>ins.length+1 - s.1) (0,xs0) ?_ ⟨xs0_ok h,Nat.zero_le _,fun _ _=>rfl⟩ _ ?_
 ·rintro⟨i,xs⟩ ⟨hx,hi,hr⟩
  simp only at hx hi hr ⊢
  have hxl:=hx.len
  obtain⟨f,hf⟩:∃ f,ins.length+1 - i=f+1:=⟨ins.length - i,by omega⟩
  rw[hf]at hr
  by_cases hil:i < xs.length
  ·obtain⟨q,hq⟩:∃ q,xs[i]?=some q:=⟨_,List.getElem?_eq_getElem hil⟩
   have hq':(xs.map rsAV)[i]?=some (rsAV q):=by simp[hq]
   have hqs:=hx.lt q (List.mem_of_getElem? hq)
   obtain⟨r75,⟨l,b,rfl,hb1,hb2⟩,h75⟩:=f75 h hqs
   have hlt:((i:Int) < ((xs.length:Nat):Int))=True:=eq_true (by omega)
   have hwi:IntKind.i64.wrap ((i:Int)+1)=((i+1:Nat):Int):=by rw[i64_in]<;>omega
   simp only[srch,hq]at hr
   cases b with
   | true=>
     simp only[if_pos (hb1 rfl)]at hr
     simp +contextual (disch:=omega) only[Tryz.f36,dd36,go_sem,simprocAttr,evAppend,mu36,↓wrap_up,↓wrap_down,↓wrap_pred,↓wrap_sub_nat,hlt,hq',h75,hwi,nonneg_nat]
     exact⟨_,⟨_,_,⟨hx.take (i+1),fun syms hs=>(hr syms hs).symm⟩,rfl⟩,fz_rs rfl rfl (by omega)⟩
   | false=>
     obtain⟨hnf,hperm,hsrt⟩:=hb2 rfl
     simp only[if_neg hnf]at hr
     simp +contextual (disch:=omega) only[Tryz.f36,dd36,go_sem,simprocAttr,evAppend,mu36,↓wrap_up,↓wrap_down,↓wrap_pred,↓wrap_sub_nat,hlt,hq',h75,hwi,nonneg_nat]
     have hll:=hperm.length_eq
     have hrl:=(rd_len h hqs).1
     have hk7:∀(j i n m:Nat),AV.underL 2 [.int .i64 j,.int .i64 m,.sl false (l.map NV),.int .i64 i,.mpr 1,.ms 0 3 n 0 n,.sl false (ins.map insAV)]=true:=fun j i n m=>by
      have h1:=underL_plain 2 _ (plain_ins ins)
      have h2:=underL_plain 2 _ (plain_nv l)
      simp[AV.underL,AV.under,h1,h2]
     refine W_for (σ:=Nat×List RS) (M:=(mskOf (pol1.mask 36) (pol1.gc 36) (pol1.acts 36) 0 10)) (by rfl) (fun s=>(⟨67,[(38,NV s.1),(37,NV l.length),(36,.sl false (l.map NV)),(6,NV i),(5,.mpr 1),(4,.ms 0 3 s.2.length 0 s.2.length),(0,.sl false (ins.map insAV))],[.row 3 (s.2.map rsAV) 0,.mp (.int .i64) (entX s.2)]⟩:St))
      (fun s=>XOk ins s.2∧s.1≤l.length∧s.2[i]?=some q∧(l.drop s.1).foldl (addL ins i q) s.2=l.foldl (addL ins i q) xs) (fun s=>l.length - s.1) (0,xs) ?_ ⟨hx,Nat.zero_le _,hq,rfl⟩ _ ?_
     ·rintro⟨j,ys⟩ ⟨hy,hj,hyq,hfo⟩
      simp only at hy hj hyq hfo ⊢
      have hyl:=hy.len
      have hyi:=(List.getElem?_eq_some_iff.1 hyq).1
      by_cases hjl:j < l.length
      ·obtain⟨n,hn⟩:∃ n,l[j]?=some n:=⟨_,List.getElem?_eq_getElem hjl⟩
       have hn':(l.map NV)[j]?=some (NV n):=by simp[hn]
       have hnr:n∈(exS ins q.st).rd:=hperm.mem_iff.1 (List.mem_of_getElem? hn)
       obtain⟨x,hx1,hop,hpos⟩:=rd_op h hnr
       have hx1':(ins.map insAV)[n]?=some (insAV x):=by simp[hx1]
       have hnl:=(List.getElem?_eq_some_iff.1 hx1).1
       obtain⟨p,m,hp⟩:∃ p m,x.set=p::m:=by cases hq:x.set with
        | nil=>rw[hq]at hpos;cases hpos
        | cons p m=>exact⟨p,m,rfl⟩
       have hk:keyI ins n=p.1:=by simp[keyI,hx1,hp]
       have hltj:((j:Int) < ((l.length:Nat):Int))=True:=eq_true (by omega)
       have hwn:IntKind.i64.wrap ((n:Int)+1)=((n+1:Nat):Int):=by rw[i64_in]<;>omega
       have hwj:IntKind.i64.wrap ((j:Int)+1)=((j+1:Nat):Int):=by rw[i64_in]<;>omega
       have hfi:=find_ent (n+1) ys
       rw[List.drop_eq_getElem_cons hjl,show l[j]=n from(List.getElem?_eq_some_iff.1 hn).2,List.foldl_cons]at hfo
       have hyn:=hy.addL h (i:=i) hnr hyq
       by_cases hbm:n+1∈ys.map (·.st)
       ·rw[if_pos hbm]at hfi
        have e:addL ins i q ys n=ys:=by unfold addL;rw[if_pos hbm]
        rw[e]at hfo
        simp +contextual (disch:=omega) only[Tryz.f36,dd36,go_sem,simprocAttr,evAppend,mu36,↓wrap_up,↓wrap_down,↓wrap_pred,↓wrap_sub_nat,hltj,hn',hwn,hwj,hfi,nonneg_nat]
        exact⟨(j+1,ys),⟨hy,hjl,hyq,hfo⟩,by simp only;omega,prep_to rfl rfl (hk7 (j+1) i ys.length l.length) (ex_under ys) rfl⟩
       ·rw[if_neg hbm]at hfi
        have e:addL ins i q ys n=ys++[⟨n+1,i,p.1,q.tx++[p.1]⟩]:=by unfold addL;rw[if_neg hbm,hk]
        rw[e]at hfo hyn
        have hup:=upd_ent (n+1) ys hbm
        have ap:=fun(t:Bool) (y:MB)=>appRs (H:=[MB.row 3 (ys.map rsAV) 0,y]) (i:=0) (n:=ys.length) (rs:=ys) (a:=((n+1:Nat):Int)) (b:=(i:Int)) (c:=p.1) (t:=t) rfl rfl (by omega)
        simp only[List.set]at ap
        simp +contextual (disch:=omega) only[Tryz.f36,dd36,go_sem,simprocAttr,mu36,↓wrap_up,↓wrap_down,↓wrap_pred,↓wrap_sub_nat,hltj,hn',hwn,hwj,hfi,hup,hx1',hp,ap,nonneg_nat]
        have hun:=ex_under (ys++[⟨n+1,i,p.1,q.tx++[p.1]⟩])
        simp only[entX,List.map_append,List.map_cons,List.map_nil]at hun
        refine⟨(j+1,ys++[⟨n+1,i,p.1,q.tx++[p.1]⟩]),⟨hyn,hjl,by rw[List.getElem?_append_left hyi];exact hyq,hfo⟩,by simp only;omega,?_⟩
        simp only[entX,List.map_append,List.map_cons,List.map_nil,List.length_append,List.length_cons,List.length_nil,Nat.zero_add]
        exact prep_to rfl rfl (hk7 (j+1) i (ys.length+1) l.length) hun rfl
      ·have hltj:((j:Int) < ((l.length:Nat):Int))=False:=eq_false (by omega)
       rw[List.drop_of_length_le (by omega),List.foldl_nil]at hfo
       simp +contextual (disch:=omega) only[Tryz.f36,dd36,go_sem,simprocAttr,evAppend,mu36,↓wrap_up,↓wrap_down,↓wrap_pred,↓wrap_sub_nat,hltj,hwi]
       refine⟨(i+1,ys),⟨hy,Nat.succ_le_of_lt hyi,fun syms hs=>?_⟩,by simp only;omega,prep_to rfl rfl (hk4 (i+1) ys.length) (ex_under ys) rfl⟩
       simp only
       rw[show ins.length+1 - (i+1)=f by omega,hfo,← adds_eq h i q hnf syms l xs hs.srt hsrt (hperm.nodup_iff.2 (rd_nodup h hqs)) (fun n hn=>?_) (fun n hn hnl=>absurd (hperm.mem_iff.2 hn) hnl)]
       ·exact hr syms hs
       ·have hnr:=hperm.mem_iff.1 hn
        obtain⟨x,hx1,hop,hpos⟩:=rd_op h hnr
        exact⟨hnr,hs.has n x (List.getElem?_eq_some_iff.1 hx1).1 hx1 hop hpos⟩
     ·exact prep_to rfl rfl (hk7 0 i xs.length l.length) (ex_under xs) rfl
  ·have hno:xs[i]?=none:=List.getElem?_eq_none (by omega)
   simp only[srch,hno]at hr
   have hlt:((i:Int) < ((xs.length:Nat):Int))=False:=eq_false (by omega)
   simp +contextual (disch:=omega) only[Tryz.f36,dd36,go_sem,simprocAttr,evAppend,mu36,↓wrap_up,↓wrap_down,↓wrap_pred,↓wrap_sub_nat,hlt]
   refine⟨_,⟨_,_,⟨hx,fun syms hs=>(hr syms hs).symm⟩,rfl⟩,?_⟩
   have:=fz_rs (b:=false) (H:=[.row 3 (xs.map rsAV) 0,.mp (.int .i64) (entX xs)]) (id:=0) (xs:=xs) (n:=xs.length) (len:=xs.length) rfl rfl (Nat.le_refl _)
   rwa [List.take_length]at this
 ·exact prep_to rfl rfl (hk4 0 1) (ex_under xs0) rfl
end
theorem addS_pre (ins:List Ins) (i:Nat) (r:RS) (xs:List RS) (s:Int):xs <+: addS ins i r xs s∧∀ b,leadS ins r.st s=some b→b∈(addS ins i r xs s).map (·.st):=by
 unfold addS
 cases hq:leadS ins r.st s with
 | none=>exact⟨List.prefix_refl _,fun b h=>by cases h⟩
 | some c=>
   simp only
   split
   ·rename_i hc
    exact⟨List.prefix_refl _,fun b h=>by cases h;exact hc⟩
   ·exact⟨List.prefix_append _ _,fun b h=>by cases h;simp⟩
theorem adds_pre (ins:List Ins) (i:Nat) (r:RS):∀(syms:List Int) (xs:List RS),xs <+: syms.foldl (addS ins i r) xs∧∀ s∈syms,∀ b,leadS ins r.st s=some b→b∈(syms.foldl (addS ins i r) xs).map (·.st)
 | [],xs=>⟨List.prefix_refl _,fun s hs=>by cases hs⟩
 | s::syms,xs=>by
   obtain⟨h1,h2⟩:=addS_pre ins i r xs s
   obtain⟨h3,h4⟩:=adds_pre ins i r syms (addS ins i r xs s)
   refine⟨h1.trans h3,fun s' hs b hb=>?_⟩
   rcases List.mem_cons.1 hs with rfl|hs
   ·exact(h3.map (·.st)).subset (h2 b hb)
   ·exact h4 s' hs b hb
def Gone (ins:List Ins) (xs:List RS) (r:RS):Prop:=¬ ForkS ins r.st∧∀ n∈(exS ins r.st).rd,n+1∈xs.map (·.st)
theorem srch_gone {ins:List Ins} (h:OkP ins) {syms:List Int} (hL:LeastTo ins ins.length syms):∀(f i:Nat) (xs xs':List RS),XOk ins xs→ins.length < f+i→srch ins syms f i xs=(xs',false)→(∀ j r,j < i→xs[j]?=some r→Gone ins xs r) →
  xs <+: xs'∧∀ r∈xs',Gone ins xs' r
 | 0,i,xs,xs',hx,hf,hs,hg=>by
   simp only[srch,Prod.mk.injEq,and_true]at hs
   subst hs
   have:=hx.len
   refine⟨List.prefix_refl _,fun r hr=>?_⟩
   obtain⟨j,hj⟩:=List.mem_iff_getElem?.1 hr
   exact hg j r (by have:=(List.getElem?_eq_some_iff.1 hj).1;omega) hj
 | f+1,i,xs,xs',hx,hf,hs,hg=>by
   simp only[srch]at hs
   cases hi:xs[i]? with
   | none=>
     rw[hi]at hs
     simp only[Prod.mk.injEq,and_true]at hs
     subst hs
     refine⟨List.prefix_refl _,fun r hr=>?_⟩
     obtain⟨j,hj⟩:=List.mem_iff_getElem?.1 hr
     have h1:=(List.getElem?_eq_some_iff.1 hj).1
     have h2:=List.getElem?_eq_none_iff.1 hi
     exact hg j r (by omega) hj
   | some r=>
     rw[hi]at hs
     simp only at hs
     split at hs
     ·simp at hs
     ·rename_i hfk
      obtain⟨h1,h2⟩:=adds_pre ins i r syms xs
      obtain⟨h3,h4,h5⟩:=XOk.adds h syms hx hi
      have hil:=(List.getElem?_eq_some_iff.1 hi).1
      have hpre:∀ j,j≤i→(syms.foldl (addS ins i r) xs)[j]?=xs[j]?:=fun j hj=>by
       obtain⟨t,ht⟩:=h1
       rw[← ht,List.getElem?_append_left (by omega)]
      obtain⟨h6,h7⟩:=srch_gone h hL f (i+1) _ xs' h3 (by omega) hs (fun j q hj hq=>by
       rw[hpre j (by omega)]at hq
       by_cases e:j=i
       ·subst e
        rw[hi]at hq
        cases hq
        refine⟨hfk,fun n hn=>?_⟩
        obtain⟨x,hx1,hx2,hx3⟩:=rd_op h hn
        have hn2:n < ins.length:=(List.getElem?_eq_some_iff.1 hx1).1
        exact h2 (keyI ins n) (hL.has n x hn2 hx1 hx2 hx3) (n+1) (rd_lead h hfk hn hx1 (key_first h hx1 hx3).1)
       ·obtain⟨g1,g2⟩:=hg j q (by omega) hq
        exact⟨g1,fun n hn=>(h1.map (·.st)).subset (g2 n hn)⟩)
      exact⟨h1.trans h6,h7⟩
theorem closed_of {ins:List Ins} (h:OkP ins) {syms:List Int} (hL:LeastTo ins ins.length syms) {xs:List RS} (hx:Explored ins xs false):Closed ins (fun st=>st∈xs.map (·.st))∧0∈xs.map (·.st):=by
 obtain⟨h1,h2⟩:=srch_gone h hL (ins.length+1) 0 xs0 xs (xs0_ok h) (by omega) (hx.2 syms hL) (fun j r hj=>absurd hj (Nat.not_lt_zero _))
 refine⟨⟨fun st hst=>?_,fun st hst=>?_,fun st s b hst hl=>?_⟩,(h1.map (·.st)).subset (by simp[xs0])⟩
 ·obtain⟨r,hr,rfl⟩:=List.mem_map.1 hst
  exact hx.1.lt r hr
 ·obtain⟨r,hr,rfl⟩:=List.mem_map.1 hst
  exact(h2 r hr).1
 ·obtain⟨r,hr,rfl⟩:=List.mem_map.1 hst
  obtain⟨n,i,rfl,hn,_,_⟩:=lead_rd h hl
  exact(h2 r hr).2 n hn
end Go.Ev
