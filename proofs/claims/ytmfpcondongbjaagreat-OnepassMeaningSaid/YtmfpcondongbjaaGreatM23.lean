/- A run that each symbol leads, and the first result of the ways: plain. -/
import Derived.Test.YtmfpcondongbjaaGreatM22
set_option linter.unusedVariables false
set_option linter.unusedSimpArgs false
open List (append_assoc cons_append ext_getElem? getElem?_eq_getElem getElem?_eq_none getElem?_zipWith length_cons map_append map_cons map_take mem_append mem_append_left mem_cons_of_mem mem_flatMap mem_map nil_append)
open Nat (add_assoc add_comm succ_mul)
open Bool (and_eq_true eq_false_iff)
open Go.Proofs Go.RowKit Go.IntWalk
set_option maxHeartbeats 8000000
set_option maxRecDepth 100000
set_option linter.unusedSectionVars false
namespace Go.Ev
def Ends (p:Prog1) (S:List Way) (r:Option (Nat×List Int)) (n:Nat):Prop:=
 ∃ n',n'<=n/\(match r with
   | some x=>∃ pc,∀ rest fuel,runW p 1 (n' + fuel) (S++rest) []=some [⟨pc,x.1,x.2⟩]
   | none=>∀ rest fuel,runW p 1 (n' + fuel) (S++rest) []=runW p 1 fuel rest [])
theorem Ends.nil (p:Prog1) (n:Nat):Ends p [] none n:=⟨0,Nat.zero_le _,fun rest fuel=>by simp⟩
theorem Ends.mono {p:Prog1}{S:List Way}{r:Option (Nat×List Int)}{n m:Nat} (h:Ends p S r n) (hm:n<=m):Ends p S r m:=by
 obtain⟨n',h1,h2⟩:=h;exact⟨n',Nat.le_trans h1 hm,h2⟩
theorem Ends.fst {p:Prog1}{S T:List Way}{x:Nat×List Int}{n:Nat} (h:Ends p S (some x) n):Ends p (S++T) (some x) n:=by
 obtain⟨n',h1,pc,h2⟩:=h;exact⟨n',h1,pc,fun rest fuel=>by rw[append_assoc];exact h2 _ _⟩
theorem Ends.app {p:Prog1}{S T:List Way}{r:Option (Nat×List Int)}{n m:Nat} (h:Ends p S none n) (g:Ends p T r m):Ends p (S++T) r (n+m):=by
 obtain⟨n',h1,h2⟩:=h;obtain⟨m',g1,g2⟩:=g;refine⟨n' + m',by omega,?_⟩;cases r with
 | none=>exact fun rest fuel=>by rw[append_assoc,add_assoc,h2,g2]
 | some x=>
   obtain⟨pc,g2⟩:=g2;exact⟨pc,fun rest fuel=>by rw[append_assoc,add_assoc,h2,g2]⟩
theorem Ends.or {p:Prog1}{S T:List Way}{r q:Option (Nat×List Int)}{n m:Nat} (h:Ends p S r n) (g:Ends p T q m):Ends p (S++T) (r.or q) (n+m):=by
 cases r with
 | none=>exact h.app g
 | some x=>exact(h.fst (T:=T)).mono (by omega)
theorem OA {p:Prog1}{fuel:Nat}{rest:List Way}{w:Way}:runW p 1 fuel rest [w]=some [w]:=by
 cases rest with
 | nil=>unfold runW;rfl
 | cons v rest=>unfold runW;simp
theorem Ends.done {p:Prog1}{w:Way}{S:List Way}{n:Nat} (hs:stepW p w=.done) (hn:1<=n):Ends p (w::S) (some (w.at_,w.regs)) n:=by
 refine⟨1,hn,w.pc,fun rest fuel=>?_⟩;rw[add_comm,cons_append,Ie (by simp),hs];exact OA
theorem Ends.step {p:Prog1}{w:Way}{S l:List Way}{r:Option (Nat×List Int)}{n:Nat} (hs:stepW p w=.ways l) (h:Ends p (l++S) r n):Ends p (w::S) r (n+1):=by
 obtain⟨n',h1,h2⟩:=h;refine⟨n' + 1,by omega,?_⟩;have e:∀ rest fuel,runW p 1 (n' + 1+fuel) (w::S++rest) []=runW p 1 (n' + fuel) (l++S++rest) []:=fun rest fuel=>by
  rw[show n' + 1+fuel=(n' + fuel)+1 by omega,cons_append,Ie (by simp),hs,append_assoc]
 cases r with
 | none=>exact fun rest fuel=>by rw[e,h2]
 | some x=>
   obtain⟨pc,h2⟩:=h2;exact⟨pc,fun rest fuel=>by rw[e,h2]⟩
structure ProgT (p:Prog1) (ins:List Ins) (t:List Int):Prop where
 ins:∀ n,p.ins n=ins[n]?
 has:∀ s n,p.has s n=match t[n]? with
  | some x=>hasSpan s x
  | none=>false
def hitB (ins:List Ins) (t:List Int) (p a:Nat):Bool:=match t[p]? with
 | some x=>leadB ins x a
 | none=>false
abbrev wayM (p:Nat) (regs:List Int) (w:Nat×List Bool):Way:=⟨w.1,p,markL regs w.2 p⟩
theorem NP (regs:List Int) (m:List Bool) (p:Int) (n:Nat) (hn:n<m.length):(markL regs m p).set n p=markL regs (m.set n true) p:=by
 apply ext_getElem?;intro q;by_cases e:n=q
 ·subst e;by_cases hl:n<regs.length
  ·have h1:n<(markL regs m p).length:=by simp[markL];omega
   rw[List.getElem?_set_self h1];simp[markL,getElem?_zipWith,hl,hn]
  ·rw[getElem?_eq_none (by simp[markL];omega),getElem?_eq_none (by simp[markL];omega)]
 ·rw[List.getElem?_set_ne e];simp[markL,getElem?_zipWith,List.getElem?_set_ne e]
theorem Lv (regs:List Int) (p:Int) (h:regs.length<=18):markL regs m0S p=regs:=by
 apply ext_getElem?;intro q;simp only[markL,getElem?_zipWith,m0S,List.getElem?_replicate];by_cases hq:q<regs.length
 ·rw[if_pos (by omega),getElem?_eq_getElem hq];simp
 ·rw[getElem?_eq_none (by omega)]
section
set_option linter.unusedSectionVars false
variable {ins:List Ins}{t:List Int}{P:Prog1} (h:OkP ins) (hP:ProgT P ins t) (p:Nat) (regs:List Int)
include h hP
theorem MR {a:Nat}{i:Ins} (m:List Bool) (hm:m.length=18) (hi:ins[a]?=some i) :
  (i.op=0->stepW P (wayM p regs (a,m))=.done) /\
  (i.op=1->stepW P (wayM p regs (a,m))=if hitB ins t p a=true then .ways [⟨a+1,p+1,markL regs m p⟩] else .ways []) /\
  (i.op=2->stepW P (wayM p regs (a,m))=.ways [wayM p regs (i.x.toNat,m),wayM p regs (i.y.toNat,m)]) /\
  (i.op=3->stepW P (wayM p regs (a,m))=.ways [wayM p regs (i.x.toNat,m)]) /\
  (i.op=4->stepW P (wayM p regs (a,m))=.ways [wayM p regs (a+1,m.set i.n.toNat true)]):=by
 have hp:P.ins a=some i:=by rw[hP.ins,hi]
 refine⟨fun e=>by simp[stepW,hp,e],fun e=>?_,fun e=>by simp[stepW,hp,e],fun e=>by simp[stepW,hp,e],fun e=>?_⟩
 ·have hh:=hP.has i.set p;cases ht:t[p]? with
  | none=>rw[ht]at hh;simp[stepW,hp,e,hh,hitB,ht]
  | some x=>rw[ht]at hh;simp[stepW,hp,e,hh,hitB,ht,leadB,hi]
 ·have h4:=(h.leads a i hi).2.2 e;simp only[stepW,hp,e];simp;rw[NP _ _ _ _ (by omega)]
theorem Nu {a:Nat}{s:List Nat}{w:WS} (ht:(visF ins (a::s) w).tw=false):w.tw=false/\a ∉ w.seen:=by
 constructor
 ·refine eq_false_iff.2 fun e=>?_;rw[CZ (.inl e)]at ht;simp at ht
 ·intro e;rw[CZ (.inr e)]at ht;simp at ht
theorem MX {a:Nat}{w:WS} (hw:w.Ok ins.length) (hn:a ∉ w.seen) (ha:a<ins.length):w.seen.length+1<=ins.length:=by
 have:=De (n:=ins.length) (l:=a::w.seen) (List.nodup_cons.2 ⟨hn,hw.1⟩) (fun b hb=>by
  rcases List.mem_cons.1 hb with rfl|hb
  ·exact ha
  ·exact hw.2 b hb)
 simpa using this
theorem Qe:∀(k:Nat) (stk:Stk) (s:CS) (w:WS),w.Ok ins.length->ins.length<k+w.seen.length->(∀ x∈stk,x.1<ins.length/\x.2.length=18)->(visF ins (stk.map (·.1)) w).tw=false->s.dn=false ->
  (∀ a∈(visF ins (stk.map (·.1)) w).stops,hitB ins t p a=true->a∈w.seen) ->
  ∃ sF,runS ins enC (yiC ins t p) k stk s=some sF/\sF.nx=s.nx/\sF.way=s.way/\Ends P (stk.map (wayM p regs)) (if sF.dn=true then some (p,markL regs sF.la p) else none) (ins.length-w.seen.length)
 | k,[],s,w,hw,hk,_,_,hd,_=>⟨s,by cases k<;>rfl,rfl,rfl,by rw[if_neg (by simp[hd])];exact Ends.nil _ _⟩
 | 0,_::_,s,w,hw,hk,_,_,_,_=>absurd hw.len (by omega)
 | k+1,(a,m)::rest,s,w,hw,hk,hst,htw,hd,hh=>by
   obtain⟨ha,hm⟩:=hst (a,m) (by simp);simp only at ha hm;obtain⟨i,hi⟩:∃ i,ins[a]?=some i:=⟨_,getElem?_eq_getElem ha⟩;simp only[map_cons]at htw hh |-;obtain⟨h1,h2⟩:=Nu h hP htw;rw[C5 hw h1 h2 hi]at htw hh;have hl:(stepS w i a).seen.length=w.seen.length+1:=by simp[stepS]
   have hok:=hw.step h2 hi;have hsl:=MX h hP hw h2 ha;have hrest:∀ x∈rest,x.1<ins.length/\x.2.length=18:=fun x hx=>hst x (mem_cons_of_mem _ hx);obtain⟨st0,st1,st2,st3,st4⟩:=MR h hP p regs m hm hi;simp only[runS,enC,hi]
   have go:∀ stk2:Stk,stk2.map (·.1)=nexts i a->(∀ x∈stk2,x.1<ins.length/\x.2.length=18)->stepW P (wayM p regs (a,m))=.ways (stk2.map (wayM p regs)) ->
     ∃ sF,runS ins enC (yiC ins t p) k (stk2++rest) s=some sF/\sF.nx=s.nx/\sF.way=s.way/\Ends P (wayM p regs (a,m)::rest.map (wayM p regs)) (if sF.dn=true then some (p,markL regs sF.la p) else none) (ins.length-w.seen.length):=by
    intro stk2 e2 e4 e5;obtain⟨sF,r1,r2,r3,r4⟩:=Qe k (stk2++rest) s (stepS w i a) hok (by rw[hl];omega) (fun x hx=>(mem_append.1 hx).elim (e4 x) (hrest x)) (by rw[map_append,e2];exact htw) hd (by
     rw[map_append,e2];intro b hb hx;exact mem_append_left _ (hh b hb hx))
    refine⟨sF,r1,r2,r3,?_⟩;rw[map_append]at r4;rw[hl]at r4;have:=Ends.step e5 r4;exact this.mono (by omega)
   rcases h.ops i (List.mem_of_getElem? hi) with h0|h0|h0|h0|h0
   ·rw[if_neg (by omega),if_neg (by omega),if_neg (by omega),if_pos (.inr h0)];have ey:chY ins t p s a m = { s with dn:=true,la:=m }:=by simp only[chY,hi,if_pos h0]
    simp only[yiC,ey,Bool.not_true];refine⟨_,rfl,rfl,rfl,?_⟩;rw[if_pos rfl];exact Ends.done (st0 h0) (by omega)
   ·rw[if_neg (by omega),if_neg (by omega),if_neg (by omega),if_pos (.inl h0)];have hst1:a∈(stepS w i a).stops:=by simp[stepS,stopB,h0]
    have hpre:=(FC h.in1 (ins.length+1) (nexts i a++rest.map (·.1)) [] (stepS w i a) hok (by omega) (fun b hb=>by
     rcases mem_append.1 hb with hb|hb
     ·exact h.in1 a i hi b hb
     ·obtain⟨x,hx,rfl⟩:=mem_map.1 hb;exact(hrest x hx).1)).2.2 rfl
    have hnh:hitB ins t p a=false:=by
     refine eq_false_iff.2 fun e=>h2 ?_;exact hh a (hpre.subset hst1) e
    have ey:chY ins t p s a m=s:=by
     simp only[chY,hi];rw[if_neg (by omega)];cases ht:t[p]? with
     | none=>rfl
     | some x=>
       simp only[hitB,ht,leadB,hi,h0,decide_true,Bool.true_and]at hnh;simp only;rw[if_neg (by simp[hnh])]
    simp only[yiC,ey,hd,Bool.not_false];have hs:=st1 h0;rw[if_neg (by simp[hnh])]at hs;have hnx:nexts i a=[]:=by simp[nexts,h0]
    exact go [] (by simp[hnx]) (fun x hx=>by simp at hx) (by simpa using hs)
   ·rw[if_pos h0];exact go [(i.x.toNat,m),(i.y.toNat,m)] (by simp[nexts,h0]) (fun x hx=>by
     have h1:=(h.leads a i hi).1 (.inl h0);have h2:=(h.leads a i hi).2.1 h0;simp at hx;rcases hx with rfl|rfl
     ·exact⟨h1.2,hm⟩
     ·exact⟨h2.2,hm⟩) (st2 h0)
   ·rw[if_neg (by omega),if_pos h0];exact go [(i.x.toNat,m)] (by simp[nexts,h0]) (fun x hx=>by
     have h1:=(h.leads a i hi).1 (.inr h0);simp at hx;subst hx;exact⟨h1.2,hm⟩) (st3 h0)
   ·rw[if_neg (by omega),if_neg (by omega),if_pos h0];exact go [(a+1,m.set i.n.toNat true)] (by simp[nexts,h0]) (fun x hx=>by
     have h1:=(h.leads a i hi).2.2 h0;simp at hx;subst hx;exact⟨h1.1,by simp[hm]⟩) (st4 h0)
theorem Qf:∀(k:Nat) (stk:Stk) (s:CS) (w:WS),w.Ok ins.length->ins.length<k+w.seen.length->(∀ x∈stk,x.1<ins.length/\x.2.length=18)->(visF ins (stk.map (·.1)) w).tw=false->s.dn=false->s.nx = -1 ->
  (∀ a∈(visF ins (stk.map (·.1)) w).stops,∀ b∈(visF ins (stk.map (·.1)) w).stops,hitB ins t p a=true->hitB ins t p b=true->a=b) ->
  ∃ sF,runS ins enC (yiC ins t p) k stk s=some sF /\
    ((sF.nx = -1/\Ends P (stk.map (wayM p regs)) (if sF.dn=true then some (p,markL regs sF.la p) else none) (ins.length-w.seen.length)) ∨
     ∃ a,a∈(visF ins (stk.map (·.1)) w).stops/\hitB ins t p a=true/\sF.nx=((a+1:Nat):Int)/\∀ r N,Ends P [⟨a+1,p+1,markL regs sF.way p⟩] r N->Ends P (stk.map (wayM p regs)) (r.or (if sF.dn=true then some (p,markL regs sF.la p) else none)) (N+(ins.length-w.seen.length)))
 | k,[],s,w,hw,hk,_,_,hd,hx,_=>⟨s,by cases k<;>rfl,.inl ⟨hx,by rw[if_neg (by simp[hd])];exact Ends.nil _ _⟩⟩
 | 0,_::_,s,w,hw,hk,_,_,_,_,_=>absurd hw.len (by omega)
 | k+1,(a,m)::rest,s,w,hw,hk,hst,htw,hd,hx,hh=>by
   obtain⟨ha,hm⟩:=hst (a,m) (by simp);simp only at ha hm;obtain⟨i,hi⟩:∃ i,ins[a]?=some i:=⟨_,getElem?_eq_getElem ha⟩;simp only[map_cons]at htw hh |-;obtain⟨h1,h2⟩:=Nu h hP htw;rw[C5 hw h1 h2 hi]at htw hh;rw[C5 hw h1 h2 hi];have hl:(stepS w i a).seen.length=w.seen.length+1:=by simp[stepS]
   have hok:=hw.step h2 hi;have hsl:=MX h hP hw h2 ha;have hrest:∀ x∈rest,x.1<ins.length/\x.2.length=18:=fun x hx=>hst x (mem_cons_of_mem _ hx);obtain⟨st0,st1,st2,st3,st4⟩:=MR h hP p regs m hm hi;simp only[runS,enC,hi]
   have go:∀ stk2:Stk,stk2.map (·.1)=nexts i a->(∀ x∈stk2,x.1<ins.length/\x.2.length=18)->stepW P (wayM p regs (a,m))=.ways (stk2.map (wayM p regs)) ->
     ∃ sF,runS ins enC (yiC ins t p) k (stk2++rest) s=some sF /\
       ((sF.nx = -1/\Ends P (wayM p regs (a,m)::rest.map (wayM p regs)) (if sF.dn=true then some (p,markL regs sF.la p) else none) (ins.length-w.seen.length)) ∨
        ∃ b,b∈(visF ins (nexts i a++rest.map (·.1)) (stepS w i a)).stops/\hitB ins t p b=true/\sF.nx=((b+1:Nat):Int)/\∀ r N,Ends P [⟨b+1,p+1,markL regs sF.way p⟩] r N->Ends P (wayM p regs (a,m)::rest.map (wayM p regs)) (r.or (if sF.dn=true then some (p,markL regs sF.la p) else none)) (N+(ins.length-w.seen.length))):=by
    intro stk2 e2 e4 e5;obtain⟨sF,r1,r2⟩:=Qf k (stk2++rest) s (stepS w i a) hok (by rw[hl];omega) (fun x hx=>(mem_append.1 hx).elim (e4 x) (hrest x)) (by rw[map_append,e2];exact htw) hd hx (by
     rw[map_append,e2];exact hh)
    rw[map_append,map_append,e2,hl]at r2;refine⟨sF,r1,?_⟩;rcases r2 with ⟨r2,r3⟩|⟨b,r2,r3,r4,r5⟩
    ·exact .inl ⟨r2,(Ends.step e5 r3).mono (by omega)⟩
    ·exact .inr ⟨b,r2,r3,r4,fun r N hr=>(Ends.step e5 (r5 r N hr)).mono (by omega)⟩
   rcases h.ops i (List.mem_of_getElem? hi) with h0|h0|h0|h0|h0
   ·rw[if_neg (by omega),if_neg (by omega),if_neg (by omega),if_pos (.inr h0)];have ey:chY ins t p s a m = { s with dn:=true,la:=m }:=by simp only[chY,hi,if_pos h0]
    simp only[yiC,ey,Bool.not_true];refine⟨_,rfl,.inl ⟨hx,?_⟩⟩;rw[if_pos rfl];exact Ends.done (st0 h0) (by omega)
   ·rw[if_neg (by omega),if_neg (by omega),if_neg (by omega),if_pos (.inl h0)];have hst1:a∈(stepS w i a).stops:=by simp[stepS,stopB,h0]
    have hpre:=(FC h.in1 (ins.length+1) (nexts i a++rest.map (·.1)) [] (stepS w i a) hok (by omega) (fun b hb=>by
     rcases mem_append.1 hb with hb|hb
     ·exact h.in1 a i hi b hb
     ·obtain⟨x,hx,rfl⟩:=mem_map.1 hb;exact(hrest x hx).1)).2.2 rfl
    have hain:=hpre.subset hst1;have hs:=st1 h0;have hnx:nexts i a=[]:=by simp[nexts,h0]
    cases hq:hitB ins t p a with
    | false=>
      have ey:chY ins t p s a m=s:=by
       simp only[chY,hi];rw[if_neg (by omega)];cases ht:t[p]? with
       | none=>rfl
       | some x=>
         simp only[hitB,ht,leadB,hi,h0,decide_true,Bool.true_and]at hq;simp only;rw[if_neg (by simp[hq])]
      simp only[yiC,ey,hd,Bool.not_false];rw[if_neg (by simp[hq])]at hs;exact go [] (by simp[hnx]) (fun x hx=>by simp at hx) (by simpa using hs)
    | true=>
      rw[if_pos hq]at hs;have ey:chY ins t p s a m = { s with nx:=((a+1:Nat):Int),way:=m }:=by
       simp only[chY,hi];rw[if_neg (by omega)];cases ht:t[p]? with
       | none=>simp[hitB,ht]at hq
       | some x=>
         simp only[hitB,ht,leadB,hi,h0,decide_true,Bool.true_and]at hq;simp only;rw[if_pos hq]
      simp only[yiC,ey,hd,Bool.not_false];rw[hnx,nil_append]at htw hh hain;rw[hnx,nil_append];obtain⟨sF,r1,r2,r3,r4⟩:=Qe h hP p regs k rest { s with nx:=((a+1:Nat):Int),way:=m } (stepS w i a) hok (by rw[hl];omega) hrest htw hd (fun b hb hx=>by
       rw[hh b hb a hain hx hq];simp[stepS])
      have hde:({ nx:=((a+1:Nat):Int),way:=m,dn:=false,la:=s.la }:CS) = { s with nx:=((a+1:Nat):Int),way:=m }:=by simp[hd]
      refine⟨sF,by first|exact r1|(rw[hde];exact r1),.inr ⟨a,hain,hq,r2,fun r N hr=>?_⟩⟩;rw[r3]at hr;rw[hl]at r4;exact(Ends.step hs (hr.or r4)).mono (by omega)
   ·rw[if_pos h0];exact go [(i.x.toNat,m),(i.y.toNat,m)] (by simp[nexts,h0]) (fun x hx=>by
     have h1:=(h.leads a i hi).1 (.inl h0);have h2:=(h.leads a i hi).2.1 h0;simp at hx;rcases hx with rfl|rfl
     ·exact⟨h1.2,hm⟩
     ·exact⟨h2.2,hm⟩) (st2 h0)
   ·rw[if_neg (by omega),if_pos h0];exact go [(i.x.toNat,m)] (by simp[nexts,h0]) (fun x hx=>by
     have h1:=(h.leads a i hi).1 (.inr h0);simp at hx;subst hx;exact⟨h1.2,hm⟩) (st3 h0)
   ·rw[if_neg (by omega),if_neg (by omega),if_pos h0];exact go [(a+1,m.set i.n.toNat true)] (by simp[nexts,h0]) (fun x hx=>by
     have h1:=(h.leads a i hi).2.2 h0;simp at hx;subst hx;exact⟨h1.1,by simp[hm]⟩) (st4 h0)
end
structure Closed (ins:List Ins) (Q:Nat->Prop):Prop where
 lt:∀ st,Q st->st<ins.length
 nf:∀ st,Q st->¬ ForkS ins st
 next:∀ st s b,Q st->leadS ins st s=some b->Q b
def chS (ins:List Ins) (t:List Int) (st p:Nat):CS:=(runS ins enC (yiC ins t p) (ins.length+1) [(st,m0S)] CS0).getD CS0
theorem HP {ins:List Ins} (h:OkP ins) {t:List Int}{st p a:Nat} (hf:¬ ForkS ins st) (ha:a∈(fromS ins st).stops) (hh:hitB ins t p a=true):∃ x,t[p]?=some x/\leadS ins st x=some (a+1):=by
 unfold hitB at hh;cases ht:t[p]? with
 | none=>simp[ht]at hh
 | some x=>
   rw[ht]at hh;simp only at hh;obtain⟨i,hi,h1,h2⟩:=Kj hh;obtain⟨q,hq,_⟩:=CW.1 h2;exact⟨x,rfl,Ja h hf (Oj ha hi h1 (List.length_pos_of_mem hq)) hi h2⟩
theorem Qp {ins:List Ins} (h:OkP ins) {t:List Int}{P:Prog1} (hP:ProgT P ins t) {st:Nat} (hst:st<ins.length) (hf:¬ ForkS ins st) (p:Nat) (regs:List Int) (hr:regs.length<=18) :
  runS ins enC (yiC ins t p) (ins.length+1) [(st,m0S)] CS0=some (chS ins t st p) /\
   (((chS ins t st p).nx = -1/\Ends P [⟨st,p,regs⟩] (if(chS ins t st p).dn=true then some (p,markL regs (chS ins t st p).la p) else none) ins.length) ∨
    ∃ b x,t[p]?=some x/\leadS ins st x=some b/\(chS ins t st p).nx=(b:Int)/\∀ r N,Ends P [⟨b,p+1,markL regs (chS ins t st p).way p⟩] r N->Ends P [⟨st,p,regs⟩] (r.or (if(chS ins t st p).dn=true then some (p,markL regs (chS ins t st p).la p) else none)) (N+ins.length)):=by
 have htw:(fromS ins st).tw=false:=by
  refine eq_false_iff.2 fun e=>hf (.inl e)
 obtain⟨sF,h1,h2⟩:=Qf h hP p regs (ins.length+1) [(st,m0S)] CS0 w0S (JN _) (by simp[w0S]) (fun x hx=>by simp at hx;subst hx;exact⟨hst,rfl⟩) htw rfl rfl (fun a ha b hb e1 e2=>by
  obtain⟨x,hx,hla⟩:=HP h hf ha e1;obtain⟨y,hy,hlb⟩:=HP h hf hb e2;rw[hx]at hy;cases hy;rw[hla]at hlb;simp only[Option.some.injEq]at hlb;omega)
 have hc:chS ins t st p=sF:=by unfold chS;rw[h1];rfl
 rw[hc];refine⟨h1,?_⟩;have e1:[((st,m0S):Nat×List Bool)].map (wayM p regs)=[⟨st,p,regs⟩]:=by simp[wayM,Lv _ _ hr]
 have e2:ins.length-w0S.seen.length=ins.length:=by simp[w0S]
 rw[e1,e2]at h2;rcases h2 with h2|⟨a,ha,hh,hn,hk⟩
 ·exact .inl h2
 ·obtain⟨x,hx,hl⟩:=HP h hf ha hh;exact .inr ⟨a+1,x,hx,hl,hn,hk⟩
def runO (ins:List Ins) (t:List Int):Nat->Nat->Nat->List Int->Option (Nat×List Int)->Option (Nat×List Int)
 | 0,_,_,_,res=>res
 | k+1,st,p,regs,res=>
   if(chS ins t st p).nx<0 then(if(chS ins t st p).dn=true then some (p,markL regs (chS ins t st p).la p) else res)
   else runO ins t k (chS ins t st p).nx.toNat (p+1) (markL regs (chS ins t st p).way p) (if(chS ins t st p).dn=true then some (p,markL regs (chS ins t st p).la p) else res)
theorem NQ (regs:List Int) (m:List Bool) (p:Int):(markL regs m p).length<=regs.length:=by simp[markL];omega
theorem Er (regs:List Int) (m:List Bool) (p:Int) (c:Nat):(markL regs m p).take c=markL (regs.take c) m p:=by
 apply ext_getElem?;intro q;simp only[markL,List.getElem?_take,getElem?_zipWith];by_cases hq:q<c
 ·simp[hq]
 ·simp[hq]
theorem If {ins:List Ins} (h:OkP ins) {t:List Int}{P:Prog1} (hP:ProgT P ins t) {Q:Nat->Prop} (hQ:Closed ins Q) (c:Nat):∀(k st p:Nat) (regs:List Int) (res:Option (Nat×List Int)),Q st->t.length<p+k->p<=t.length->regs.length<=18 ->
  ∃ r:Option (Nat×List Int),runO ins t k st p regs res=r.or res/\Ends P [⟨st,p,regs.take c⟩] (r.map fun x=>(x.1,x.2.take c)) (k*ins.length)
 | 0,st,p,regs,res,_,hk,hp,_=>absurd hk (by omega)
 | k+1,st,p,regs,res,hq,hk,hp,hr=>by
   obtain⟨_,h2⟩:=Qp h hP (hQ.lt st hq) (hQ.nf st hq) p (regs.take c) (by simp;omega);unfold runO;have hnm:(k+1)*ins.length=k*ins.length+ins.length:=by rw[succ_mul]
   rcases h2 with ⟨h2,h3⟩|⟨b,x,hx,hl,hn,hk2⟩
   ·rw[if_pos (by omega)];cases hd:(chS ins t st p).dn with
    | true=>
      rw[hd,if_pos rfl]at h3;refine⟨some (p,markL regs (chS ins t st p).la p),by simp,?_⟩;simp only[Option.map_some,Er];exact h3.mono (by omega)
    | false=>
      rw[hd,if_neg (by simp)]at h3;refine⟨none,by simp,?_⟩;exact h3.mono (by omega)
   ·rw[if_neg (by omega)];have hpt:=(List.getElem?_eq_some_iff.1 hx).1;obtain⟨r,r1,r2⟩:=If h hP hQ c k b (p+1) (markL regs (chS ins t st p).way p) (if(chS ins t st p).dn=true then some (p,markL regs (chS ins t st p).la p) else res) (hQ.next st x b hq hl) (by omega) (by omega) (Nat.le_trans (NQ _ _ _) hr);rw[hn,Int.toNat_natCast,r1];rw[Er]at r2;have h3:=hk2 _ _ r2;rw[hnm];cases hd:(chS ins t st p).dn with
    | true=>
      rw[hd,if_pos rfl]at h3;refine⟨r.or (some (p,markL regs (chS ins t st p).la p)),by cases r<;>simp,?_⟩;have e:Option.map (fun x:Nat×List Int=>(x.1,x.2.take c)) (r.or (some (p,markL regs (chS ins t st p).la p)))=(r.map fun x=>(x.1,x.2.take c)).or (some (p,markL (regs.take c) (chS ins t st p).la p)):=by
       cases r<;>simp[Er]
      rw[e];exact h3
    | false=>
      rw[hd,if_neg (by simp)]at h3;refine⟨r,by simp,?_⟩;have e:(Option.map (fun x:Nat×List Int=>(x.1,x.2.take c)) r).or none=r.map fun x=>(x.1,x.2.take c):=by cases r<;>rfl
      rw[e]at h3;exact h3
def En (P:Prog1) (w:Way) (r:Rs):Prop:=∃ N,Ends P [w] r N
theorem En.dead {P:Prog1}{w:Way} (h:stepW P w=.ways []):En P w none:=⟨1,Ends.step h (Ends.nil P 0)⟩
theorem En.one {P:Prog1}{w w':Way}{r:Rs} (h:stepW P w=.ways [w']) (h1:En P w' r):En P w r:=by
 obtain⟨N,h1⟩:=h1;exact⟨N+1,Ends.step h (by simpa using h1)⟩
theorem En.two {P:Prog1}{w a b:Way}{r r':Rs} (h:stepW P w=.ways [a,b]) (h1:En P a r) (h2:En P b r'):En P w (r.or r'):=by
 obtain⟨N,h1⟩:=h1;obtain⟨M,h2⟩:=h2;exact⟨N+M+1,Ends.step h (by simpa using h1.or h2)⟩
theorem Ends.uniq {P:Prog1}{w:Way}{r r':Rs}{N M:Nat} (h:Ends P [w] r N) (g:Ends P [w] r' M):r=r':=by
 obtain⟨n,_,h⟩:=h;obtain⟨m,_,g⟩:=g;have e0:∀ fuel,runW P 1 fuel [] []=some []:=fun fuel=>by unfold runW;rfl
 cases r with
 | none=>
   simp only at h;cases r' with
   | none=>rfl
   | some x=>
     obtain⟨pc,g⟩:=g;have a:=h [] m;have b:=g [] n;rw[e0]at a;rw[add_comm m n,a]at b;simp at b
 | some x=>
   obtain⟨pc,h⟩:=h;cases r' with
   | none=>
     simp only at g;have a:=g [] n;have b:=h [] m;rw[e0]at a;rw[add_comm n m,a]at b;simp at b
   | some y=>
     obtain⟨pc',g⟩:=g;have a:=h [] m;have b:=g [] n;rw[add_comm m n,a]at b;simp at b;obtain⟨x1,x2⟩:=x;obtain⟨y1,y2⟩:=y;simp_all
def LiesE (p:Prog1) (f:Nat) (l:List Ins):Prop:=∀(j:Nat) (x:Ins),l[j]?=some x->p.ins (f+j)=some x
theorem LiesE.left {p:Prog1}{f:Nat}{a b:List Ins} (h:LiesE p f (a++b)):LiesE p f a:=fun j x hj=>h j x (by
 have:=(List.getElem?_eq_some_iff.1 hj).1
 rwa [List.getElem?_append_left this])
theorem LiesE.right {p:Prog1}{f n:Nat}{a b:List Ins} (h:LiesE p f (a++b)) (hn:a.length=n):LiesE p (f+n) b:=fun j x hj=>by
 have:=h (n+j) x (by rw[List.getElem?_append_right (by omega),show n+j-a.length=j by omega];exact hj)
 rwa [<- add_assoc]at this
theorem LiesE.head {p:Prog1}{f:Nat}{x:Ins}{l:List Ins} (h:LiesE p f (x::l)):p.ins f=some x:=h 0 x rfl
theorem LiesE.tail {p:Prog1}{f:Nat}{x:Ins}{l:List Ins} (h:LiesE p f (x::l)):LiesE p (f+1) l:=fun j y hj=>by
 have:=h (j+1) y hj
 rwa [show f+(j+1)=f+1+j by omega]at this
theorem Es {α:Type}{p:Prog1}{g:α->List Ins}:∀ {l:List α}{f L:Nat} (k:Nat) (x:α),(∀ y∈l,(g y).length=L)->LiesE p f (l.flatMap g)->l[k]?=some x->LiesE p (f+k*L) (g x)
 | [],_,_,k,x,_,_,h=>by simp at h
 | y::l,f,L,0,x,hl,h,hk=>by
   simp only[List.getElem?_cons_zero,Option.some.injEq]at hk;subst hk;rw[List.flatMap_cons]at h
   simpa using h.left
 | y::l,f,L,k+1,x,hl,h,hk=>by
   rw[List.flatMap_cons]at h;have h1:=h.right (hl y (by simp));have:=Es (f:=f+L) k x (fun z hz=>hl z (by simp[hz])) h1 (by simpa using hk)
   rwa [show f+(k+1)*L=f+L+k*L by rw[succ_mul];omega]
def repE (f L:Nat) (mn mx:Int) (k:Int):Nat:=if k<=mn then f+k.toNat*L else if mx = -1 then f+mn.toNat*L else f+mn.toNat*L+(k-mn).toNat*(L+1)
theorem OG {p:Prog1}{t:List Int}{G:List Int->List Int}{kid:Re}{f L:Nat}{mn mx md:Int}{e:Nat}{K:Nat->List Int->Rs} (hg:∀ g,(codeG kid g).length=L) (h0:0<=mn) (hmx:mx = -1∨mn<=mx) (he:e=if mx = -1 then f+mn.toNat*L+L+2 else f+mx.toNat*L+(mx.toNat-mn.toNat))
  (hc:∀ k:Nat,(k:Int)<mn->LiesE p (f+k*L) (codeG kid (f+k*L)))
  (hm:mx = -1->LiesE p (f+mn.toNat*L) (insSplit md ((f+mn.toNat*L+1:Nat):Int) (e:Int)::(codeG kid (f+mn.toNat*L+1)++[⟨3,((f+mn.toNat*L:Nat):Int),0,0,[]⟩])))
  (hb:mx≠-1->∀ k:Nat,(k:Int)<mx-mn->LiesE p (f+mn.toNat*L+k*(L+1)) (insSplit md ((f+mn.toNat*L+k*(L+1)+1:Nat):Int) (e:Int)::codeG kid (f+mn.toNat*L+k*(L+1)+1)))
  (hpos:∀ i,i<=t.length->∀ j∈outs t kid i,i<j/\j<=t.length)
  (hK:∀(g:Nat) (i:Nat) (c:List Int) (k':Nat->List Int->Rs),LiesE p g (codeG kid g)->i<=t.length->(∀ j∈outs t kid i,∀ d,En p ⟨g+L,j,G d⟩ (k' j d))->En p ⟨g,i,G c⟩ (fst t kid k' i c)) :
  ∀(n:Nat) (k:Int) (i:Nat) (c:List Int),0<=k->(mx = -1∨k<=mx)->i<=t.length->t.length+1-i<=n->(∀ j∈repO (outs t kid) mn mx md n k i,∀ d,En p ⟨e,j,G d⟩ (K j d)) ->
   En p ⟨repE f L mn mx k,i,G c⟩ (repK (fst t kid) mn mx md K n k i c)
 | 0,k,i,c,_,_,hi,hn,_=>by omega
 | n+1,k,i,c,hk,hkx,hi,hn,hx=>by
   have ih:=fun j (hj:j∈outs t kid i) (hk1:mx = -1∨k+1<=mx) d hx=>OG (G:=G) (md:=md) (K:=K) hg h0 hmx he hc hm hb hpos hK n (k+1) j d (by omega) hk1 (hpos i hi j hj).2 (by have:=(hpos i hi j hj).1;omega) hx;rw[repO]at hx;rw[repK];by_cases h1:k<mn
   ·rw[if_pos h1]at hx;rw[if_pos h1];have hpc:repE f L mn mx k=f+k.toNat*L:=by rw[repE,if_pos (by omega)]
    have hpc1:repE f L mn mx (k+1)=f+k.toNat*L+L:=by rw[repE,if_pos (by omega),show (k+1).toNat=k.toNat+1 by omega,succ_mul];omega
    rw[hpc];refine hK _ i c _ (hc k.toNat (by omega)) hi (fun j hj d=>?_);rw[<- hpc1];exact ih j hj (by omega) d (fun q hq=>hx q (mem_flatMap.2 ⟨j,hj,hq⟩))
   ·rw[if_neg h1]at hx;rw[if_neg h1];by_cases hm1:mx = -1
    ·have hl:=hm hm1;have hpc:repE f L mn mx k=f+mn.toNat*L:=by
      rw[repE];by_cases hkm:k<=mn
      ·rw[if_pos hkm,show k=mn by omega]
      ·rw[if_neg hkm,if_pos hm1]
     have hpc1:repE f L mn mx (k+1)=f+mn.toNat*L:=by rw[repE,if_neg (by omega),if_pos hm1]
     rw[hpc];simp only[if_pos (Or.inl hm1:mx = -1∨k<mx)]at hx |-;have hj3:p.ins (f+mn.toNat*L+1+L)=some ⟨3,((f+mn.toNat*L:Nat):Int),0,0,[]⟩:=(hl.tail.right (hg _)).head;have once:(∀ j∈(outs t kid i).flatMap (repO (outs t kid) mn mx md n (k+1)),∀ d,En p ⟨e,j,G d⟩ (K j d))->En p ⟨f+mn.toNat*L+1,i,G c⟩ (fst t kid (repK (fst t kid) mn mx md K n (k+1)) i c):=fun hx=>by
      refine hK _ i c _ hl.tail.left hi (fun j hj d=>?_);have h:=ih j hj (.inl hm1) d (fun q hq=>hx q (mem_flatMap.2 ⟨j,hj,hq⟩));rw[hpc1]at h;refine En.one ?_ h;simp only[stepW,hj3];rfl
     have hs:p.ins (f+mn.toNat*L)=some (insSplit md ((f+mn.toNat*L+1:Nat):Int) (e:Int)):=hl.head;by_cases hd:md=1
     ·rw[if_pos hd]at hx |-;exact En.two (w:=⟨f+mn.toNat*L,i,G c⟩) (by simp only[stepW,hs,insSplit,if_pos hd];rfl) (hx i (by simp) c) (once fun j hj=>hx j (mem_cons_of_mem _ hj))
     ·rw[if_neg hd]at hx |-;exact En.two (w:=⟨f+mn.toNat*L,i,G c⟩) (by simp only[stepW,hs,insSplit,if_neg hd];rfl) (once fun j hj=>hx j (mem_append_left _ hj)) (hx i (by simp) c)
    ·have hmn:(mx.toNat:Int)=mx:=by omega
     by_cases h2:k<mx
     ·have hl:=hb hm1 (k-mn).toNat (by omega);have hpc:repE f L mn mx k=f+mn.toNat*L+(k-mn).toNat*(L+1):=by
       rw[repE];by_cases hkm:k<=mn
       ·rw[if_pos hkm,show k=mn by omega];simp
       ·rw[if_neg hkm,if_neg hm1]
      have hpc1:repE f L mn mx (k+1)=f+mn.toNat*L+(k-mn).toNat*(L+1)+1+L:=by
       rw[repE,if_neg (by omega),if_neg hm1,show (k+1-mn).toNat=(k-mn).toNat+1 by omega,succ_mul];omega
      rw[hpc];generalize f+mn.toNat*L+(k-mn).toNat*(L+1)=pc at *;simp only[if_pos (Or.inr h2:mx = -1∨k<mx)]at hx |-;have once:(∀ j∈(outs t kid i).flatMap (repO (outs t kid) mn mx md n (k+1)),∀ d,En p ⟨e,j,G d⟩ (K j d))->En p ⟨pc+1,i,G c⟩ (fst t kid (repK (fst t kid) mn mx md K n (k+1)) i c):=fun hx=>by
       refine hK _ i c _ hl.tail hi (fun j hj d=>?_);have h:=ih j hj (.inr (by omega)) d (fun q hq=>hx q (mem_flatMap.2 ⟨j,hj,hq⟩))
       rwa [hpc1]at h
      have hs:p.ins pc=some (insSplit md ((pc+1:Nat):Int) (e:Int)):=hl.head;by_cases hd:md=1
      ·rw[if_pos hd]at hx |-;exact En.two (w:=⟨pc,i,G c⟩) (by simp only[stepW,hs,insSplit,if_pos hd];rfl) (hx i (by simp) c) (once fun j hj=>hx j (mem_cons_of_mem _ hj))
      ·rw[if_neg hd]at hx |-;exact En.two (w:=⟨pc,i,G c⟩) (by simp only[stepW,hs,insSplit,if_neg hd];rfl) (once fun j hj=>hx j (mem_append_left _ hj)) (hx i (by simp) c)
     ·have hkm:k=mx:=by omega
      have hpc:repE f L mn mx k=e:=by
       rw[he,if_neg hm1,repE];by_cases hkn:k<=mn
       ·have:mx=mn:=by omega
        rw[if_pos hkn,hkm,this];simp
       ·rw[if_neg hkn,if_neg hm1,hkm];have e1:mx.toNat=mn.toNat+(mx-mn).toNat:=by omega
        rw[e1,Nat.add_mul,Nat.mul_succ];omega
      rw[hpc];simp only[if_neg (show ¬ (mx = -1∨k<mx) by omega)]at hx |-;have hO:(if md=1 then [i] else []++[i])=[i]:=by split<;>rfl
      have hO2:(if md=1 then(K i c).or none else none.or (K i c))=K i c:=by split<;>simp
      rw[hO]at hx;rw[hO2];exact hx i (by simp) c
def aO (C:Nat) (o:List (Int×Nat)) (c:List Int):List Int:=o.foldl (fun r p=>r.set (2*p.1-2).toNat p.2) (c.take C)
theorem PX (C:Nat) (o:List (Int×Nat)) (n:Int) (a:Nat) (c:List Int):aO C (o++[(n,a)]) c=(aO C o c).set (2*n-2).toNat a:=by simp[aO]
theorem Ku:∀(o:List (Int×Nat)) (r:List Int) (x:Nat) (v:Int),(∀ p∈o,(2*p.1-2).toNat≠x)->o.foldl (fun r p=>r.set (2*p.1-2).toNat p.2) (r.set x v)=(o.foldl (fun r p=>r.set (2*p.1-2).toNat p.2) r).set x v
 | [],r,x,v,_=>rfl
 | p::o,r,x,v,h=>by
   simp only[List.foldl_cons];rw[List.set_comm _ _ (Ne.symm (h p (by simp))),Ku o _ x v fun q hq=>h q (by simp[hq])]
theorem PW (C:Nat) (o:List (Int×Nat)) (c:List Int) (x:Nat) (v:Int) (h:∀ p∈o,(2*p.1-2).toNat≠x):aO C o (c.set x v)=(aO C o c).set x v:=by
 unfold aO;rw[List.take_set,Ku o _ x v h]
theorem QX (C:Nat) (o:List (Int×Nat)) (ho:∀ p∈o,1<=p.1) (n:Int) (hn:1<=n) (hno:n ∉ o.map (·.1)) (c:List Int) (i j:Nat):aO C o (setC c n i j)=(aO C (o++[(n,i)]) c).set (2*n-1).toNat j:=by
 rw[PX,setC,PW,PW]
 ·intro p hp e;have:=ho p hp;exact hno (mem_map.2 ⟨p,hp,by omega⟩)
 ·intro p hp e;have:=ho p hp;omega
section
variable {caps top:Int}{t:List Int}{p:Prog1}{C:Nat}
mutual
theorem K7 (ho:∀ s k,p.has s k=match t[k]? with
  | some x=>hasSpan s x
  | none=>false):∀(r:Re) (o:List (Int×Nat)),(∀ q∈o,1<=q.1)->GoodC caps top r->compG (o.map (·.1)) r=true->noAs r=true->∀(f:Nat),LiesE p f (codeG r f)->∀(i:Nat) (c:List Int) (K:Nat->List Int->Rs),i<=t.length ->
  (∀ j∈outs t r i,∀ d,En p ⟨f+lenG r,j,aO C o d⟩ (K j d))->En p ⟨f,i,aO C o c⟩ (fst t r K i c)
 | .mk op set kids mn mx md n neg,o,ho1,hr,hcp,hna,f,hl,i,c,K,hi,hx=>by
   have hop:=hr.op;obtain⟨_,hkd,hrp,hcn,_,_⟩:=BG hr.whole;rw[compG]at hcp;rw[noAs,and_eq_true]at hna;have h11:op≠11:=by simpa using hna.1
   have hC:=fun h=>PA ho kids o ho1 hr.kids h hna.2;have hA:=fun h=>PB ho kids o ho1 hr.kids h hna.2;have hH:=fun o ho1 h=>Ss ho kids o ho1 hr.kids h hna.2;split at hcp
   ·cases hcp
   rename_i h4n;rw[codeG]at hl;rw[lenG]at hx;rw[outs]at hx;rw[fst];rcases hop with rfl|rfl|rfl|rfl|rfl|rfl|rfl
   ·have hk0:kids=[]:=List.length_eq_zero_iff.1 (by simpa [kidsG] using hkd);subst hk0;have:=hx i (by simp) c
    simpa [lenL] using this
   ·simp only[if_true,true_or]at hl hx |-;have hin:=hl.head;have hb:=ho set i;cases hti:t[i]? with
    | none=>
      simp only[hti]at hb;exact En.dead (by simp[stepW,hin,hb])
    | some x=>
      simp only[hti]at hb hx;by_cases hh:hasSpan set x=true
      ·simp only[if_pos hh]at hx |-;exact En.one (by simp[stepW,hin,hb,hh]) (hx (i+1) (by simp) c)
      ·simp only[if_neg hh];exact En.dead (by simp[stepW,hin,hb,hh])
   ·simp at hl hx hcp |-;exact hC hcp f hl i c K hi hx
   ·simp at hl hx hcp |-;refine hA hcp f (f+(lenL kids+2*(kids.length-1))) ?_ (by omega) hl i c K hi hx;have:2<=kids.length:=by simpa [kidsG] using hkd
    intro e;rw[e]at this;simp at this
   ·obtain⟨k,rfl⟩:∃ k,kids=[k]:=List.length_eq_one_iff.1 (by simpa [kidsG] using hkd);have hrg:=hrp rfl;simp only[repG,and_eq_true,Bool.or_eq_true,decide_eq_true_eq,beq_iff_eq]at hrg;simp only[show ¬(4:Int)=1 by decide,show ¬(4:Int)=11 by decide,show ¬(4:Int)=2 by decide,show ¬(4:Int)=3 by decide,show ¬(4:Int)=5 by decide,if_false,if_true,or_self,lenL,codeHd,Nat.add_zero]at hl hx hcp |-;rw[if_neg (by omega)]at hcp;have hgk:=hr.kids k (by simp);have ho1':outsH t [k]=outs t k:=funext fun i=>by rw[outsH]
    have hf1:fstH t [k]=fst t k:=funext fun k=>funext fun i=>funext fun c=>by rw[fstH]
    rw[ho1']at hx;rw[hf1];rw[compL,and_eq_true]at hcp;have hnl:nullG k=false:=by
     cases hq:nullG k with
     | false=>rfl
     | true=>exact absurd ⟨rfl,.inr (by rw[nullHd];exact hq)⟩ h4n
    have hcl:=Hm hgk f mn.toNat;unfold copiesG at hcl;have hcop:LiesE p f ((List.range mn.toNat).flatMap fun i=>codeG k (f+i*lenG k)):=by
     split at hl
     ·exact hl.left
     ·exact hl.left
    have h:=OG (p:=p) (t:=t) (G:=aO C o) (kid:=k) (f:=f) (L:=lenG k) (mn:=mn) (mx:=mx) (md:=md) (K:=K) (e:=if mx = -1 then f+mn.toNat*lenG k+lenG k+2 else f+mx.toNat*lenG k+(mx.toNat-mn.toNat))
     (fun g=>BH caps top k g hgk) (by omega) (by omega) rfl
     (fun q hq=>Es (g:=fun i=>codeG k (f+i*lenG k)) q q (fun y hy=>BH caps top k _ hgk) hcop (by rw[List.getElem?_range (by omega)]))
     (fun hm=>by
       rw[if_pos hm]at hl;rw[if_pos hm];exact hl.right hcl)
     (fun hm q hq=>by
       rw[if_neg hm]at hl;rw[if_neg hm]
       exact Es (g:=fun j=>insSplit md ((f+mn.toNat*lenG k+j*(lenG k+1)+1:Nat):Int) ((f+mx.toNat*lenG k+(mx.toNat-mn.toNat):Nat):Int)::codeG k (f+mn.toNat*lenG k+j*(lenG k+1)+1)) q q
        (fun y hy=>by simp[BH caps top k _ hgk]) (hl.right hcl) (by rw[List.getElem?_range (by omega)]))
     (fun i hi j hj=>⟨Dd t k i hnl hgk.cod hi j hj,(CN t k i hi j hj).2⟩)
     (fun g i c k' hl hi hx=>hH o ho1 (by rw[compL,compL,hcp.1];rfl) g hl i c k' hi hx)
     (t.length+1-i) 0 i c (Int.le_refl _) (by omega) hi (Nat.le_refl _)
     (fun j hj d=>by
       have:=hx j hj d;have he:f+(if mx = -1 then(mn.toNat+1)*lenG k+2 else mx.toNat*lenG k+(mx.toNat-mn.toNat))=if mx = -1 then f+mn.toNat*lenG k+lenG k+2 else f+mx.toNat*lenG k+(mx.toNat-mn.toNat):=by
        split
        ·rw[succ_mul];omega
        ·omega
       rwa [he]at this)
    have hpc:repE f (lenG k) mn mx 0=f:=by rw[repE,if_pos (by omega)];simp
    rwa [hpc]at h
   ·obtain⟨k,rfl⟩:∃ k,kids=[k]:=List.length_eq_one_iff.1 (by simpa [kidsG] using hkd);have hn:=hcn (.inl rfl);simp only[show ¬(5:Int)=1 by decide,show ¬(5:Int)=11 by decide,show ¬(5:Int)=2 by decide,show ¬(5:Int)=3 by decide,show ¬(5:Int)=4 by decide,if_false,if_true,or_self,lenL,codeHd,Nat.add_zero,outsH,fstH]at hl hx hcp |-;split at hcp
    ·cases hcp
    rename_i hno;have hgk:=hr.kids k (by simp);have hs:=hl.head;have hl2:=(hl.tail.right (BH caps top k _ hgk)).head;refine En.one (w':=⟨f+1,i,aO C (o++[(n,i)]) c⟩) (by rw[PX];simp only[stepW,hs];rfl) ?_;refine hH (o++[(n,i)]) (fun q hq=>?_) (by simpa using hcp) (f+1) hl.tail.left i c _ hi (fun j hj d=>?_)
    ·rcases mem_append.1 hq with hq|hq
     ·exact ho1 q hq
     ·rw[List.mem_singleton.1 hq];exact hn.1
    ·have:=hx j hj (setC d n i j);rw[QX C o ho1 n hn.1 hno]at this;refine En.one ?_ this;simp only[stepW,hl2];rw[show f+1+lenG k+1=f+(lenG k+2) by omega];rfl
   ·exact absurd rfl h11
theorem PA (ho:∀ s k,p.has s k=match t[k]? with
  | some x=>hasSpan s x
  | none=>false):∀(l:List Re) (o:List (Int×Nat)),(∀ q∈o,1<=q.1)->(∀ k∈l,GoodC caps top k)->compL (o.map (·.1)) l=true->noAsL l=true->∀(f:Nat),LiesE p f (codeCat l f)->∀(i:Nat) (c:List Int) (K:Nat->List Int->Rs),i<=t.length ->
  (∀ j∈outsC t l i,∀ d,En p ⟨f+lenL l,j,aO C o d⟩ (K j d))->En p ⟨f,i,aO C o c⟩ (fstC t l K i c)
 | [],_,_,_,_,_,f,hl,i,c,K,hi,hx=>by
   have:=hx i (by simp[outsC]) c
   simpa [outsC,fstC,lenL] using this
 | k::ks,o,ho1,hr,hcp,hna,f,hl,i,c,K,hi,hx=>by
   rw[compL,and_eq_true]at hcp;rw[noAsL,and_eq_true]at hna;rw[codeCat]at hl;rw[outsC]at hx;rw[fstC];refine K7 ho k o ho1 (hr k (by simp)) hcp.1 hna.1 f hl.left i c _ hi (fun j hj d=>?_);refine PA ho ks o ho1 (fun q hq=>hr q (by simp[hq])) hcp.2 hna.2 (f+lenG k) (hl.right (BH caps top k _ (hr k (by simp)))) j d K (CN t k i hi j hj).2 (fun q hq d=>?_);have:=hx q (mem_flatMap.2 ⟨j,hj,hq⟩) d
   rwa [lenL,<- add_assoc]at this
theorem PB (ho:∀ s k,p.has s k=match t[k]? with
  | some x=>hasSpan s x
  | none=>false):∀(l:List Re) (o:List (Int×Nat)),(∀ q∈o,1<=q.1)->(∀ k∈l,GoodC caps top k)->compL (o.map (·.1)) l=true->noAsL l=true->∀(f e:Nat),l≠[]->e=f+lenL l+2*(l.length-1)->LiesE p f (codeAlt l f)->∀(i:Nat) (c:List Int) (K:Nat->List Int->Rs),i<=t.length ->
  (∀ j∈outsA t l i,∀ d,En p ⟨e,j,aO C o d⟩ (K j d))->En p ⟨f,i,aO C o c⟩ (fstA t l K i c)
 | [],_,_,_,_,_,f,e,hn,_,hl,i,c,K,hi,hx=>absurd rfl hn
 | k::ks,o,ho1,hr,hcp,hna,f,e,hn,he,hl,i,c,K,hi,hx=>by
   rw[compL,and_eq_true]at hcp;rw[noAsL,and_eq_true]at hna;rw[codeAlt]at hl;rw[outsA]at hx;rw[fstA];by_cases h0:ks.length=0
   ·rw[if_pos h0]at hl;have hks:ks=[]:=List.length_eq_zero_iff.1 h0;subst hks;simp only[outsA,List.append_nil,fstA,Option.or_none]at hx |-;refine K7 ho k o ho1 (hr k (by simp)) hcp.1 hna.1 f hl i c K hi (fun j hj d=>?_);have:=hx j hj d;rw[he]at this
    simpa [lenL] using this
   ·rw[if_neg h0]at hl;have hs:=hl.head;have hl1:=hl.tail.left;have hl2:=hl.tail.right (BH caps top k _ (hr k (by simp)));have hj3:=hl2.head;have hl3:=hl2.tail;simp only[length_cons,lenL]at he hj3;have he':f+(lenG k+lenL ks)+2*ks.length=e:=by rw[he];omega
    rw[he']at hj3;have h1:En p ⟨f+1,i,aO C o c⟩ (fst t k K i c):=by
     refine K7 ho k o ho1 (hr k (by simp)) hcp.1 hna.1 (f+1) hl1 i c _ hi (fun j hj d=>?_);refine En.one ?_ (hx j (mem_append_left _ hj) d);simp only[stepW,hj3];rfl
    have h2:En p ⟨f+lenG k+2,i,aO C o c⟩ (fstA t ks K i c):=by
     refine PB ho ks o ho1 (fun q hq=>hr q (by simp[hq])) hcp.2 hna.2 (f+lenG k+2) e (fun e=>h0 (by rw[e];rfl)) (by rw[<- he'];omega) ?_ i c K hi (fun j hj d=>hx j (List.mem_append_right _ hj) d)
     rwa [show f+lenG k+2=f+1+lenG k+1 by omega]at hl3 |-
    exact En.two (w:=⟨f,i,aO C o c⟩) (by simp only[stepW,hs];rfl) h1 h2
theorem Ss (ho:∀ s k,p.has s k=match t[k]? with
  | some x=>hasSpan s x
  | none=>false):∀(l:List Re) (o:List (Int×Nat)),(∀ q∈o,1<=q.1)->(∀ k∈l,GoodC caps top k)->compL (o.map (·.1)) l=true->noAsL l=true ->
  match l with
  | []=>True
  | k::_=>∀(f:Nat),LiesE p f (codeG k f)->∀(i:Nat) (c:List Int) (K:Nat->List Int->Rs),i<=t.length->(∀ j∈outs t k i,∀ d,En p ⟨f+lenG k,j,aO C o d⟩ (K j d))->En p ⟨f,i,aO C o c⟩ (fst t k K i c)
 | [],_,_,_,_,_=>trivial
 | k::ks,o,ho1,hr,hcp,hna=>fun f hl i c K hi hx=>by
   rw[compL,and_eq_true]at hcp;rw[noAsL,and_eq_true]at hna;exact K7 ho k o ho1 (hr k (by simp)) hcp.1 hna.1 f hl i c K hi hx
end
end
section
variable (t:List Int) (g:Nat×List Int->Nat×List Int)
theorem KX (f:(Nat->List Int->Rs)->Nat->List Int->Rs) (hf:∀ K i c,(f K i c).map g=f (fun j d=>(K j d).map g) i c) (mn mx md:Int) (K:Nat->List Int->Rs) :
  ∀(m:Nat) (q:Int) (i:Nat) (c:List Int),(repK f mn mx md K m q i c).map g=repK f mn mx md (fun j d=>(K j d).map g) m q i c
 | 0,_,_,_=>rfl
 | m+1,q,i,c=>by
   have ih:(fun j d=>(repK f mn mx md K m (q+1) j d).map g)=repK f mn mx md (fun j d=>(K j d).map g) m (q+1):=funext fun j=>funext fun d=>KX f hf mn mx md K m (q+1) j d;have h1:(f (repK f mn mx md K m (q+1)) i c).map g=f (repK f mn mx md (fun j d=>(K j d).map g) m (q+1)) i c:=by rw[hf,ih]
   have hor:∀ a b:Rs,(a.or b).map g=(a.map g).or (b.map g):=fun a b=>by cases a<;>rfl
   rw[repK,repK];split
   ·exact h1
   ·split
    ·rw[hor];split
     ·rw[h1]
     ·rfl
    ·rw[hor];split
     ·rw[h1]
     ·rfl
mutual
theorem Gh:∀(r:Re) (K:Nat->List Int->Rs) (i:Nat) (c:List Int),(fst t r K i c).map g=fst t r (fun j d=>(K j d).map g) i c
 | .mk op set kids mn mx md n neg,K,i,c=>by
   rw[fst,fst];split
   ·split
    ·split<;>rfl
    ·rfl
   ·split
    ·exact Kq kids K i c
    ·split
     ·exact Ks kids K i c
     ·split
      ·exact KX g _ (fun K i c=>Kp kids K i c) mn mx md K _ _ _ _
      ·split
       ·rw[Kp kids]
       ·rfl
theorem Kq:∀(l:List Re) (K:Nat->List Int->Rs) (i:Nat) (c:List Int),(fstC t l K i c).map g=fstC t l (fun j d=>(K j d).map g) i c
 | [],K,i,c=>rfl
 | r::rs,K,i,c=>by
   rw[fstC,fstC,Gh r];congr 1;exact funext fun j=>funext fun d=>Kq rs K j d
theorem Ks:∀(l:List Re) (K:Nat->List Int->Rs) (i:Nat) (c:List Int),(fstA t l K i c).map g=fstA t l (fun j d=>(K j d).map g) i c
 | [],K,i,c=>rfl
 | r::rs,K,i,c=>by
   rw[fstA,fstA,<- Gh r,<- Ks rs];cases fst t r K i c<;>rfl
theorem Kp:∀(l:List Re) (K:Nat->List Int->Rs) (i:Nat) (c:List Int),(fstH t l K i c).map g=fstH t l (fun j d=>(K j d).map g) i c
 | [],K,i,c=>rfl
 | r::rs,K,i,c=>by
   rw[fstH,fstH,Gh r]
end
end
theorem O9 {caps top:Int}{t:List Int}{r:Re}{runes:Bool} (hr:GoodC caps top r) (hcp:compG [] r=true) (hna:noAs r=true) (i:Nat) (hi:i<=t.length) (c:List Int) (C:Nat) {P:Prog1} (hP:ProgT P (codeG r 0++[⟨0,0,0,0,[]⟩]) t) :
  En P ⟨0,i,c.take C⟩ ((fst t r (fun j d=>some (j,d)) i c).map fun x=>(x.1,x.2.take C)):=by
 have hl:LiesE P 0 (codeG r 0++[⟨0,0,0,0,[]⟩]):=fun j x hj=>by rw[Nat.zero_add,hP.ins];exact hj
 have hend:P.ins (0+lenG r)=some ⟨0,0,0,0,[]⟩:=(hl.right (BH caps top r 0 hr)).head;have:=K7 (C:=C) hP.has r [] (by simp) hr (by simpa using hcp) hna 0 hl.left i c (fun j d=>some (j,d.take C)) hi fun j hj d=>⟨1,Ends.done (by simp only[stepW,hend];rfl) (Nat.le_refl _)⟩;rw[Gh];exact this
end Go.Ev
namespace Go.Ev
attribute [local go_sem] BM evAppend evBin evBuild evMakeSlice AV.cells AV.ok splice Ae Al bndO bnd evEq eqCells not_false_eq_true not_true_eq_false AX Array.size_empty List.length_append map_append
section
attribute [local go_sem] tySzE List.head?_drop Nat.mul_one AQ AU AO AR AS AY
section
variable {α:Type} (A K:List α) (x y z v:α)
theorem OS:(A++x::y::z::K)[A.length+2]?=some z:=by
 rw[List.getElem?_append_right (by omega)];simp
theorem OQ:(A++x::y::z::K).set (A.length+2) v=A++x::y::v::K:=by
 rw[List.set_append_right _ _ (by omega)];simp
end
abbrev sB (m:Nat) (t:List Int) (fuel steps:Int) (empty:Bool) (e:Nat):MB:=.row 7 [.agg [.sl false (t.map I),I (-1),I fuel,I steps,.bool empty,.ms (m+1) 1 e 0 e,.ms (m+2) 1 e 0 e]] 0
abbrev srH (A:List MB) (t:List Int) (fuel:Int) (s:SS) (e:Nat) (K:List MB):List MB:=
 A++sB A.length t fuel s.steps s.empty e::.row 1 (s.ends.map I) 0::.row 1 (s.caps.map capA) 0::K
theorem Eo (l:List Caps):AV.plainL (l.map capA)=true:=by
 induction l with
 | nil=>rfl
 | cons a l ih=>simp[AV.plainL,AV.plain,AG,ih]
theorem GE (n:Nat) (x y z x' y' z':MB) (K L:List MB) (h1:MB.under n x' = true) (h2:MB.under n y' = true) (h3:MB.under n z' = true):∀ A:List MB,keptOk n (A++x::y::z::K) (A++x'::y'::z'::(K++L))=true
 | []=>by
   simp only[nil_append,keptOk,h1,h2,h3,Bool.or_true,Bool.true_and];exact B1 n L K
 | a::A=>by simp[keptOk,MB.beq_refl,GE n x y z x' y' z' K L h1 h2 h3 A]
theorem IY {α:Type} (x y z x' y' z':α) (K L:List α):∀ A:List α,(A++x'::y'::z'::(K++L)).take (A++x::y::z::K).length=A++x'::y'::z'::K
 | []=>by simp
 | a::A=>by
   simp only[cons_append,length_cons,List.take_succ_cons,IY x y z x' y' z' K L A]
theorem JV {f:Nat} (hk:pol1.keep f=false) (ho:pol1.own f=false) (b:Bool) (A K L:List MB) (t:List Int) (fuel:Int) (s s':SS) (e e':Nat) :
  retPol pol1 f (srH A t fuel s e K) (.bool b) (srH A t fuel s' e' (K++L))=some (.bool b,srH A t fuel s' e' K):=
 Bg hk ho rfl (GE _ _ _ _ _ _ _ _ _ (by simp[MB.under,AV.underL,AV.under,AE,AF]<;>omega) (by simp[MB.under,AE,AF]) (by simp[MB.under,AE,Eo]) A) (IY _ _ _ _ _ _ _ _ _)
theorem MY {f:Nat} (hk:pol1.keep f=false) (ho:pol1.own f=false) (b:Bool) (A K:List MB) (t:List Int) (fuel:Int) (s s':SS) (e e':Nat) :
  retPol pol1 f (srH A t fuel s e K) (.bool b) (srH A t fuel s' e' K)=some (.bool b,srH A t fuel s' e' K):=by
 have:=JV hk ho b A K [] t fuel s s' e e'
 rwa [List.append_nil]at this
theorem f161 (A K:List MB) (t:List Int) (fuel:Int) (s:SS) (e:Nat) (hs:0<=s.steps/\s.steps<=1000000000000) :
  call Pg pol1 177 [.rf A.length 1 0 0] (srH A t fuel s e K)=some (.bool (!(stepSz fuel s).empty),srH A t fuel (stepSz fuel s) e K):=by
 have fr:frzArgs pol1 177 0 [.rf A.length 1 0 0] (srH A t fuel s e K)=some ([.rf A.length 1 0 0],srH A t fuel s e K):=AL _ _ _ rfl;refine AP (pol:=pol1) Tryz.func177 rfl rfl rfl rfl fr ?_;have hw:IntKind.i64.wrap (s.steps+1)=s.steps+1:=by rw[i64_in]<;>omega
 have ret:=fun b s'=>MY (f:=177) rfl rfl b A K t fuel s s' e e;obtain⟨steps,empty,ends,caps⟩:=s;simp only at hs hw;by_cases h:fuel<steps+1
 ·have e1:stepSz fuel ⟨steps,empty,ends,caps⟩=⟨steps+1,true,ends,caps⟩:=by simp[stepSz,h]
  rw[e1];simp +contextual (disch:=omega) only[Tryz.f177,Qw,go_sem,simprocAttr,Qj,↓AD,↓AC,↓AB,↓AA,Bx,Jc,hw];repeat' (first|intro _|apply And.intro|(unfold dOk;kernel_rfl)|(show (_||_)=true;kernel_rfl)|(show (_&&_)=true;kernel_rfl))
  exact ret false ⟨steps+1,true,ends,caps⟩
 ·have e1:stepSz fuel ⟨steps,empty,ends,caps⟩=⟨steps+1,empty,ends,caps⟩:=by simp[stepSz,h]
  rw[e1];simp +contextual (disch:=omega) only[Tryz.f177,Qw,go_sem,simprocAttr,Qj,↓AD,↓AC,↓AB,↓AA,Bx,Jc,hw];repeat' (first|intro _|apply And.intro|(unfold dOk;kernel_rfl)|(show (_||_)=true;kernel_rfl)|(show (_&&_)=true;kernel_rfl))
  exact ret (!empty) ⟨steps+1,empty,ends,caps⟩
theorem f162 (l:List (Int×Int)) (x:Int) (hl:l.length<=1000000) (H:List MB):call Pg pol1 178 [.sl false (l.map spanAV),I x] H=some (.bool (hasSpan l x),H):=by
 refine AT Tryz.func178 rfl rfl rfl rfl rfl rfl (fun _=>rfl) (by simp[AV.plain,AV.plainL,AG]) rfl ?_ H;simp +contextual (disch:=omega) only[Tryz.f178,K8,go_sem,simprocAttr,Ke,↓AD,↓AC,↓AB,↓AA];refine Af (M:=(mskOf (pol1.mask 178) (pol1.gc 178) (pol1.acts 178) 0 2)) rfl l.length (fun i=>(⟨28,[(5,I i),(1,I x),(0,.sl false (l.map spanAV))],[]⟩:St)) (fun i=>∀ k p,k<i->l[k]?=some p->¬ (p.1<=x/\x<=p.2)) ?_ ?_ (fun k p h=>by omega) _ (by first|rfl|(refine A0 rfl (by rfl) (by rfl) (by rfl) ?_ ?_<;>simp[AV.underL,AV.under,MB.under,AE,AJ,AF,AG,AH,AI,-map_take]))
 ·intro i hi hg;obtain⟨p,hp⟩:∃ p,l[i]?=some p:=⟨_,getElem?_eq_getElem hi⟩;by_cases hin:p.1<=x/\x<=p.2
  ·rw[Ex hp hin];simp +contextual (disch:=omega) only[Tryz.f178,K8,go_sem,simprocAttr,Ke,↓AD,↓AC,↓AB,↓AA,hp,spanAV];exact fzEq rfl rfl
  ·have ext:∀ k q,k<i+1->l[k]?=some q->¬ (q.1<=x/\x<=q.2):=fun k q hk hq=>by
    rcases Nat.lt_or_ge k i with h|h
    ·exact hg k q h hq
    ·obtain rfl:k=i:=by omega
     rw[hp]at hq;obtain rfl:=Option.some.inj hq;exact hin
   by_cases h1:p.1<=x
   ·simp +contextual (disch:=omega) only[Tryz.f178,K8,go_sem,simprocAttr,Ke,↓AD,↓AC,↓AB,↓AA,hp,spanAV];exact⟨ext,(by first|rfl|(refine A0 rfl (by rfl) (by rfl) (by rfl) ?_ ?_<;>simp[AV.underL,AV.under,MB.under,AE,AJ,AF,AG,AH,AI,-map_take]))⟩
   ·simp +contextual (disch:=omega) only[Tryz.f178,K8,go_sem,simprocAttr,Ke,↓AD,↓AC,↓AB,↓AA,hp,spanAV];exact⟨ext,(by first|rfl|(refine A0 rfl (by rfl) (by rfl) (by rfl) ?_ ?_<;>simp[AV.underL,AV.under,MB.under,AE,AJ,AF,AG,AH,AI,-map_take]))⟩
 ·intro hg;rw[Ew hg];simp +contextual (disch:=omega) only[Tryz.f178,K8,go_sem,simprocAttr,Ke,↓AD,↓AC,↓AB,↓AA];exact fzEq rfl rfl
theorem f167 (x:Int) (H:List MB):call Pg pol1 193 [I x] H=some (.bool (wordI x),H):=by
 refine AT Tryz.func193 rfl rfl rfl rfl rfl rfl (fun _=>rfl) rfl rfl ?_ H;simp +contextual (disch:=omega) only[Tryz.f193,S6,go_sem,simprocAttr,SU,↓AD,↓AC,↓AB,↓AA];repeat' (first|intro _|apply And.intro|refine fzEq rfl (congrArg AV.bool ?_))
 all_goals (rw[Bool.eq_iff_iff];simp[wordI]<;>omega)
theorem f165 (n:Int) (t:List Int) (k:Nat) (hn:0<=n/\n<=5) (hk:k<=t.length) (ht:t.length<=1000000000) (H:List MB):call Pg pol1 181 [I n,.sl false (t.map I),I k] H=some (.bool (assertI n (befS t k) t[k]?),H):=by
 refine AT Tryz.func181 rfl rfl rfl rfl rfl rfl (fun _=>rfl) (by simp[AV.plain,AV.plainL,AF]) rfl ?_ H;rcases k with _|k
 ·rcases t with _|⟨x,t⟩
  ·simp +contextual (disch:=omega) only[Tryz.f181,Mx,go_sem,simprocAttr,Mi,↓AD,↓AC,↓AB,↓AA,f167];repeat' (first|intro _|apply And.intro|(unfold dOk;kernel_rfl)|(show (_&&_)=true;kernel_rfl)|(show (_||_)=true;kernel_rfl)|refine fzEq rfl (congrArg AV.bool ?_))
   all_goals (simp_all [assertI,befS];try (intros;omega))
  ·simp +contextual (disch:=omega) only[Tryz.f181,Mx,go_sem,simprocAttr,Mi,↓AD,↓AC,↓AB,↓AA,f167];repeat' (first|intro _|apply And.intro|(unfold dOk;kernel_rfl)|(show (_&&_)=true;kernel_rfl)|(show (_||_)=true;kernel_rfl)|refine fzEq rfl (congrArg AV.bool ?_))
   all_goals (simp_all [assertI,befS];try (intros;omega))
 ·obtain⟨x,hx⟩:∃ x,t[k]?=some x:=⟨_,getElem?_eq_getElem (by omega)⟩;by_cases hl:k+1<t.length
  ·obtain⟨y,hy⟩:∃ y,t[k+1]?=some y:=⟨_,getElem?_eq_getElem hl⟩;simp +contextual (disch:=omega) only[Tryz.f181,Mx,go_sem,simprocAttr,Mi,↓AD,↓AC,↓AB,↓AA,f167,hx,hy];repeat' (first|intro _|apply And.intro|(unfold dOk;kernel_rfl)|(show (_&&_)=true;kernel_rfl)|(show (_||_)=true;kernel_rfl)|refine fzEq rfl (congrArg AV.bool ?_))
   all_goals (simp_all [assertI,befS];try (intros;omega))
   all_goals (cases wordI x<;>cases wordI y<;>rfl)
  ·have hy:t[k+1]?=none:=getElem?_eq_none (by omega);simp +contextual (disch:=omega) only[Tryz.f181,Mx,go_sem,simprocAttr,Mi,↓AD,↓AC,↓AB,↓AA,f167,hx];repeat' (first|intro _|apply And.intro|(unfold dOk;kernel_rfl)|(show (_&&_)=true;kernel_rfl)|(show (_||_)=true;kernel_rfl)|refine fzEq rfl (congrArg AV.bool ?_))
   all_goals (simp_all [assertI,befS];try (intros;omega))
theorem f153 (c:Caps) (n fr to:Int) (hc:c.length<=1000) (H:List MB):call Pg pol1 144 [capA c,I n,I fr,I to] H=some (capA (withI c n fr to),H):=by
 refine AT Tryz.func144 rfl rfl rfl rfl rfl rfl (fun _=>rfl) (by simp[AV.plain,AV.plainL,AG]) (by simp[AV.plain,AG]) ?_ H;unfold withI;rcases c with _|⟨x,c⟩
 ·rw[if_neg (by simp;omega)];by_cases h1:1<=n
  ·simp +contextual (disch:=omega) only[Tryz.f144,LA,go_sem,simprocAttr,Kg,↓AD,↓AC,↓AB,↓AA];exact⟨_,rfl⟩
  ·simp +contextual (disch:=omega) only[Tryz.f144,LA,go_sem,simprocAttr,Kg,↓AD,↓AC,↓AB,↓AA];exact⟨_,rfl⟩
 ·simp only[length_cons]at hc;have hroom:=AY (n:=c.length+1) (b:=16) (by omega) (by omega);have hal:((c.map spanAV).all fun y=>decide ((match y with | .agg cs=>cs|x=>[x]).length=2)&&(match y with | .agg cs=>cs|x=>[x]).all AV.ok)=true:=by
   rw[List.all_eq_true];intro y hy;obtain⟨p,_,rfl⟩:=mem_map.1 hy;rfl
  have hz:∀ d:Caps,d.length=c.length+1->∃ H',fz (.ms 0 2 (c.length+1) 0 (c.length+1)) [.row 2 (d.map spanAV) 0]=some (capA d,H'):=fun d hd=>
   ⟨_,Dq rfl (by rw[List.length_map];exact hd) (AG d)⟩
  by_cases h1:1<=n
  ·by_cases h2:n<=((x::c).length:Int)
   ·rw[if_pos ⟨h1,h2⟩];obtain⟨j,rfl⟩:∃ j:Nat,n=(j:Int)+1:=⟨(n-1).toNat,by omega⟩;simp only[length_cons]at h2;obtain⟨y,hy⟩:∃ y,(x::c)[j]?=some y:=⟨_,getElem?_eq_getElem (by simp;omega)⟩;have hy2:(spanAV x::List.map spanAV c)[j]?=some (spanAV y):=by
     have:((x::c).map spanAV)[j]?=some (spanAV y):=by rw[List.getElem?_map,hy];rfl
     exact this
    have hw:IntKind.i64.wrap ((j:Int)+1-1)=(j:Int):=by rw[i64_in]<;>omega
    have hj:((j:Int)+1-1)=(j:Int):=by omega
    have hset:(spanAV x::List.map spanAV c).set j (.agg [I fr,I to])=((x::c).set j (fr,to)).map spanAV:=by rw[List.map_set];rfl
    simp +contextual (disch:=omega) only[Tryz.f144,LA,go_sem,simprocAttr,Kg,↓AD,↓AC,↓AB,↓AA,hroom,hw,hy2,hj,hset];exact⟨hal,hz _ (by simp)⟩
   ·rw[if_neg (by omega)];simp only[length_cons]at h2;simp +contextual (disch:=omega) only[Tryz.f144,LA,go_sem,simprocAttr,Kg,↓AD,↓AC,↓AB,↓AA,hroom];exact⟨hal,hz (x::c) rfl⟩
  ·rw[if_neg (by omega)];simp +contextual (disch:=omega) only[Tryz.f144,LA,go_sem,simprocAttr,Kg,↓AD,↓AC,↓AB,↓AA,hroom];exact⟨hal,hz (x::c) rfl⟩
section
variable {cs xs:List AV}{k:IntKind}{n:Int}{b:Bool}{x a c d e f:Nat}
theorem BT:(AV.agg cs).cells=cs:=rfl
theorem BS:(AV.int k n).cells=[.int k n]:=rfl
theorem BF:(AV.bool b).cells=[.bool b]:=rfl
theorem Br:(AV.sl b xs).cells=[.sl b xs]:=rfl
theorem Bs:(AV.rf a c d e).cells=[.rf a c d e]:=rfl
theorem Bt:(AV.pt xs).cells=[.pt xs]:=rfl
theorem BD:AV.nilp.cells=[.nilp]:=rfl
end
theorem BE (g:Goal):(goalA g).cells=[goalA g]:=by cases g<;>rfl
theorem Aa (g:Goal):AV.ok (goalA g)=true:=by cases g<;>rfl
theorem Bv (r:Re) (n:Nat) (l:List AV):List.take (n+8) (reC r++l)=reC r++List.take n l:=by
 rw[List.take_append,AM,List.take_of_length_le (by rw[AM];omega)];congr 2
theorem Bw (r:Re) (n:Nat) (l:List AV):List.drop (n+8) (reC r++l)=List.drop n l:=by
 rw[List.drop_append,AM,List.drop_of_length_le (by rw[AM];omega),nil_append];congr 1
end
section
structure PrgN (g:Prg) (a b:Nat):Prop where
 len:g.ins.length<=a
 sets:∀ i∈g.ins,i.set.length<=b
 caps:In64 g.caps
theorem HW {j:List AV->List MB->Option (List AV×List MB)} (ys:List AV):∀(xs:List AV) (H:List MB),fzL j (xs++ys) H=(match fzL j xs H with
  | some (a,H1)=>(match fzL j ys H1 with
    | some (b,H2)=>some (a++b,H2)
    | none=>none)
  | none=>none)
 | [],H=>by
   simp only[nil_append,fzL];cases fzL j ys H with
   | none=>rfl
   | some q=>rfl
 | x::xs,H=>by
   simp only[cons_append,fzL];cases fzA j x H with
   | none=>rfl
   | some q=>
     simp only[HW ys xs q.2];cases fzL j xs q.2 with
     | none=>rfl
     | some q2=>
       simp only[];cases fzL j ys q2.2 with
       | none=>rfl
       | some q3=>rfl
end
end Go.Ev
