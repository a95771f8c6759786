/- Functions of the program, each with what it computes; no further conditions. -/
import Derived.Test.YtmfpcondongbjaaGreatO07
import Derived.Test.YtmfpcondongbjaaGreatO08
import Derived.Test.YtmfpcondongbjaaGreatO18
import Derived.Test.YtmfpcondongbjaaGreatO14
import Derived.Test.YtmfpcondongbjaaGreatO19
import Derived.Test.YtmfpcondongbjaaGreatO17
import Derived.Test.YtmfpcondongbjaaGreatO15
set_option linter.unusedVariables false
set_option linter.unusedSimpArgs false
namespace Go.Ev
attribute [local go_sem] evBin evBuild AV.cells splice List.length_append tySzE List.head?_drop Nat.mul_one zAP zAU zAN zAQ zAR zAX
section
attribute [local go_sem] evAppend List.map_append
open Go.Proofs Go.RowKit Go.IntWalk
set_option maxRecDepth 100000
set_option maxHeartbeats 16000000
def markL (regs:List Int) (way:List Bool) (p:Int):List Int:=List.zipWith (fun r b=>if b then p else r) regs way
theorem f46 (regs:List Int) (way:List Bool) (p:Int) (h1:regs.length=18) (h2:way.length=18) (H:List MB):call Tryz.prog pol1 46 [.agg (regs.map I),.agg (way.map AV.bool),I p] H=some (.agg ((markL regs way p).map I),H):=by
 have t1:List.take 18 (regs.map I)=regs.map I:=List.take_of_length_le (by simp[h1])
 have t2:=zET way h2
 have o1:(regs.map I).all AV.ok=true:=by simp[AV.ok]
 have o2:=zBR way
 refine zAS Tryz.func46 rfl rfl rfl rfl rfl rfl (fun _=>rfl) (by simp[AV.plain,AV.plainL,zAE,zBi]) (by simp[AV.plain,zAE]) ?_ H
 simp +contextual (disch:=omega) only[Tryz.f46,dd46,go_sem,simprocAttr,mu46,↓zAD,↓zAC,↓zAB,↓zAA,t1,t2,o1,o2,h1,h2]
 have hml:(markL regs way p).length=18:=by simp[markL,h1,h2]
 let cur:Nat→List Int:=fun i=>(markL regs way p).take i++regs.drop i
 have hcl:∀ i,i≤18→(cur i).length=18:=fun i hi=>by simp[cur,hml,h1];omega
 have hc0:cur 0=regs:=by simp[cur]
 have hcN:cur 18=markL regs way p:=by simp[cur,List.take_of_length_le,hml,List.drop_of_length_le,h1]
 have hstep:∀ i r b,i < 18→regs[i]?=some r→way[i]?=some b→cur (i+1)=(cur i).set i (if b then p else r):=fun i r b hi hr hb=>by
  apply List.ext_getElem?
  intro q
  have hg:∀ j q,j≤18→(cur j)[q]?=if q < j then(markL regs way p)[q]? else regs[q]?:=fun j q hj=>by
   simp only[cur]
   by_cases hq:q < j
   ·rw[if_pos hq,List.getElem?_append_left (by simp[hml];omega),List.getElem?_take,if_pos hq]
   ·rw[if_neg hq,List.getElem?_append_right (by simp[hml];omega)]
    simp[hml,List.getElem?_drop]
    congr 1;omega
  by_cases e:i=q
  ·subst e
   rw[List.getElem?_set_self (by rw[hcl i (by omega)];exact hi),hg _ _ (by omega),if_pos (Nat.lt_succ_self _)]
   simp[markL,List.getElem?_zipWith,hr,hb]
  ·rw[List.getElem?_set_ne e,hg _ _ (by omega),hg _ _ (by omega)]
   by_cases hq:q < i
   ·rw[if_pos (by omega),if_pos hq]
   ·rw[if_neg (by omega),if_neg hq]
 rw[← hc0]at t1 o1
 refine zAd (M:=(mskOf (pol1.mask 46) (pol1.gc 46) (pol1.acts 46) 0 2)) (by rfl) 18 (fun i=>(⟨20,[(10,NV i),(9,.agg (way.map AV.bool)),(6,.rf 2 1 0 0),(3,.rf 0 1 0 0),(2,I p)],[.row 18 [.agg ((cur i).map I)] 0,.row 18 [.agg (way.map AV.bool)] 0,.row 18 [.agg [I 0,I 0,I 0,I 0,I 0,I 0,I 0,I 0,I 0,I 0,I 0,I 0,I 0,I 0,I 0,I 0,I 0,I 0]] 0]⟩:St)) (fun _=>True) ?_ ?_ trivial _ ?_
 ·intro i hi _
  obtain⟨b,hb⟩:∃ b,way[i]?=some b:=⟨_,List.getElem?_eq_getElem (by omega)⟩
  obtain⟨r,hr⟩:∃ b,regs[i]?=some b:=⟨_,List.getElem?_eq_getElem (by omega)⟩
  have hb':(way.map AV.bool)[i]?=some (.bool b):=by simp[hb]
  have hlt:((i:Int) < 18)=True:=eq_true (by omega)
  have hwi:IntKind.i64.wrap ((i:Int)+1)=((i+1:Nat):Int):=by rw[i64_in]<;>omega
  have hcl1:=hcl i (by omega)
  have hev:evIndex Tryz.prog 101 (.agg (way.map AV.bool)) (NV i)=some (.bool b):=by
   have e4:tySz Tryz.prog 4=some 1:=by kernel_rfl
   have a4:tyAgg Tryz.prog 4=some false:=by kernel_rfl
   have hi3:(i:Int) < 18:=by omega
   unfold evIndex
   simp[zOU,e4,a4,hb,h2,hi,hi3,evPart]
   exact(List.getElem?_eq_some_iff.1 hb).2
  have hts:List.take 18 ((cur i).map I)=(cur i).map I:=List.take_of_length_le (by simp[hcl1])
  have hso:(((cur i).map I).set i (I p)).length=18:=by simp[hcl1]
  cases b with
  | true=>
    simp +contextual (disch:=omega) only[Tryz.f46,dd46,go_sem,simprocAttr,mu46,↓zAD,↓zAC,↓zAB,↓zAA,hb',hlt,hwi,zAW,h2,hcl1,hev]
    rw[hstep i r true hi hr hb,if_pos rfl,List.map_set,List.set_eq_take_append_cons_drop,if_pos (by simp[hcl1];omega)]
    rfl
  | false=>
    simp +contextual (disch:=omega) only[Tryz.f46,dd46,go_sem,simprocAttr,mu46,↓zAD,↓zAC,↓zAB,↓zAA,hb',hlt,hwi,zAW,h2,hcl1,hev]
    have hce:cur (i+1)=cur i:=by
     rw[hstep i r false hi hr hb]
     have hci:(cur i)[i]?=some r:=by
      simp only[cur]
      rw[List.getElem?_append_right (by simp[hml];omega)]
      simp[hml,List.getElem?_drop,Nat.min_eq_left (Nat.le_of_lt hi),hr]
     apply List.ext_getElem?
     intro q
     by_cases e:i=q
     ·subst e;rw[List.getElem?_set_self (by rw[hcl1];exact hi),hci];rfl
     ·rw[List.getElem?_set_ne e]
    rw[hce]
    rfl
 ·intro _
  have hcl1:=hcl 18 (by omega)
  have hts:List.take 18 ((cur 18).map I)=(cur 18).map I:=List.take_of_length_le (by simp[hcl1])
  have hok:((cur 18).map I).all AV.ok=true:=by simp[AV.ok]
  simp +contextual (disch:=omega) only[Tryz.f46,dd46,go_sem,simprocAttr,mu46,↓zAD,↓zAC,↓zAB,↓zAA,hcl1,hts,hok]
  rw[hcN]
  exact⟨_,zAf _ (by simp[AV.plain,zAE])⟩
 ·rw[← hc0]
  simp only[hc0]
  rfl
end
end Go.Ev
set_option linter.unusedSectionVars false
namespace Go.Ev
def Ends (p:Prog1) (S:List Way) (r:Option (Nat×List Int)) (n:Nat):Prop:=
 ∃ n',n'≤n∧(match r with
   | some x=>∃ pc,∀ rest fuel,runW p 1 (n' + fuel) (S++rest) []=some [⟨pc,x.1,x.2⟩]
   | none=>∀ rest fuel,runW p 1 (n' + fuel) (S++rest) []=runW p 1 fuel rest [])
theorem Ends.nil (p:Prog1) (n:Nat):Ends p [] none n:=⟨0,Nat.zero_le _,fun rest fuel=>by simp⟩
theorem Ends.mono {p:Prog1} {S:List Way} {r:Option (Nat×List Int)} {n m:Nat} (h:Ends p S r n) (hm:n≤m):Ends p S r m:=by
 obtain⟨n',h1,h2⟩:=h
 exact⟨n',Nat.le_trans h1 hm,h2⟩
theorem Ends.fst {p:Prog1} {S T:List Way} {x:Nat×List Int} {n:Nat} (h:Ends p S (some x) n):Ends p (S++T) (some x) n:=by
 obtain⟨n',h1,pc,h2⟩:=h
 exact⟨n',h1,pc,fun rest fuel=>by rw[List.append_assoc];exact h2 _ _⟩
theorem Ends.app {p:Prog1} {S T:List Way} {r:Option (Nat×List Int)} {n m:Nat} (h:Ends p S none n) (g:Ends p T r m):Ends p (S++T) r (n+m):=by
 obtain⟨n',h1,h2⟩:=h
 obtain⟨m',g1,g2⟩:=g
 refine⟨n' + m',by omega,?_⟩
 cases r with
 | none=>exact fun rest fuel=>by rw[List.append_assoc,Nat.add_assoc,h2,g2]
 | some x=>
   obtain⟨pc,g2⟩:=g2
   exact⟨pc,fun rest fuel=>by rw[List.append_assoc,Nat.add_assoc,h2,g2]⟩
theorem Ends.or {p:Prog1} {S T:List Way} {r q:Option (Nat×List Int)} {n m:Nat} (h:Ends p S r n) (g:Ends p T q m):Ends p (S++T) (r.or q) (n+m):=by
 cases r with
 | none=>exact h.app g
 | some x=>exact(h.fst (T:=T)).mono (by omega)
theorem zMs {p:Prog1} {fuel:Nat} {rest:List Way} {w:Way}:runW p 1 fuel rest [w]=some [w]:=by
 cases rest with
 | nil=>unfold runW;rfl
 | cons v rest=>unfold runW;simp
theorem Ends.done {p:Prog1} {w:Way} {S:List Way} {n:Nat} (hs:stepW p w=.done) (hn:1≤n):Ends p (w::S) (some (w.at_,w.regs)) n:=by
 refine⟨1,hn,w.pc,fun rest fuel=>?_⟩
 rw[Nat.add_comm,List.cons_append,zCt (by simp),hs]
 exact zMs
theorem Ends.step {p:Prog1} {w:Way} {S l:List Way} {r:Option (Nat×List Int)} {n:Nat} (hs:stepW p w=.ways l) (h:Ends p (l++S) r n):Ends p (w::S) r (n+1):=by
 obtain⟨n',h1,h2⟩:=h
 refine⟨n' + 1,by omega,?_⟩
 have e:∀ rest fuel,runW p 1 (n' + 1+fuel) (w::S++rest) []=runW p 1 (n' + fuel) (l++S++rest) []:=fun rest fuel=>by
  rw[show n' + 1+fuel=(n' + fuel)+1 by omega,List.cons_append,zCt (by simp),hs,List.append_assoc]
 cases r with
 | none=>exact fun rest fuel=>by rw[e,h2]
 | some x=>
   obtain⟨pc,h2⟩:=h2
   exact⟨pc,fun rest fuel=>by rw[e,h2]⟩
structure ProgT (p:Prog1) (ins:List Ins) (t:List Int):Prop where
 ins:∀ n,p.ins n=ins[n]?
 has:∀ s n,p.has s n=match t[n]? with
  | some x=>hasSpan s x
  | none=>false
def hitB (ins:List Ins) (t:List Int) (p a:Nat):Bool:=match t[p]? with
 | some x=>leadB ins x a
 | none=>false
abbrev wayM (p:Nat) (regs:List Int) (w:Nat×List Bool):Way:=⟨w.1,p,markL regs w.2 p⟩
theorem zME (regs:List Int) (m:List Bool) (p:Int) (n:Nat) (hn:n < m.length):(markL regs m p).set n p=markL regs (m.set n true) p:=by
 apply List.ext_getElem?
 intro q
 by_cases e:n=q
 ·subst e
  by_cases hl:n < regs.length
  ·have h1:n < (markL regs m p).length:=by simp[markL];omega
   rw[List.getElem?_set_self h1]
   simp[markL,List.getElem?_zipWith,hl,hn]
  ·rw[List.getElem?_eq_none (by simp[markL];omega),List.getElem?_eq_none (by simp[markL];omega)]
 ·rw[List.getElem?_set_ne e]
  simp[markL,List.getElem?_zipWith,List.getElem?_set_ne e]
theorem zLH (regs:List Int) (p:Int) (h:regs.length≤18):markL regs m0S p=regs:=by
 apply List.ext_getElem?
 intro q
 simp only[markL,List.getElem?_zipWith,m0S,List.getElem?_replicate]
 by_cases hq:q < regs.length
 ·rw[if_pos (by omega),List.getElem?_eq_getElem hq]
  simp
 ·rw[List.getElem?_eq_none (by omega)]
section
set_option linter.unusedSectionVars false
variable {ins:List Ins} {t:List Int} {P:Prog1} (h:OkP ins) (hP:ProgT P ins t) (p:Nat) (regs:List Int)
include h hP
theorem zLe {a:Nat} {i:Ins} (m:List Bool) (hm:m.length=18) (hi:ins[a]?=some i) :
  (i.op=0→stepW P (wayM p regs (a,m))=.done) ∧
  (i.op=1→stepW P (wayM p regs (a,m))=if hitB ins t p a=true then .ways [⟨a+1,p+1,markL regs m p⟩] else .ways []) ∧
  (i.op=2→stepW P (wayM p regs (a,m))=.ways [wayM p regs (i.x.toNat,m),wayM p regs (i.y.toNat,m)]) ∧
  (i.op=3→stepW P (wayM p regs (a,m))=.ways [wayM p regs (i.x.toNat,m)]) ∧
  (i.op=4→stepW P (wayM p regs (a,m))=.ways [wayM p regs (a+1,m.set i.n.toNat true)]):=by
 have hp:P.ins a=some i:=by rw[hP.ins,hi]
 refine⟨fun e=>by simp[stepW,hp,e],fun e=>?_,fun e=>by simp[stepW,hp,e],fun e=>by simp[stepW,hp,e],fun e=>?_⟩
 ·have hh:=hP.has i.set p
  cases ht:t[p]? with
  | none=>rw[ht]at hh;simp[stepW,hp,e,hh,hitB,ht]
  | some x=>rw[ht]at hh;simp[stepW,hp,e,hh,hitB,ht,leadB,hi]
 ·have h4:=(h.leads a i hi).2.2 e
  simp only[stepW,hp,e]
  simp
  rw[zME _ _ _ _ (by omega)]
theorem zNV {a:Nat} {s:List Nat} {w:WS} (ht:(visF ins (a::s) w).tw=false):w.tw=false∧a ∉ w.seen:=by
 constructor
 ·refine Bool.eq_false_iff.2 fun e=>?_
  rw[zCl (.inl e)]at ht
  simp at ht
 ·intro e
  rw[zCl (.inr e)]at ht
  simp at ht
theorem zLm {a:Nat} {w:WS} (hw:w.Ok ins.length) (hn:a ∉ w.seen) (ha:a < ins.length):w.seen.length+1≤ins.length:=by
 have:=zD1 (n:=ins.length) (l:=a::w.seen) (List.nodup_cons.2 ⟨hn,hw.1⟩) (fun b hb=>by
  rcases List.mem_cons.1 hb with rfl|hb
  ·exact ha
  ·exact hw.2 b hb)
 simpa using this
theorem zOP:∀(k:Nat) (stk:Stk) (s:CS) (w:WS),w.Ok ins.length→ins.length < k+w.seen.length→(∀ x∈stk,x.1 < ins.length∧x.2.length=18)→(visF ins (stk.map (·.1)) w).tw=false→s.dn=false →
  (∀ a∈(visF ins (stk.map (·.1)) w).stops,hitB ins t p a=true→a∈w.seen) →
  ∃ sF,runS ins enC (yiC ins t p) k stk s=some sF∧sF.nx=s.nx∧sF.way=s.way∧Ends P (stk.map (wayM p regs)) (if sF.dn=true then some (p,markL regs sF.la p) else none) (ins.length - w.seen.length)
 | k,[],s,w,hw,hk,_,_,hd,_=>⟨s,by cases k<;>rfl,rfl,rfl,by rw[if_neg (by simp[hd])];exact Ends.nil _ _⟩
 | 0,_::_,s,w,hw,hk,_,_,_,_=>absurd hw.len (by omega)
 | k+1,(a,m)::rest,s,w,hw,hk,hst,htw,hd,hh=>by
   obtain⟨ha,hm⟩:=hst (a,m) (by simp)
   simp only at ha hm
   obtain⟨i,hi⟩:∃ i,ins[a]?=some i:=⟨_,List.getElem?_eq_getElem ha⟩
   simp only[List.map_cons]at htw hh ⊢
   obtain⟨h1,h2⟩:=zNV h hP htw
   rw[zDT hw h1 h2 hi]at htw hh
   have hl:(stepS w i a).seen.length=w.seen.length+1:=by simp[stepS]
   have hok:=hw.step h2 hi
   have hsl:=zLm h hP hw h2 ha
   have hrest:∀ x∈rest,x.1 < ins.length∧x.2.length=18:=fun x hx=>hst x (List.mem_cons_of_mem _ hx)
   obtain⟨st0,st1,st2,st3,st4⟩:=zLe h hP p regs m hm hi
   simp only[runS,enC,hi]
   have go:∀ stk2:Stk,stk2.map (·.1)=nexts i a→(∀ x∈stk2,x.1 < ins.length∧x.2.length=18)→stepW P (wayM p regs (a,m))=.ways (stk2.map (wayM p regs)) →
     ∃ sF,runS ins enC (yiC ins t p) k (stk2++rest) s=some sF∧sF.nx=s.nx∧sF.way=s.way∧Ends P (wayM p regs (a,m)::rest.map (wayM p regs)) (if sF.dn=true then some (p,markL regs sF.la p) else none) (ins.length - w.seen.length):=by
    intro stk2 e2 e4 e5
    obtain⟨sF,r1,r2,r3,r4⟩:=zOP k (stk2++rest) s (stepS w i a) hok (by rw[hl];omega) (fun x hx=>(List.mem_append.1 hx).elim (e4 x) (hrest x)) (by rw[List.map_append,e2];exact htw) hd (by
     rw[List.map_append,e2]
     intro b hb hx
     exact List.mem_append_left _ (hh b hb hx))
    refine⟨sF,r1,r2,r3,?_⟩
    rw[List.map_append]at r4
    rw[hl]at r4
    have:=Ends.step e5 r4
    exact this.mono (by omega)
   rcases h.ops i (List.mem_of_getElem? hi) with h0|h0|h0|h0|h0
   ·rw[if_neg (by omega),if_neg (by omega),if_neg (by omega),if_pos (.inr h0)]
    have ey:chY ins t p s a m = { s with dn:=true,la:=m }:=by simp only[chY,hi,if_pos h0]
    simp only[yiC,ey,Bool.not_true]
    refine⟨_,rfl,rfl,rfl,?_⟩
    rw[if_pos rfl]
    exact Ends.done (st0 h0) (by omega)
   ·rw[if_neg (by omega),if_neg (by omega),if_neg (by omega),if_pos (.inl h0)]
    have hst1:a∈(stepS w i a).stops:=by simp[stepS,stopB,h0]
    have hpre:=(zFp h.in1 (ins.length+1) (nexts i a++rest.map (·.1)) [] (stepS w i a) hok (by omega) (fun b hb=>by
     rcases List.mem_append.1 hb with hb|hb
     ·exact h.in1 a i hi b hb
     ·obtain⟨x,hx,rfl⟩:=List.mem_map.1 hb
      exact(hrest x hx).1)).2.2 rfl
    have hnh:hitB ins t p a=false:=by
     refine Bool.eq_false_iff.2 fun e=>h2 ?_
     exact hh a (hpre.subset hst1) e
    have ey:chY ins t p s a m=s:=by
     simp only[chY,hi]
     rw[if_neg (by omega)]
     cases ht:t[p]? with
     | none=>rfl
     | some x=>
       simp only[hitB,ht,leadB,hi,h0,decide_true,Bool.true_and]at hnh
       simp only
       rw[if_neg (by simp[hnh])]
    simp only[yiC,ey,hd,Bool.not_false]
    have hs:=st1 h0
    rw[if_neg (by simp[hnh])]at hs
    have hnx:nexts i a=[]:=by simp[nexts,h0]
    exact go [] (by simp[hnx]) (fun x hx=>by simp at hx) (by simpa using hs)
   ·rw[if_pos h0]
    exact go [(i.x.toNat,m),(i.y.toNat,m)] (by simp[nexts,h0]) (fun x hx=>by
     have h1:=(h.leads a i hi).1 (.inl h0)
     have h2:=(h.leads a i hi).2.1 h0
     simp at hx;rcases hx with rfl|rfl
     ·exact⟨h1.2,hm⟩
     ·exact⟨h2.2,hm⟩) (st2 h0)
   ·rw[if_neg (by omega),if_pos h0]
    exact go [(i.x.toNat,m)] (by simp[nexts,h0]) (fun x hx=>by
     have h1:=(h.leads a i hi).1 (.inr h0)
     simp at hx;subst hx;exact⟨h1.2,hm⟩) (st3 h0)
   ·rw[if_neg (by omega),if_neg (by omega),if_pos h0]
    exact go [(a+1,m.set i.n.toNat true)] (by simp[nexts,h0]) (fun x hx=>by
     have h1:=(h.leads a i hi).2.2 h0
     simp at hx;subst hx;exact⟨h1.1,by simp[hm]⟩) (st4 h0)
theorem zOQ:∀(k:Nat) (stk:Stk) (s:CS) (w:WS),w.Ok ins.length→ins.length < k+w.seen.length→(∀ x∈stk,x.1 < ins.length∧x.2.length=18)→(visF ins (stk.map (·.1)) w).tw=false→s.dn=false→s.nx = -1 →
  (∀ a∈(visF ins (stk.map (·.1)) w).stops,∀ b∈(visF ins (stk.map (·.1)) w).stops,hitB ins t p a=true→hitB ins t p b=true→a=b) →
  ∃ sF,runS ins enC (yiC ins t p) k stk s=some sF ∧
    ((sF.nx = -1∧Ends P (stk.map (wayM p regs)) (if sF.dn=true then some (p,markL regs sF.la p) else none) (ins.length - w.seen.length)) ∨
     ∃ a,a∈(visF ins (stk.map (·.1)) w).stops∧hitB ins t p a=true∧sF.nx=((a+1:Nat):Int)∧∀ r N,Ends P [⟨a+1,p+1,markL regs sF.way p⟩] r N→Ends P (stk.map (wayM p regs)) (r.or (if sF.dn=true then some (p,markL regs sF.la p) else none)) (N+(ins.length - w.seen.length)))
 | k,[],s,w,hw,hk,_,_,hd,hx,_=>⟨s,by cases k<;>rfl,.inl ⟨hx,by rw[if_neg (by simp[hd])];exact Ends.nil _ _⟩⟩
 | 0,_::_,s,w,hw,hk,_,_,_,_,_=>absurd hw.len (by omega)
 | k+1,(a,m)::rest,s,w,hw,hk,hst,htw,hd,hx,hh=>by
   obtain⟨ha,hm⟩:=hst (a,m) (by simp)
   simp only at ha hm
   obtain⟨i,hi⟩:∃ i,ins[a]?=some i:=⟨_,List.getElem?_eq_getElem ha⟩
   simp only[List.map_cons]at htw hh ⊢
   obtain⟨h1,h2⟩:=zNV h hP htw
   rw[zDT hw h1 h2 hi]at htw hh
   rw[zDT hw h1 h2 hi]
   have hl:(stepS w i a).seen.length=w.seen.length+1:=by simp[stepS]
   have hok:=hw.step h2 hi
   have hsl:=zLm h hP hw h2 ha
   have hrest:∀ x∈rest,x.1 < ins.length∧x.2.length=18:=fun x hx=>hst x (List.mem_cons_of_mem _ hx)
   obtain⟨st0,st1,st2,st3,st4⟩:=zLe h hP p regs m hm hi
   simp only[runS,enC,hi]
   have go:∀ stk2:Stk,stk2.map (·.1)=nexts i a→(∀ x∈stk2,x.1 < ins.length∧x.2.length=18)→stepW P (wayM p regs (a,m))=.ways (stk2.map (wayM p regs)) →
     ∃ sF,runS ins enC (yiC ins t p) k (stk2++rest) s=some sF ∧
       ((sF.nx = -1∧Ends P (wayM p regs (a,m)::rest.map (wayM p regs)) (if sF.dn=true then some (p,markL regs sF.la p) else none) (ins.length - w.seen.length)) ∨
        ∃ b,b∈(visF ins (nexts i a++rest.map (·.1)) (stepS w i a)).stops∧hitB ins t p b=true∧sF.nx=((b+1:Nat):Int)∧∀ r N,Ends P [⟨b+1,p+1,markL regs sF.way p⟩] r N→Ends P (wayM p regs (a,m)::rest.map (wayM p regs)) (r.or (if sF.dn=true then some (p,markL regs sF.la p) else none)) (N+(ins.length - w.seen.length))):=by
    intro stk2 e2 e4 e5
    obtain⟨sF,r1,r2⟩:=zOQ k (stk2++rest) s (stepS w i a) hok (by rw[hl];omega) (fun x hx=>(List.mem_append.1 hx).elim (e4 x) (hrest x)) (by rw[List.map_append,e2];exact htw) hd hx (by
     rw[List.map_append,e2]
     exact hh)
    rw[List.map_append,List.map_append,e2,hl]at r2
    refine⟨sF,r1,?_⟩
    rcases r2 with ⟨r2,r3⟩|⟨b,r2,r3,r4,r5⟩
    ·exact .inl ⟨r2,(Ends.step e5 r3).mono (by omega)⟩
    ·exact .inr ⟨b,r2,r3,r4,fun r N hr=>(Ends.step e5 (r5 r N hr)).mono (by omega)⟩
   rcases h.ops i (List.mem_of_getElem? hi) with h0|h0|h0|h0|h0
   ·rw[if_neg (by omega),if_neg (by omega),if_neg (by omega),if_pos (.inr h0)]
    have ey:chY ins t p s a m = { s with dn:=true,la:=m }:=by simp only[chY,hi,if_pos h0]
    simp only[yiC,ey,Bool.not_true]
    refine⟨_,rfl,.inl ⟨hx,?_⟩⟩
    rw[if_pos rfl]
    exact Ends.done (st0 h0) (by omega)
   ·rw[if_neg (by omega),if_neg (by omega),if_neg (by omega),if_pos (.inl h0)]
    have hst1:a∈(stepS w i a).stops:=by simp[stepS,stopB,h0]
    have hpre:=(zFp h.in1 (ins.length+1) (nexts i a++rest.map (·.1)) [] (stepS w i a) hok (by omega) (fun b hb=>by
     rcases List.mem_append.1 hb with hb|hb
     ·exact h.in1 a i hi b hb
     ·obtain⟨x,hx,rfl⟩:=List.mem_map.1 hb
      exact(hrest x hx).1)).2.2 rfl
    have hain:=hpre.subset hst1
    have hs:=st1 h0
    have hnx:nexts i a=[]:=by simp[nexts,h0]
    cases hq:hitB ins t p a with
    | false=>
      have ey:chY ins t p s a m=s:=by
       simp only[chY,hi]
       rw[if_neg (by omega)]
       cases ht:t[p]? with
       | none=>rfl
       | some x=>
         simp only[hitB,ht,leadB,hi,h0,decide_true,Bool.true_and]at hq
         simp only
         rw[if_neg (by simp[hq])]
      simp only[yiC,ey,hd,Bool.not_false]
      rw[if_neg (by simp[hq])]at hs
      exact go [] (by simp[hnx]) (fun x hx=>by simp at hx) (by simpa using hs)
    | true=>
      rw[if_pos hq]at hs
      have ey:chY ins t p s a m = { s with nx:=((a+1:Nat):Int),way:=m }:=by
       simp only[chY,hi]
       rw[if_neg (by omega)]
       cases ht:t[p]? with
       | none=>simp[hitB,ht]at hq
       | some x=>
         simp only[hitB,ht,leadB,hi,h0,decide_true,Bool.true_and]at hq
         simp only
         rw[if_pos hq]
      simp only[yiC,ey,hd,Bool.not_false]
      rw[hnx,List.nil_append]at htw hh hain
      rw[hnx,List.nil_append]
      obtain⟨sF,r1,r2,r3,r4⟩:=zOP h hP p regs k rest { s with nx:=((a+1:Nat):Int),way:=m } (stepS w i a) hok (by rw[hl];omega) hrest htw hd (fun b hb hx=>by
       rw[hh b hb a hain hx hq]
       simp[stepS])
      have hde:({ nx:=((a+1:Nat):Int),way:=m,dn:=false,la:=s.la }:CS) = { s with nx:=((a+1:Nat):Int),way:=m }:=by simp[hd]
      refine⟨sF,by first|exact r1|(rw[hde];exact r1),.inr ⟨a,hain,hq,r2,fun r N hr=>?_⟩⟩
      rw[r3]at hr
      rw[hl]at r4
      exact(Ends.step hs (hr.or r4)).mono (by omega)
   ·rw[if_pos h0]
    exact go [(i.x.toNat,m),(i.y.toNat,m)] (by simp[nexts,h0]) (fun x hx=>by
     have h1:=(h.leads a i hi).1 (.inl h0)
     have h2:=(h.leads a i hi).2.1 h0
     simp at hx;rcases hx with rfl|rfl
     ·exact⟨h1.2,hm⟩
     ·exact⟨h2.2,hm⟩) (st2 h0)
   ·rw[if_neg (by omega),if_pos h0]
    exact go [(i.x.toNat,m)] (by simp[nexts,h0]) (fun x hx=>by
     have h1:=(h.leads a i hi).1 (.inr h0)
     simp at hx;subst hx;exact⟨h1.2,hm⟩) (st3 h0)
   ·rw[if_neg (by omega),if_neg (by omega),if_pos h0]
    exact go [(a+1,m.set i.n.toNat true)] (by simp[nexts,h0]) (fun x hx=>by
     have h1:=(h.leads a i hi).2.2 h0
     simp at hx;subst hx;exact⟨h1.1,by simp[hm]⟩) (st4 h0)
end
structure Closed (ins:List Ins) (Q:Nat→Prop):Prop where
 lt:∀ st,Q st→st < ins.length
 nf:∀ st,Q st→¬ ForkS ins st
 next:∀ st s b,Q st→leadS ins st s=some b→Q b
def chS (ins:List Ins) (t:List Int) (st p:Nat):CS:=(runS ins enC (yiC ins t p) (ins.length+1) [(st,m0S)] CS0).getD CS0
theorem zHz {ins:List Ins} (h:OkP ins) {t:List Int} {st p a:Nat} (hf:¬ ForkS ins st) (ha:a∈(fromS ins st).stops) (hh:hitB ins t p a=true):∃ x,t[p]?=some x∧leadS ins st x=some (a+1):=by
 unfold hitB at hh
 cases ht:t[p]? with
 | none=>simp[ht]at hh
 | some x=>
   rw[ht]at hh
   simp only at hh
   obtain⟨i,hi,h1,h2⟩:=zKo hh
   obtain⟨q,hq,_⟩:=zCg.1 h2
   exact⟨x,rfl,zJu h hf (zNa ha hi h1 (List.length_pos_of_mem hq)) hi h2⟩
theorem level {ins:List Ins} (h:OkP ins) {t:List Int} {P:Prog1} (hP:ProgT P ins t) {st:Nat} (hst:st < ins.length) (hf:¬ ForkS ins st) (p:Nat) (regs:List Int) (hr:regs.length≤18) :
  runS ins enC (yiC ins t p) (ins.length+1) [(st,m0S)] CS0=some (chS ins t st p) ∧
   (((chS ins t st p).nx = -1∧Ends P [⟨st,p,regs⟩] (if(chS ins t st p).dn=true then some (p,markL regs (chS ins t st p).la p) else none) ins.length) ∨
    ∃ b x,t[p]?=some x∧leadS ins st x=some b∧(chS ins t st p).nx=(b:Int)∧∀ r N,Ends P [⟨b,p+1,markL regs (chS ins t st p).way p⟩] r N→Ends P [⟨st,p,regs⟩] (r.or (if(chS ins t st p).dn=true then some (p,markL regs (chS ins t st p).la p) else none)) (N+ins.length)):=by
 have htw:(fromS ins st).tw=false:=by
  refine Bool.eq_false_iff.2 fun e=>hf (.inl e)
 obtain⟨sF,h1,h2⟩:=zOQ h hP p regs (ins.length+1) [(st,m0S)] CS0 w0S (zKR _) (by simp[w0S]) (fun x hx=>by simp at hx;subst hx;exact⟨hst,rfl⟩) htw rfl rfl (fun a ha b hb e1 e2=>by
  obtain⟨x,hx,hla⟩:=zHz h hf ha e1
  obtain⟨y,hy,hlb⟩:=zHz h hf hb e2
  rw[hx]at hy;cases hy
  rw[hla]at hlb
  simp only[Option.some.injEq]at hlb
  omega)
 have hc:chS ins t st p=sF:=by unfold chS;rw[h1];rfl
 rw[hc]
 refine⟨h1,?_⟩
 have e1:[((st,m0S):Nat×List Bool)].map (wayM p regs)=[⟨st,p,regs⟩]:=by simp[wayM,zLH _ _ hr]
 have e2:ins.length - w0S.seen.length=ins.length:=by simp[w0S]
 rw[e1,e2]at h2
 rcases h2 with h2|⟨a,ha,hh,hn,hk⟩
 ·exact .inl h2
 ·obtain⟨x,hx,hl⟩:=zHz h hf ha hh
  exact .inr ⟨a+1,x,hx,hl,hn,hk⟩
def runO (ins:List Ins) (t:List Int):Nat→Nat→Nat→List Int→Option (Nat×List Int)→Option (Nat×List Int)
 | 0,_,_,_,res=>res
 | k+1,st,p,regs,res=>
   if(chS ins t st p).nx < 0 then(if(chS ins t st p).dn=true then some (p,markL regs (chS ins t st p).la p) else res)
   else runO ins t k (chS ins t st p).nx.toNat (p+1) (markL regs (chS ins t st p).way p) (if(chS ins t st p).dn=true then some (p,markL regs (chS ins t st p).la p) else res)
end Go.Ev
namespace Go.Ev
attribute [local go_sem] evBin evBuild AV.cells splice List.length_append tySzE List.head?_drop Nat.mul_one zAP zAU zAN zAQ zAR zAX
section
attribute [local go_sem] evAppend List.map_append
open Go.Proofs Go.RowKit Go.IntWalk
set_option maxRecDepth 100000
set_option maxHeartbeats 16000000
theorem f45 (ins:List Ins) (num begin_ end_:Int) (regs:List Int) (n:Nat) (hr:regs.length=18) (hn:n≤9) (H:List MB) :
  call Tryz.prog pol1 45 [.pt [.sl false (ins.map insAV),I n,I num],I begin_,I end_,.agg (regs.map I)] H=some (matAV begin_ end_ (capsN regs n),H):=by
 have t1:List.take 18 (regs.map I)=regs.map I:=List.take_of_length_le (by simp[hr])
 have o1:(regs.map I).all AV.ok=true:=by simp[AV.ok]
 refine zAS Tryz.func45 rfl rfl rfl rfl rfl rfl (fun _=>rfl) (by simp[AV.plain,AV.plainL,zAE,zAH]) (zE1 _ _ _) ?_ H
 simp +contextual (disch:=omega) only[Tryz.f45,dd45,go_sem,simprocAttr,mu45,↓zAD,↓zAC,↓zAB,↓zAA,t1,o1,hr]
 let cur:Nat→List (Int×Int):=fun i=>(capsN regs i)++List.replicate (n - i) (0,0)
 have hcl:∀ i,i≤n→(cur i).length=n:=fun i hi=>by simp[cur,zEB];omega
 have hc0:List.replicate n (.agg [I 0,I 0])=(cur 0).map spanAV:=by simp[cur,capsN,spanAV]
 have hcN:cur n=capsN regs n:=by simp[cur]
 have hstep:∀ i,i < n→cur (i+1)=(cur i).set i (capP (regs.getD (2 * i) 0) (regs.getD (2 * i+1) 0)):=fun i hi=>by
  simp only[cur]
  rw[zLR,show n - i=(n - (i+1))+1 by omega,List.replicate_succ,List.set_append_right _ _ (by simp[zEB])]
  simp[zEB]
 have hn0:(n:Int).toNat=n:=by simp
 refine zAd (M:=(mskOf (pol1.mask 45) (pol1.gc 45) (pol1.acts 45) 0 3)) (by rfl) n (fun i=>(⟨59,[(22,NV i),(21,I n),(9,.rf 3 1 0 0),(8,.rf 1 1 0 0),(7,.rf 0 1 0 0)],[.row 18 [.agg (regs.map I)] 0,.row 3 [.agg [I 0,I 0,.sl true []]] 0,.row 2 ((cur i).map spanAV) 0,.row 3 [.agg [I begin_,I end_,.ms 2 2 n 0 n]] 0]⟩:St)) (fun _=>True) ?_ ?_ trivial _ ?_
 ·intro i hi _
  obtain⟨a,ha⟩:∃ a,regs[2 * i]?=some a:=⟨_,List.getElem?_eq_getElem (by omega)⟩
  obtain⟨b,hb⟩:∃ b,regs[2 * i+1]?=some b:=⟨_,List.getElem?_eq_getElem (by omega)⟩
  have hl:=hcl i (by omega)
  have hs:=hstep i hi
  rw[List.getD_eq_getElem?_getD,List.getD_eq_getElem?_getD,ha,hb]at hs
  simp only[Option.getD_some]at hs
  rw[hs]
  generalize cur i=cs at *
  have e2:(2:Int) * (i:Int)=((2 * i:Nat):Int):=by omega
  have e3:((2 * i:Nat):Int)+1=((2 * i+1:Nat):Int):=by omega
  have hlt:((i:Int) < (n:Int))=True:=eq_true (by omega)
  have hwi:IntKind.i64.wrap ((i:Int)+1)=((i+1:Nat):Int):=by rw[i64_in]<;>omega
  have hm:∀ p:Int×Int,(cs.map spanAV).set i (spanAV p)=(cs.set i p).map spanAV:=fun p=>by rw[List.map_set]
  obtain⟨c0,hc0⟩:∃ c,cs[i]?=some c:=⟨_,List.getElem?_eq_getElem (by omega)⟩
  have hsi:∀ x:AV,((cs.map spanAV).set i x)[i]?=some x:=fun x=>List.getElem?_set_self (by simp;omega)
  have hss:∀ x y:AV,((cs.map spanAV).set i x).set i y=(cs.map spanAV).set i y:=fun x y=>by rw[List.set_set]
  have hsl:∀ x:AV,((cs.map spanAV).set i x).length=n:=fun x=>by simp[hl]
  have hsu:∀ p:Int×Int,AV.underL 4 ((cs.set i p).map spanAV)=true:=fun p=>zAF 4 _ (zAG _)
  have hk4:AV.underL 4 [NV (i+1),I n,.rf 3 1 0 0,.rf 1 1 0 0,.rf 0 1 0 0]=true:=rfl
  have hun:∀ p:Int×Int,[MB.row 18 [.agg (regs.map I)] 0,.row 3 [.agg [I 0,I 0,.sl true []]] 0,.row 2 ((cs.map spanAV).set i (spanAV p)) 0,.row 3 [.agg [I begin_,I end_,.ms 2 2 n 0 n]] 0].all (MB.under 4)=true:=fun p=>by
   rw[hm]
   have h1:=zAF 4 _ (zAE regs)
   have h2:=hsu p
   simp[-List.map_set,MB.under,AV.underL,AV.under,h1,h2]
  by_cases h1:a = -1
  ·simp +contextual (disch:=omega) only[Tryz.f45,dd45,go_sem,simprocAttr,mu45,↓zAD,↓zAC,↓zAB,↓zAA,ha,hb,hl,e2,e3,hlt,hwi,h1,hc0,hsi,hss,hsl]
   rw[show capP (-1) b=(-1,-1) by simp[capP],← hm]
   exact zAa rfl rfl hk4 (hun (-1,-1)) rfl
  ·by_cases h2:b = -1
   ·simp +contextual (disch:=omega) only[Tryz.f45,dd45,go_sem,simprocAttr,mu45,↓zAD,↓zAC,↓zAB,↓zAA,ha,hb,hl,e2,e3,hlt,hwi,h1,h2,hc0,hsi,hss,hsl]
    rw[show capP a (-1)=(-1,-1) by simp[capP],← hm]
    exact zAa rfl rfl hk4 (hun (-1,-1)) rfl
   ·simp +contextual (disch:=omega) only[Tryz.f45,dd45,go_sem,simprocAttr,mu45,↓zAD,↓zAC,↓zAB,↓zAA,ha,hb,hl,e2,e3,hlt,hwi,h1,h2,hc0,hsi,hss,hsl]
    refine⟨(by unfold dOk;kernel_rfl),?_⟩
    rw[show capP a b=(a,b) by simp[capP,h1,h2],← hm]
    exact zAa rfl rfl hk4 (hun (a,b)) rfl
 ·intro _
  rw[hcN]
  have hl:=zEB regs n
  generalize capsN regs n=cs at *
  simp +contextual (disch:=omega) only[Tryz.f45,dd45,go_sem,simprocAttr,mu45,↓zAD,↓zAC,↓zAB,↓zAA,hl]
  simp only[fz,zJ5,fzL,zFP]
  rw[zDS (els:=cs.map spanAV) (k:=2) (z:=0) rfl (by simp[hl]) (zAG cs)]
  exact⟨_,rfl⟩
 ·rw[← hc0]
  have h1:=zAF 4 _ (zAE regs)
  have h2:AV.underL 4 (List.replicate n (AV.agg [I 0,I 0]))=true:=by rw[hc0];exact zAF 4 _ (zAG _)
  exact zAa rfl rfl rfl (by simp[MB.under,AV.underL,AV.under,h1,h2]) rfl
end
theorem zNR (ins:List Ins) (i:Nat) (r:RS) (xs:List RS) (s:Int):xs <+: addS ins i r xs s∧∀ b,leadS ins r.st s=some b→b∈(addS ins i r xs s).map (·.st):=by
 unfold addS
 cases hq:leadS ins r.st s with
 | none=>exact⟨List.prefix_refl _,fun b h=>by cases h⟩
 | some c=>
   simp only
   split
   ·rename_i hc
    exact⟨List.prefix_refl _,fun b h=>by cases h;exact hc⟩
   ·exact⟨List.prefix_append _ _,fun b h=>by cases h;simp⟩
theorem zK3 (ins:List Ins) (i:Nat) (r:RS):∀(syms:List Int) (xs:List RS),xs <+: syms.foldl (addS ins i r) xs∧∀ s∈syms,∀ b,leadS ins r.st s=some b→b∈(syms.foldl (addS ins i r) xs).map (·.st)
 | [],xs=>⟨List.prefix_refl _,fun s hs=>by cases hs⟩
 | s::syms,xs=>by
   obtain⟨h1,h2⟩:=zNR ins i r xs s
   obtain⟨h3,h4⟩:=zK3 ins i r syms (addS ins i r xs s)
   refine⟨h1.trans h3,fun s' hs b hb=>?_⟩
   rcases List.mem_cons.1 hs with rfl|hs
   ·exact(h3.map (·.st)).subset (h2 b hb)
   ·exact h4 s' hs b hb
def Gone (ins:List Ins) (xs:List RS) (r:RS):Prop:=¬ ForkS ins r.st∧∀ n∈(exS ins r.st).rd,n+1∈xs.map (·.st)
theorem zIk {ins:List Ins} (h:OkP ins) {syms:List Int} (hL:LeastTo ins ins.length syms):∀(f i:Nat) (xs xs':List RS),XOk ins xs→ins.length < f+i→srch ins syms f i xs=(xs',false)→(∀ j r,j < i→xs[j]?=some r→Gone ins xs r) →
  xs <+: xs'∧∀ r∈xs',Gone ins xs' r
 | 0,i,xs,xs',hx,hf,hs,hg=>by
   simp only[srch,Prod.mk.injEq,and_true]at hs
   subst hs
   have:=hx.len
   refine⟨List.prefix_refl _,fun r hr=>?_⟩
   obtain⟨j,hj⟩:=List.mem_iff_getElem?.1 hr
   exact hg j r (by have:=(List.getElem?_eq_some_iff.1 hj).1;omega) hj
 | f+1,i,xs,xs',hx,hf,hs,hg=>by
   simp only[srch]at hs
   cases hi:xs[i]? with
   | none=>
     rw[hi]at hs
     simp only[Prod.mk.injEq,and_true]at hs
     subst hs
     refine⟨List.prefix_refl _,fun r hr=>?_⟩
     obtain⟨j,hj⟩:=List.mem_iff_getElem?.1 hr
     have h1:=(List.getElem?_eq_some_iff.1 hj).1
     have h2:=List.getElem?_eq_none_iff.1 hi
     exact hg j r (by omega) hj
   | some r=>
     rw[hi]at hs
     simp only at hs
     split at hs
     ·simp at hs
     ·rename_i hfk
      obtain⟨h1,h2⟩:=zK3 ins i r syms xs
      obtain⟨h3,h4,h5⟩:=XOk.adds h syms hx hi
      have hil:=(List.getElem?_eq_some_iff.1 hi).1
      have hpre:∀ j,j≤i→(syms.foldl (addS ins i r) xs)[j]?=xs[j]?:=fun j hj=>by
       obtain⟨t,ht⟩:=h1
       rw[← ht,List.getElem?_append_left (by omega)]
      obtain⟨h6,h7⟩:=zIk h hL f (i+1) _ xs' h3 (by omega) hs (fun j q hj hq=>by
       rw[hpre j (by omega)]at hq
       by_cases e:j=i
       ·subst e
        rw[hi]at hq
        cases hq
        refine⟨hfk,fun n hn=>?_⟩
        obtain⟨x,hx1,hx2,hx3⟩:=zGr h hn
        have hn2:n < ins.length:=(List.getElem?_eq_some_iff.1 hx1).1
        exact h2 (keyI ins n) (hL.has n x hn2 hx1 hx2 hx3) (n+1) (zJu h hfk hn hx1 (zE6 h hx1 hx3).1)
       ·obtain⟨g1,g2⟩:=hg j q (by omega) hq
        exact⟨g1,fun n hn=>(h1.map (·.st)).subset (g2 n hn)⟩)
      exact⟨h1.trans h6,h7⟩
theorem zMZ {ins:List Ins} (h:OkP ins) {syms:List Int} (hL:LeastTo ins ins.length syms) {xs:List RS} (hx:Explored ins xs false):Closed ins (fun st=>st∈xs.map (·.st))∧0∈xs.map (·.st):=by
 obtain⟨h1,h2⟩:=zIk h hL (ins.length+1) 0 xs0 xs (zNU h) (by omega) (hx.2 syms hL) (fun j r hj=>absurd hj (Nat.not_lt_zero _))
 refine⟨⟨fun st hst=>?_,fun st hst=>?_,fun st s b hst hl=>?_⟩,(h1.map (·.st)).subset (by simp[xs0])⟩
 ·obtain⟨r,hr,rfl⟩:=List.mem_map.1 hst
  exact hx.1.lt r hr
 ·obtain⟨r,hr,rfl⟩:=List.mem_map.1 hst
  exact(h2 r hr).1
 ·obtain⟨r,hr,rfl⟩:=List.mem_map.1 hst
  obtain⟨n,i,rfl,hn,_,_⟩:=zHu h hl
  exact(h2 r hr).2 n hn
end Go.Ev
namespace Go.Ev
attribute [local go_sem] evBin evBuild AV.cells splice List.length_append tySzE List.head?_drop Nat.mul_one zAP zAU zAN zAQ zAR zAX
section
attribute [local go_sem] evAppend List.map_append
open Go.Proofs Go.RowKit Go.IntWalk
set_option maxRecDepth 100000
set_option maxHeartbeats 16000000
def m18:List Int:=List.replicate 18 (-1)
def mat21 (b:Bool) (pos n:Nat):Option (Nat×List Int)→AV
 | none=>.agg [I 0,I 0,.sl b []]
 | some x=>matAV pos x.1 (capsN x.2 n)
abbrev cAV (ins:List Ins) (n:Nat) (num:Int):AV:=.pt [.sl false (ins.map insAV),I n,I num]
structure S21r where
 st:Int
 p:Nat
 regs:List Int
 res:Option (Nat×List Int)
def T21r (ins:List Ins) (n:Nat) (num:Int) (t:List Int) (pos:Nat) (s:S21r):St:=
 (⟨69,[(14,I s.st),(13,NV pos),(12,.bool s.res.isSome),(11,.rf 2 1 0 0),(9,.rf 1 1 0 0),(6,.rf 0 1 0 0),(2,NV s.p),(1,.sl false (t.map I)),(0,cAV ins n num)],[.row 3 [.agg [I 0,I 0,.sl true []]] 0,.row 18 [.agg (s.regs.map I)] 0,.row 3 [mat21 true pos n s.res] 0]⟩:St)
theorem zGI (b:Bool) (pos n:Nat) (r:Option (Nat×List Int)):AV.plain (mat21 false pos n r)=true∧∀ k,AV.under k (mat21 b pos n r)=true:=by
 cases r with
 | none=>exact⟨rfl,fun k=>rfl⟩
 | some x=>
   refine⟨zE1 _ _ _,fun k=>?_⟩
   have:=zAF k _ (zAG (capsN x.2 n))
   simp[mat21,matAV,AV.under,AV.underL,this]
theorem g21 {ins:List Ins} (h:OkP ins) {Q:Nat→Prop} (hQ:Closed ins Q) (hQ0:Q 0) (n:Nat) (hn:n≤9) (num:Int) (t:List Int) (ht:t.length≤65536) (pos:Nat) (hpos:pos≤t.length) (H:List MB) :
  call Tryz.prog pol1 21 [cAV ins n num,.sl false (t.map I),NV pos] H=some (.tup [mat21 false pos n (runO ins t (t.length+1 - pos) 0 pos m18 none),.bool (runO ins t (t.length+1 - pos) 0 pos m18 none).isSome,I 0],H):=by
 have hil:=h.len
 have hset:∀ i∈ins,i.set.length≤1000000:=fun i hi=>by have:=(h.sets i hi).2;omega
 generalize hR:runO ins t (t.length+1 - pos) 0 pos m18 none=R
 refine zAS Tryz.func21 rfl rfl rfl rfl rfl rfl (fun _=>rfl) (by simp[AV.plain,AV.plainL,zAE,zAH]) (by simp[AV.plain,AV.plainL,zGI true]) ?_ H
 simp +contextual (disch:=omega) only[Tryz.f21,dd21,go_sem,simprocAttr,mu21,↓zAD,↓zAC,↓zAB,↓zAA]
 let cur:Nat→List Int:=fun i=>List.replicate i (-1)++List.replicate (18 - i) 0
 have hcl:∀ i,i≤18→(cur i).length=18:=fun i hi=>by simp[cur];omega
 have hc0:[I 0,I 0,I 0,I 0,I 0,I 0,I 0,I 0,I 0,I 0,I 0,I 0,I 0,I 0,I 0,I 0,I 0,I 0]=(cur 0).map I:=rfl
 have hcN:cur 18=m18:=by simp[cur,m18]
 have hstep:∀ i,i < 18→cur (i+1)=(cur i).set i (-1):=fun i hi=>by
  simp only[cur]
  rw[show 18 - i=(18 - (i+1))+1 by omega,List.replicate_succ (a:=(0:Int)),List.set_append_right _ _ (by simp),List.replicate_succ' (a:=(-1:Int))]
  simp
 refine zAd (M:=(mskOf (pol1.mask 21) (pol1.gc 21) (pol1.acts 21) 0 7)) (by rfl) 18 (fun i=>(⟨69,[(32,NV i),(9,.rf 1 1 0 0),(6,.rf 0 1 0 0),(2,NV pos),(1,.sl false (t.map I)),(0,cAV ins n num)],[.row 3 [.agg [I 0,I 0,.sl true []]] 0,.row 18 [.agg ((cur i).map I)] 0]⟩:St)) (fun _=>True) ?_ ?_ trivial _ ?_
 ·intro i hi _
  have hlt:((i:Int) < 18)=True:=eq_true (by omega)
  have hwi:IntKind.i64.wrap ((i:Int)+1)=((i+1:Nat):Int):=by rw[i64_in]<;>omega
  have hcl1:=hcl i (by omega)
  simp +contextual (disch:=omega) only[Tryz.f21,dd21,go_sem,simprocAttr,mu21,↓zAD,↓zAC,↓zAB,↓zAA,hlt,hwi,zAW,hcl1]
  rw[hstep i hi,List.map_set,List.set_eq_take_append_cons_drop,if_pos (by simp[hcl1];omega)]
  rfl
 ·intro _
  rw[hcN]
  have hm18:m18.length=18:=rfl
  simp +contextual (disch:=omega) only[Tryz.f21,dd21,go_sem,simprocAttr,mu21,↓zAD,↓zAC,↓zAB,↓zAA,hm18]
  have hk4:∀ s:S21r,AV.underL 3 [I s.st,NV pos,.bool s.res.isSome,.rf 2 1 0 0,.rf 1 1 0 0,.rf 0 1 0 0,NV s.p,.sl false (t.map I),cAV ins n num]=true:=fun s=>by
   have h1:=zAF 3 _ (zAE t)
   have h2:=zAF 3 _ (zAH ins)
   simp[AV.underL,AV.under,h1,h2]
  have hun:∀ s:S21r,[MB.row 3 [.agg [I 0,I 0,.sl true []]] 0,.row 18 [.agg (s.regs.map I)] 0,.row 3 [mat21 true pos n s.res] 0].all (MB.under 3)=true:=fun s=>by
   have h1:=zAF 3 _ (zAE s.regs)
   have h2:=(zGI true pos n s.res).2 3
   simp[MB.under,AV.underL,AV.under,h1,h2]
  refine zFD (M:=(mskOf (pol1.mask 21) (pol1.gc 21) (pol1.acts 21) 0 15)) (by rfl) (T21r ins n num t pos) (fun s=>s.regs.length=18∧(s.st = -1∨(0≤s.st∧Q s.st.toNat∧s.p≤t.length))∧R=(if s.st < 0 then s.res else runO ins t (t.length+1 - s.p) s.st.toNat s.p s.regs s.res)) (fun s=>if s.st < 0 then 0 else t.length+2 - s.p) ⟨0,pos,m18,none⟩ ?_ ⟨rfl,.inr ⟨Int.le_refl _,hQ0,hpos⟩,hR.symm⟩ _ ?_
  ·rintro⟨st,p,regs,res⟩ ⟨hrl,hst,hr⟩
   simp only at hrl hst hr
   simp only[T21r]
   rcases hst with rfl|⟨hst0,hq,hp⟩
   ·rw[if_pos (by omega)]at hr
    subst hr
    have hneg:(0≤(-1:Int))=False:=by simp
    cases R with
    | none=>
      simp only[mat21]
      simp +contextual (disch:=omega) only[Tryz.f21,dd21,go_sem,simprocAttr,mu21,↓zAD,↓zAC,↓zAB,↓zAA]
      exact⟨_,rfl⟩
    | some x=>
      simp only[mat21,matAV]
      simp +contextual (disch:=omega) only[Tryz.f21,dd21,go_sem,simprocAttr,mu21,↓zAD,↓zAC,↓zAB,↓zAA]
      exact⟨_,zAf _ (by simp[mat21,matAV,AV.plain,AV.plainL,zAG])⟩
   ·obtain⟨k,rfl⟩:∃ k:Nat,st=k:=⟨st.toNat,by omega⟩
    simp only[Int.toNat_natCast]at hq hr
    rw[if_neg (by omega)]at hr
    have hk:=hQ.lt k hq
    obtain⟨hrun,hnx⟩:=level h (P:=⟨fun n=>ins[n]?,fun s n=>match t[n]? with
     | some x=>hasSpan s x
     | none=>false,fun _ _=>false⟩) ⟨fun _=>rfl,fun _ _=>rfl⟩ hk (hQ.nf k hq) p regs (by omega)
    obtain⟨hs1,hs2⟩:=zDf _ _ _ _ hrun (fun w hw=>by simp at hw;subst hw;rfl) ⟨rfl,rfl⟩
    have h44:=fun H=>f44 ins n num t p k (by omega) (by omega) hset h.leads hk (ins.length+1) (by omega) _ hrun H
    have hro:runO ins t (t.length+1 - p) k p regs res=if(chS ins t k p).nx < 0 then(if(chS ins t k p).dn=true then some (p,markL regs (chS ins t k p).la p) else res)
      else runO ins t (t.length - p) (chS ins t k p).nx.toNat (p+1) (markL regs (chS ins t k p).way p) (if(chS ins t k p).dn=true then some (p,markL regs (chS ins t k p).la p) else res):=by
     rw[show t.length+1 - p=(t.length - p)+1 by omega];rfl
    rw[hro]at hr
    have hnext:(chS ins t k p).nx = -1∨(0≤(chS ins t k p).nx∧Q (chS ins t k p).nx.toNat∧p+1≤t.length):=by
     rcases hnx with ⟨e,_⟩|⟨b,x,hx,hl,e,_⟩
     ·exact .inl e
     ·right
      rw[e,Int.toNat_natCast]
      exact⟨by omega,hQ.next k x b hq hl,(List.getElem?_eq_some_iff.1 hx).1⟩
    clear hnx hro
    generalize chS ins t k p=s at *
    have h46a:=fun H=>f46 regs s.way p hrl hs1 H
    have h46b:=fun H=>f46 regs s.la p hrl hs2 H
    have hml:∀ m:List Bool,m.length=18→(markL regs m p).length=18:=fun m hm=>by simp[markL,hrl,hm]
    have h45:=fun H=>f45 ins num pos p (markL regs s.la p) n (hml _ hs2) hn H
    have hge:(0≤(k:Int))=True:=eq_true (by omega)
    have hwi:IntKind.i64.wrap ((p:Int)+1)=((p+1:Nat):Int):=by rw[i64_in]<;>omega
    have w1:=zET s.way hs1
    have w2:=zET s.la hs2
    have w3:List.take 18 (regs.map I)=regs.map I:=List.take_of_length_le (by simp[hrl])
    have w4:=zBR s.way
    have w5:=zBR s.la
    have w6:(regs.map I).all AV.ok=true:=by simp[AV.ok]
    have w7:((markL regs s.way p).map I).all AV.ok=true:=by simp[AV.ok]
    have w8:=hml _ hs1
    have w9:=hml _ hs2
    have w10:(regs.map I).drop 18=[]:=List.drop_of_length_le (by simp[hrl])
    obtain⟨m1,m2,m3,hm⟩:∃ a b c,mat21 true pos n res=.agg [a,b,c]:=by cases res<;>exact⟨_,_,_,rfl⟩
    have hms:∀ x:AV,(match x with | .agg cs=>AV.agg cs|y=>y)=x:=fun x=>by cases x<;>rfl
    have hme:(if s.nx < 0 then 0 else t.length+2 - (p+1)) < (if(k:Int) < 0 then 0 else t.length+2 - p):=by rw[if_neg (show ¬ (k:Int) < 0 by omega)];split<;>omega
    have hle:t.length - p=t.length+1 - (p+1):=by omega
    rw[hle]at hr
    cases hd:s.dn with
    | true=>
      rw[hd]at h44 hr
      simp +contextual (disch:=omega) only[Tryz.f21,dd21,go_sem,simprocAttr,mu21,↓zAD,↓zAC,↓zAB,↓zAA,h44,h46a,h46b,h45,hge,hwi,w1,w2,w3,w4,w5,w6,w7,w8,w9,w10,hm,hrl,hs1,hs2,matAV,List.append_nil]
      refine⟨⟨s.nx,p+1,markL regs s.way p,some (p,markL regs s.la p)⟩,⟨w8,hnext,by simpa using hr⟩,hme,?_⟩
      exact zAa rfl rfl (hk4 ⟨s.nx,p+1,markL regs s.way p,some (p,markL regs s.la p)⟩) (hun ⟨s.nx,p+1,markL regs s.way p,some (p,markL regs s.la p)⟩) rfl
    | false=>
      rw[hd]at h44 hr
      simp +contextual (disch:=omega) only[Tryz.f21,dd21,go_sem,simprocAttr,mu21,↓zAD,↓zAC,↓zAB,↓zAA,h44,h46a,h46b,h45,hge,hwi,w1,w2,w3,w4,w5,w6,w7,w8,w9,w10,hrl,hs1,hs2,List.append_nil]
      refine⟨⟨s.nx,p+1,markL regs s.way p,res⟩,⟨w8,hnext,by simpa using hr⟩,hme,?_⟩
      exact zAa rfl rfl (hk4 ⟨s.nx,p+1,markL regs s.way p,res⟩) (hun ⟨s.nx,p+1,markL regs s.way p,res⟩) rfl
  ·exact zAa rfl rfl (hk4 ⟨0,pos,m18,none⟩) (hun ⟨0,pos,m18,none⟩) rfl
 ·rfl
end
section
attribute [local go_sem] evAppend List.map_append
open Go.Proofs Go.RowKit Go.IntWalk
set_option maxRecDepth 100000
set_option maxHeartbeats 8000000
def matsG (at_:Int) (es:List Int) (cs:List Caps) (n:Nat):List AV:=(List.range n).map fun i=>matAV at_ (es.getD i 0) (cs.getD i [])
theorem zLG (at_:Int) (es:List Int) (cs:List Caps) (n:Nat):matsG at_ es cs (n+1)=matsG at_ es cs n++[matAV at_ (es.getD n 0) (cs.getD n [])]:=by simp[matsG,List.range_succ]
theorem zI3 (at_:Int) (es:List Int) (cs:List Caps) (n:Nat):(matsG at_ es cs n).length=n:=by simp[matsG]
theorem zDi (at_:Int) (es:List Int) (cs:List Caps) (n:Nat):AV.plainL (matsG at_ es cs n)=true:=by
 rw[zFK]
 intro x hx
 obtain⟨i,_,rfl⟩:=List.mem_map.1 hx
 exact zE1 _ _ _
theorem f137e (re:Re) (caps:Int) (t:List Int) (fuel:Int) (hw:re.wt≤1000000) (hv:validP ⟨re,caps,false⟩≠0) (H:List MB) :
  call Tryz.prog pol1 117 [patAV ⟨re,caps,false⟩,.sl false (t.map I),I fuel] H=some (I (validP ⟨re,caps,false⟩),H):=by
 have h52:=f52 ⟨re,caps,false⟩ hw
 generalize validP ⟨re,caps,false⟩=v at *
 have hpl:=zAx ⟨re,caps,false⟩
 refine zAS Tryz.func117 rfl rfl rfl rfl rfl rfl (fun _=>rfl) (by simp[AV.plainL,AV.plain,zAE];exact hpl) rfl ?_ H
 have hl8:=zAM re
 have hget9:(reC re++[I caps,.bool false])[9]?=some (.bool false):=by rw[List.getElem?_append_right (by omega),hl8];rfl
 have htk:List.take 10 (reC re++[I caps,.bool false])=reC re++[I caps,.bool false]:=List.take_of_length_le (by simp[zAM])
 have hall:=zAs re
 simp +contextual (disch:=omega) only[Tryz.f117,zNJ,go_sem,simprocAttr,zM5,↓zAD,↓zAC,↓zAB,↓zAA,h52,hl8,hget9,htk,hall,List.all_append]
 repeat' (first|intro _|apply And.intro|(unfold dOk;kernel_rfl)|exact St.beq_refl _|(show altO _ _ _ _=true;kernel_rfl)|(show (_ || _)=true;kernel_rfl)|(show (_ && _)=true;kernel_rfl))
 all_goals exact⟨_,rfl⟩
theorem f123e (re:Re) (n:Nat) (t:List Int) (at_:Nat) (fuel:Int) (hw:re.wt≤1000000) (hv:validP ⟨re,n,false⟩≠0) (H:List MB) :
  call Tryz.prog pol1 95 [patAV ⟨re,n,false⟩,.sl false (t.map I),I at_,I (-1),I fuel] H=some (.tup [.sl false [],I 0,I (validP ⟨re,n,false⟩)],H):=by
 have h137:=f137e re n t fuel hw hv
 generalize validP ⟨re,n,false⟩=v at *
 have hpl:=zAx ⟨re,n,false⟩
 have hl8:=zAM re
 have htk:List.take 10 (reC re++[I n,.bool false])=reC re++[I n,.bool false]:=List.take_of_length_le (by simp[zAM])
 have hall:=zAs re
 refine zAS Tryz.func95 rfl rfl rfl rfl rfl rfl (fun _=>rfl) (by simp[AV.plainL,AV.plain,zAE];exact hpl) rfl ?_ H
 simp +contextual (disch:=omega) only[Tryz.f95,dd95,go_sem,simprocAttr,mu95,↓zAD,↓zAC,↓zAB,↓zAA,h137,hl8,htk,hall,List.all_append]
 repeat' (first|intro _|apply And.intro|(unfold dOk;kernel_rfl)|exact St.beq_refl _|(show altO _ _ _ _=true;kernel_rfl)|(show (_ || _)=true;kernel_rfl)|(show (_ && _)=true;kernel_rfl))
 all_goals exact⟨_,rfl⟩
theorem f123 (re:Re) (n:Nat) (t:List Int) (at_:Nat) (fuel:Int) (hw:re.wt≤1000000) (hv:validP ⟨re,n,false⟩=0) (hn:n≤1000) (hl:t.length≤65536) (ht:∀ x∈t,0≤x∧x≤255) (hf:0≤fuel∧fuel≤1000000)
  (hr:RGood n 255 re) (hc:lpG re=true) (ha:at_≤t.length) :
  ∃(out:AV) (k e:Int),AV.plain out=true∧(e=0∨e=11)∧(e=0→(costR t re at_:Int)≤fuel)∧∀ H,call Tryz.prog pol1 95 [patAV ⟨re,n,false⟩,.sl false (t.map I),I at_,I (-1),I fuel] H=some (.tup [out,I k,I e],H):=by
 have h137:=f137 re n t fuel hw hv hl ht hf
 have h139:=f139 n hn
 have hs0:SPre fuel (⟨0,false,[],[]⟩:SS):=⟨rfl,⟨Int.le_refl _,hf.1⟩,rfl,by simp⟩
 have hg0:GG n 255 t.length (0:Int) (.mk 0 re 0 0 .nil):=⟨hr,.inl rfl,⟨Int.le_refl _,by omega⟩,trivial⟩
 obtain⟨d,b,s,hrun,hpost,hst⟩:=zKh n 255 t fuel re hr hc 0 0 .nil at_ (fun _=>0) ha (fun j hj=>RT.nil (zDz t re at_ ha j hj).2) (bare n) ⟨0,false,[],[]⟩ hg0 (by simp;omega) hs0
 have hsum:((outs t re at_).map fun _=>0).sum=0:=by
  induction outs t re at_ with
  | nil=>rfl
  | cons a l ih=>simp[ih]
 rw[hsum]at hst
 have h138:=(zKw [.row 10 [patAV ⟨re,n,false⟩] 0] [] t fuel ⟨0,false,[],[]⟩ 0 (goalC 0 re 0 0 .nil) at_ (bare n) (zBr 0 re 0 0 .nil)).trans
  (zNX hl hf d [.row 10 [patAV ⟨re,n,false⟩] 0] [MB.row 12 [.agg (goalC 0 re 0 0 .nil)] 1] (.mk 0 re 0 0 .nil) at_ (bare n) ⟨0,false,[],[]⟩ b s hg0 (by omega) (by omega) (by simp;omega) hs0 hrun)
 have hcl:=hpost.cl
 have hel:=hpost.el
 have hfu:=hpost.fu
 have heb:=hpost.eb
 obtain⟨steps,empty,ends,caps⟩:=s
 simp only at hcl hel hfu heb hst
 simp only[srH,goalC,goalA,sB,List.length_cons,List.length_nil,List.map_nil,List.cons_append,List.nil_append,Nat.reduceAdd,Nat.zero_add]at h138
 have hpl:=zAx ⟨re,n,false⟩
 have hl8:=zAM re
 have hget8:(reC re++[I n,.bool false])[8]?=some (I n):=by rw[List.getElem?_append_right (by omega),hl8];rfl
 have htk:List.take 10 (reC re++[I n,.bool false])=reC re++[I n,.bool false]:=List.take_of_length_le (by simp[zAM])
 have htk8:∀ l,List.take 8 (reC re++l)=reC re:=fun l=>by
  rw[List.take_append_of_le_length (by omega)];exact List.take_of_length_le (by omega)
 have hall:=zAs re
 subst heb
 cases b with
 | true=>
   refine⟨.sl false [],0,11,rfl,.inr rfl,fun h=>by omega,?_⟩
   refine fun H=>zAS Tryz.func95 rfl rfl rfl rfl rfl rfl (fun _=>rfl) (by simp[AV.plainL,AV.plain,zAE];exact hpl) rfl ?_ H
   simp +contextual (disch:=omega) only[Tryz.f95,dd95,go_sem,simprocAttr,mu95,↓zAD,↓zAC,↓zAB,↓zAA,h137,h139,h138,hl8,hget8,htk,htk8,hall,List.all_append]
   repeat' (first|intro _|apply And.intro|(unfold dOk;kernel_rfl)|exact St.beq_refl _|(show altO _ _ _ _=true;kernel_rfl)|(show (_ || _)=true;kernel_rfl)|(show (_ && _)=true;kernel_rfl))
   all_goals exact⟨_,rfl⟩
 | false=>
   refine⟨.sl false (matsG at_ ends caps ends.length),steps,0,zDi _ _ _ _,.inl rfl,fun _=>by have:=hst rfl;have:=hfu rfl;omega,?_⟩
   refine fun H=>zAS Tryz.func95 rfl rfl rfl rfl rfl rfl (fun _=>rfl) (by simp[AV.plainL,AV.plain,zAE];exact hpl) (by simp[AV.plain,AV.plainL,zDi]) ?_ H
   simp +contextual (disch:=omega) only[Tryz.f95,dd95,go_sem,simprocAttr,mu95,↓zAD,↓zAC,↓zAB,↓zAA,h137,h139,h138,hl8,hget8,htk,htk8,hall,List.all_append]
   repeat' (first|intro _|apply And.intro|(unfold dOk;kernel_rfl)|exact St.beq_refl _|(show altO _ _ _ _=true;kernel_rfl)|(show (_ || _)=true;kernel_rfl)|(show (_ && _)=true;kernel_rfl))
   have u1:∀ m,AV.underL m (reC re)=true:=fun m=>zAF _ _ (zAb re)
   have hE:ends.length≤300000000:=by have:=hfu rfl;simp only[List.length_nil]at hel;omega
   refine zAd (M:=(mskOf (pol1.mask 95) (pol1.gc 95) (pol1.acts 95) 0 12)) rfl ends.length (fun j=>(⟨84,[(16,I j),(15,.ms 5 3 j 0 j),(14,.rf 1 1 0 0),(2,I at_)],[.row 10 [patAV ⟨re,n,false⟩] 0,
    .row 7 [.agg [.sl false (t.map I),I (-1),I fuel,I steps,.bool false,.ms 2 1 ends.length 0 ends.length,.ms 3 1 ends.length 0 ends.length]] 0,.row 1 (ends.map I) 0,.row 1 (caps.map capA) 0,
    .row 12 [.agg (goalC 0 re 0 0 .nil)] 1,.row 3 (matsG at_ ends caps j) 0]⟩:St)) (fun _=>True) ?_ ?_ trivial _ ?_
   ·intro j hj _
    obtain⟨a,ha⟩:∃ a,ends[j]?=some a:=⟨_,List.getElem?_eq_getElem (by omega)⟩
    obtain⟨c,hc⟩:∃ c,caps[j]?=some c:=⟨_,List.getElem?_eq_getElem (by omega)⟩
    have hm:=zI3 at_ ends caps j
    have hpm:=zDi at_ ends caps j
    rw[zLG,List.getD_eq_getElem?_getD,List.getD_eq_getElem?_getD,ha,hc]
    simp only[Option.getD_some]
    generalize matsG at_ ends caps j=ms at *
    have htk:List.take j ms=ms:=List.take_of_length_le (by omega)
    simp +contextual (disch:=omega) only[Tryz.f95,dd95,go_sem,simprocAttr,mu95,↓zAD,↓zAC,↓zAB,↓zAA,ha,hc,hm,hcl,matAV,htk]
    repeat' (first|intro _|apply And.intro|(unfold dOk;kernel_rfl)|exact St.beq_refl _|(show altO _ _ _ _=true;kernel_rfl)|(show (_ || _)=true;kernel_rfl)|(show (_ && _)=true;kernel_rfl))
    all_goals (refine zAa (n:=6) (m:=⟨some [16,15,14,2],some 6,[]⟩) rfl rfl ?_ ?_ ?_<;>simp[keepT,AV.underL,AV.under,MB.under,zAF,zAJ,zAK,zAE,zAG,-List.map_take,u1,zFJ,hpm,htk]<;>rfl)
   ·intro _
    have hm:=zI3 at_ ends caps ends.length
    have hpm:=zDi at_ ends caps ends.length
    generalize matsG at_ ends caps ends.length=ms at *
    simp +contextual (disch:=omega) only[Tryz.f95,dd95,go_sem,simprocAttr,mu95,↓zAD,↓zAC,↓zAB,↓zAA,hm]
    repeat' (first|intro _|apply And.intro|(unfold dOk;kernel_rfl)|exact St.beq_refl _|(show altO _ _ _ _=true;kernel_rfl)|(show (_ || _)=true;kernel_rfl)|(show (_ && _)=true;kernel_rfl))
    simp only[fz,zFO,fzL,zFP]
    rw[zDS (els:=ms) (k:=3) (z:=0) rfl hm hpm]
    exact⟨_,rfl⟩
   ·refine zA7 rfl (by rfl) (by rfl) (by rfl) ?_ ?_<;>simp[AV.underL,AV.under,MB.under,zAF,zAJ,zAE,zAG,zFJ,zAK,u1,-List.map_take]
    all_goals exact⟨rfl,rfl⟩
end
section
attribute [local go_sem] evAppend List.map_append
open Go.Proofs Go.RowKit Go.IntWalk
set_option maxRecDepth 100000
set_option maxHeartbeats 8000000
def compP (p:Pat):Prg×Int:=
 if validP p=0 then
  if compG [] p.re=true then
   if lenG p.re+1≤8192 then(⟨codeG p.re 0++[⟨0,0,0,0,[]⟩],p.caps,p.runes⟩,0) else(⟨[],0,false⟩,4)
  else(⟨[],0,false⟩,10)
 else(⟨[],0,false⟩,validP p)
theorem zCq {p:Pat} (h:validP p=0):p.re.size≤256∧p.re.depth≤24∧0≤p.caps∧p.caps≤9∧wholeG p.caps (topI p.runes) p.re=true:=by
 unfold validP at h
 split at h
 ·cases h
 ·split at h
  ·cases h
  ·rename_i h1 h2
   cases hw:wholeG p.caps (topI p.runes) p.re with
   | true=>exact⟨by omega,by omega,by omega,by omega,rfl⟩
   | false=>exact absurd (.inr (.inr hw)) h2
theorem f53n (caps top:Int) (r:Re) (hN:r.wt≤1000000) (hw:wholeG caps top r=true) (H:List MB):call Tryz.prog pol1 61 [reAV r,.sl true []] H=some (.bool (compG [] r),H):=by
 rw[← f53 caps top r.wt r [] (Nat.le_refl _) hN (by simp;omega) hw H]
 refine zMd rfl ?_ (by simp[AV.plain,AV.plainL,zAb])
 have hby:∀ i,pol1.byref 61 i=false:=fun i=>rfl
 have hz:fz (reAV r) H=some (reAV r,H):=zAf _ (by simp[AV.plain,zAb])
 have h2:fz (.sl true []) H=some (.sl false [],H):=rfl
 simp only[frzArgs,hby,Bool.false_eq_true,if_false,hz,h2,List.map_nil]
theorem zOD {H:List MB} {id n:Nat} {els:List AV} {c:List Ins} (caps:Int) (runes:Bool) (hl:els.length=n) (hk:∀ j H,fzL j els H=some (c.map insAV,H)) (hr:getRow H id=some (5,els,0)) :
  ∃ H',fz (.tup [.agg [.ms id 5 n 0 n,I caps,.bool runes],I 0]) H=some (.tup [prgAV ⟨c,caps,runes⟩,I 0],H'):=by
 have h2:fzA (fzJ 6) (.ms id 5 n 0 n) H=some (.sl false (c.map insAV),mark H id n):=by
  have:=zKr (n:=5) (off:=0) (len:=n) (ys:=c.map insAV) (H':=mark H id (0+n)) hr hl (by omega) (by rw[List.drop_zero,List.take_of_length_le (by omega)];exact hk _ _)
  rwa [Nat.zero_add]at this
 refine⟨mark H id n,?_⟩
 simp only[fz,zFO,zJ5,fzL,h2,zFP]
 rfl
end
section
open Go.Proofs Go.RowKit Go.IntWalk
set_option maxRecDepth 100000
set_option maxHeartbeats 8000000
theorem zKx {H:List MB} {i n z:Nat} {els:List AV} {y:AV} {t:Bool} (hi:getRow H i=some (5,els,z)) (hn:els.length=n) (hy:(decide (y.cells.length=5) && y.cells.all AV.ok)=true) (hz:z≤n) (hr:n+1≤4000000000) :
  evAppend Tryz.prog H 33 33 (.ms i 5 n 0 n) (.sl t [y])=some (.ms i 5 (n+1) 0 (n+1),H.set i (.row 5 (els++[y]) z)):=by
 have hs:srcElems Tryz.prog H 70 (.sl t [y])=some [y]:=rfl
 rw[zBI (e:=70) (by kernel_rfl) (by kernel_rfl) (k:=5) (by kernel_rfl) (by_:=56) (by kernel_rfl) (ze:=.agg [I 0,I 0,I 0,I 0,.sl true []]) (by kernel_rfl) rfl (by omega) hs (by simp only[List.all_cons,List.all_nil,hy,Bool.and_true]) hi hn hz (zAX hr (by omega))]
 rfl
theorem zGN:∀(n:Nat) (l m:List MB),keptOk n l (l++m)=true
 | _,[],_=>rfl
 | n,x::xs,m=>by simp[keptOk,MB.beq_refl,zGN n xs m]
theorem zAc {α:Type} (K:List α) (b:α):(K++[b])[K.length]?=some b:=by simp
theorem zAg {α:Type} (K:List α) (b c:α):(K++[b]).set K.length c=K++[c]:=by simp
abbrev codeH (C:List Ins) (n:Nat) (R:List MB):List MB:=.row 1 [.ms 1 5 n 0 n] 0::.row 5 (C.map insAV) 0::R
theorem zGK {C C':List Ins} {n n' m:Nat} {R S:List MB} (hm:2≤m):keptOk m (codeH C n R) (codeH C' n' (R++S))=true:=by
 simp[keptOk,zGN,MB.under,AV.underL,AV.under,zAF _ _ (zAH C')]
 omega
theorem zGt (a b c d:Int) (t:Bool) (s:List (Int×Int)) (C:List Ins) (n:Nat) (R:List MB) (hn:C.length=n) (hb:n≤1000000) :
  call Tryz.prog pol1 89 [.agg [I a,I b,I c,I d,.sl t (s.map spanAV)],.rf 0 1 0 0] (codeH C n R)=some (I n,codeH (C++[⟨a,b,c,d,s⟩]) (n+1) R):=by
 have fr:frzArgs pol1 89 0 [.agg [I a,I b,I c,I d,.sl t (s.map spanAV)],.rf 0 1 0 0] (codeH C n R)=some ([.agg [I a,I b,I c,I d,.sl false (s.map spanAV)],.rf 0 1 0 0],codeH C n R):=by
  have h0:pol1.byref 89 0=false:=rfl
  have h1:pol1.byref 89 1=true:=rfl
  have h2:∀ H,fzL (fzJ 6) (s.map spanAV) H=some (s.map spanAV,H):=fun H=>zBE _ _ H (zAG s)
  simp only[frzArgs,h0,h1,Bool.false_eq_true,if_false,if_true,fz,fzA,fzL,h2]
 refine zAY (pol:=pol1) Tryz.func89 rfl rfl rfl rfl fr ?_
 have hap:=fun X=>zKx (H:=codeH C n (R++[X])) (i:=1) (n:=n) (t:=true) (y:=insAV ⟨a,b,c,d,s⟩) rfl (by rw[List.length_map];exact hn) rfl (Nat.zero_le _) (by omega)
 have hmp:C.map insAV++[insAV ⟨a,b,c,d,s⟩]=(C++[(⟨a,b,c,d,s⟩:Ins)]).map insAV:=by simp
 simp +contextual (disch:=omega) only[Tryz.f89,dd89,go_sem,simprocAttr,mu89,↓zAD,↓zAC,↓zAB,↓zAA,hap,zAc,zAg,hmp]
 refine zBB rfl rfl rfl (zGK (by simp)) (by simp)
end
section
attribute [local go_sem] evAppend
open Go.Proofs Go.RowKit Go.IntWalk
set_option maxRecDepth 100000
set_option maxHeartbeats 8000000
theorem f109z (x y md:Int) (H:List MB):call Tryz.prog pol1 91 [I x,I y,I md] H=some (insAV (insSplit md x y),H):=by
 refine zAS Tryz.func91 rfl rfl rfl rfl rfl rfl (fun _=>rfl) rfl (by simp[AV.plain,AV.plainL,zAG]) ?_ H
 by_cases h:md=1
 ·subst h
  simp +contextual (disch:=omega) only[Tryz.f91,dd91,go_sem,simprocAttr,List.map_append,mu91,↓zAD,↓zAC,↓zAB,↓zAA]
  exact⟨_,rfl⟩
 ·rw[insSplit,if_neg h]
  simp +contextual (disch:=omega) only[Tryz.f91,dd91,go_sem,simprocAttr,List.map_append,mu91,↓zAD,↓zAC,↓zAB,↓zAA]
  exact⟨_,rfl⟩
theorem cloneX (l:List (Int×Int)) (hl:l.length≤1000000):(((l.map spanAV).all fun y=>decide (y.cells.length=2) && y.cells.all AV.ok)=true∧roomFor (l.map spanAV).length 16=true∧AV.plainL (l.map spanAV)=true):=by
 refine⟨?_,zAX (by rw[List.length_map];omega) (by omega),zAG l⟩
 rw[List.all_eq_true]
 intro x hx
 obtain⟨i,_,rfl⟩:=List.mem_map.1 hx
 rfl
theorem f92 (l:List (Int×Int)) (hl:l.length≤1000000) (b:MB) (H:List MB):call Tryz.prog pol1 38 [.sl false (l.map spanAV)] (b::H)=some (.sl false (l.map spanAV),b::H):=by
 rw[zA5]
 unfold evStep
 have hx:cloneExt 2 16 [.sl false (l.map spanAV)] (b::H)=some (.sl false (l.map spanAV),b::H):=by
  simp only[cloneExt,elemsOf]
  rw[if_pos (cloneX l hl)]
 rw[if_neg (show ¬ pol1.pure 38=true by decide)]
 exact hx
abbrev cS (K:List MB) (C:List Ins) (n:Nat):List MB:=codeH C n (.row 1 [.clo 89 [.rf 0 1 0 0]] 0::.row 1 [.clo 93 [.rf 2 1 0 0,.rf 3 1 0 0,.rf 5 1 0 0,.rf 4 1 0 0]] 0::.row 1 [.clo 90 [.rf 3 1 0 0,.rf 2 1 0 0,.rf 0 1 0 0]] 0::.row 1 [.clo 92 [.rf 2 1 0 0,.rf 3 1 0 0,.rf 0 1 0 0]] 0::K)
def Does111 (r:Re):Prop:=∀(K:List MB) (C:List Ins) (n:Nat),C.length=n→n+lenG r≤100000→lenG r≤8192 →
 call Tryz.prog pol1 93 [.pt (reC r),.rf 2 1 0 0,.rf 3 1 0 0,.rf 5 1 0 0,.rf 4 1 0 0] (cS K C n)=some (.tup [],cS K (C++codeG r n) (n+lenG r))
def Does108 (r:Re):Prop:=∀(K:List MB) (C:List Ins) (n:Nat),C.length=n→n+lenG r≤100000→lenG r≤8192 →
 call Tryz.prog pol1 90 [.pt (reC r),.rf 3 1 0 0,.rf 2 1 0 0,.rf 0 1 0 0] (cS K C n)=some (.tup [],cS K (C++codeG r n) (n+lenG r))
def Does110 (l:List Re):Prop:=∀(K:List MB) (C:List Ins) (n:Nat),C.length=n→n+lenL l+2 * (l.length - 1)≤100000→lenL l+2 * (l.length - 1)≤8192 →
 call Tryz.prog pol1 92 [.sl false (l.map reAV),.rf 2 1 0 0,.rf 3 1 0 0,.rf 0 1 0 0] (cS K C n)=some (.tup [],cS K (C++codeAlt l n) (n+lenL l+2 * (l.length - 1)))
theorem zOE (caps top:Int) (hcaps:caps≤1000):∀ r:Re,r.wt≤1000000→GoodC caps top r→(∀ op set kids mn mx md n neg,r=.mk op set kids mn mx md n neg→(op=4→Does108 r)∧(op=3→Does110 kids)∧∀ k∈kids,Does111 k)→Does111 r
 | .mk op set kids mn mx md n neg,hN,hw,hk=>by
   obtain⟨d108,d110,ih⟩:=hk _ _ _ _ _ _ _ _ rfl
   intro K C m hC hb hl
   have hkl:=Re.wtL_len kids
   have hwt:1+set.length+Re.wtL kids=(Re.mk op set kids mn mx md n neg).wt:=by simp[Re.wt]
   have hop:=hw.op
   have hlen:=zBO caps top _ m hw
   obtain⟨hwk,hkd,hrp,hnn,ho1,ho2⟩:=zAv hw.whole
   have hgk:=hw.kids
   have hrc:(.pt (reC (.mk op set kids mn mx md n neg)):AV)=.pt (nodeL op set kids mn mx md n neg):=congrArg AV.pt zCc
   have fr:∀ H,frzArgs pol1 93 0 [.pt (nodeL op set kids mn mx md n neg),.rf 2 1 0 0,.rf 3 1 0 0,.rf 5 1 0 0,.rf 4 1 0 0] H=some ([.pt (nodeL op set kids mn mx md n neg),.rf 2 1 0 0,.rf 3 1 0 0,.rf 5 1 0 0,.rf 4 1 0 0],H):=fun H=>
    zAO _ _ _ (by simp[mixOk,show pol1.byref 93 1=true from rfl,show pol1.byref 93 2=true from rfl,show pol1.byref 93 3=true from rfl,show pol1.byref 93 4=true from rfl,AV.plain,AV.plainL,zAG,zAL])
   have h107:=zGt
   rw[hrc]
   refine zAY (pol:=pol1) Tryz.func93 rfl rfl rfl rfl (fr _) ?_
   have rt:∀ C' n',retPol pol1 93 (cS K C m) (.tup []) (cS K C' n')=some (.tup [],cS K C' n'):=fun C' n'=>
    zBB rfl rfl rfl (by have:=@zGK C C' m n' (cS K C m).length (.row 1 [.clo 89 [.rf 0 1 0 0]] 0::.row 1 [.clo 93 [.rf 2 1 0 0,.rf 3 1 0 0,.rf 5 1 0 0,.rf 4 1 0 0]] 0::.row 1 [.clo 90 [.rf 3 1 0 0,.rf 2 1 0 0,.rf 0 1 0 0]] 0::.row 1 [.clo 92 [.rf 2 1 0 0,.rf 3 1 0 0,.rf 0 1 0 0]] 0::K) [] (by simp);simpa using this) (by simp)
   rcases hop with rfl|rfl|rfl|rfl|rfl|rfl|rfl
   ·have hk0:kids=[]:=List.length_eq_zero_iff.1 (by simpa [kidsG] using hkd)
    subst hk0
    have hc:codeG (.mk 0 set [] mn mx md n neg) m=[]:=by rw[codeG];rfl
    rw[← hlen,hc,List.append_nil]
    simp +contextual (disch:=omega) only[Tryz.f93,dd93,go_sem,simprocAttr,mu93,↓zAD,↓zAC,↓zAB,↓zAA]
    exact rt C m
   ·have hc:codeG (.mk 1 set kids mn mx md n neg) m=[⟨1,0,0,0,set⟩]:=by rw[codeG];rfl
    have h1:=fun R=>zGt 1 0 0 0 false set C m R hC (by omega)
    have h92:=f92 set (by omega)
    rw[← hlen,hc]
    simp +contextual (disch:=omega) only[Tryz.f93,dd93,go_sem,simprocAttr,mu93,↓zAD,↓zAC,↓zAB,↓zAA,h1,h92]
    repeat' (first|intro _|apply And.intro|(unfold dOk;kernel_rfl)|exact St.beq_refl _|(show altO _ _ _ _=true;kernel_rfl)|(show (_ || _)=true;kernel_rfl)|(show (_ && _)=true;kernel_rfl))
    exact rt _ _
   ·have hc:codeG (.mk 2 set kids mn mx md n neg) m=codeCat kids m:=by rw[codeG];rfl
    have hL:lenG (.mk 2 set kids mn mx md n neg)=lenL kids:=by rw[lenG];rfl
    rw[hL]at hl hb hlen ⊢
    rw[hc]at hlen ⊢
    simp +contextual (disch:=omega) only[Tryz.f93,dd93,go_sem,simprocAttr,mu93,↓zAD,↓zAC,↓zAB,↓zAA]
    refine zAd (M:=(mskOf (pol1.mask 93) (pol1.gc 93) (pol1.acts 93) 0 7)) rfl kids.length (fun i=>(⟨89,[(37,I i),(36,I kids.length),(2,.rf 3 1 0 0),(0,.pt (nodeL 2 set kids mn mx md n neg))],cS K (C++codeCat (kids.take i) m) (m+lenL (kids.take i))⟩:St)) (fun _=>True) ?_ ?_ trivial _ ?_
    ·intro i hi _
     obtain⟨k,hk⟩:∃ k,kids[i]?=some k:=⟨_,List.getElem?_eq_getElem hi⟩
     have hkm:=List.mem_of_getElem? hk
     have hl8:=zAM k
     have ht8:=zAT k
     have e1:=zE3 hk
     have e2:=zJW hk m
     have e4:=zFd kids (i+1)
     have hck:=zEj caps top (kids.take i) m (fun k h=>hgk k (List.mem_of_mem_take h))
     have h2:=ih k hkm K (C++codeCat (kids.take i) m) (m+lenL (kids.take i)) (by simp[hC,hck]) (by omega) (by omega)
     simp +contextual (disch:=omega) only[Tryz.f93,dd93,go_sem,simprocAttr,mu93,↓zAD,↓zAC,↓zAB,↓zAA,hk,h2,hl8,ht8]
     rw[e1,e2,← List.append_assoc,← Nat.add_assoc]
     repeat' (first|intro _|apply And.intro|(unfold dOk;kernel_rfl)|exact St.beq_refl _|(show altO _ _ _ _=true;kernel_rfl)|(show (_ || _)=true;kernel_rfl)|(show (_ && _)=true;kernel_rfl))
     rfl
    ·intro _
     rw[List.take_length]
     simp +contextual (disch:=omega) only[Tryz.f93,dd93,go_sem,simprocAttr,mu93,↓zAD,↓zAC,↓zAB,↓zAA]
     exact rt _ _
    ·skip
     simp[codeCat,lenL]
     rfl
   ·have hc:codeG (.mk 3 set kids mn mx md n neg) m=codeAlt kids m:=by rw[codeG];rfl
    have hL:lenG (.mk 3 set kids mn mx md n neg)=lenL kids+2 * (kids.length - 1):=by rw[lenG,if_neg (by omega),if_pos rfl]
    rw[hL]at hl hb hlen ⊢
    rw[hc]at hlen ⊢
    have h1:=d110 rfl K C m hC (by omega) hl
    rw[Nat.add_assoc]at h1
    simp +contextual (disch:=omega) only[Tryz.f93,dd93,go_sem,simprocAttr,mu93,↓zAD,↓zAC,↓zAB,↓zAA,h1]
    repeat' (first|intro _|apply And.intro|(unfold dOk;kernel_rfl)|exact St.beq_refl _|(show altO _ _ _ _=true;kernel_rfl)|(show (_ || _)=true;kernel_rfl)|(show (_ && _)=true;kernel_rfl))
    exact rt _ _
   ·have h1:=d108 rfl K C m hC hb hl
    rw[hrc]at h1
    simp +contextual (disch:=omega) only[Tryz.f93,dd93,go_sem,simprocAttr,mu93,↓zAD,↓zAC,↓zAB,↓zAA,h1]
    repeat' (first|intro _|apply And.intro|(unfold dOk;kernel_rfl)|exact St.beq_refl _|(show altO _ _ _ _=true;kernel_rfl)|(show (_ || _)=true;kernel_rfl)|(show (_ && _)=true;kernel_rfl))
    exact rt _ _
   ·obtain⟨k,rfl⟩:∃ k,kids=[k]:=List.length_eq_one_iff.1 (by simpa [kidsG] using hkd)
    have hn1:=hnn (.inl rfl)
    have hc:codeG (.mk 5 set [k] mn mx md n neg) m=[⟨4,0,0,2 * n - 2,[]⟩]++codeG k (m+1)++[⟨4,0,0,2 * n - 1,[]⟩]:=by rw[codeG];rfl
    have hL:lenG (.mk 5 set [k] mn mx md n neg)=1+lenG k+1:=by
     rw[lenG,if_neg (by omega),if_neg (by omega),if_pos rfl];simp[lenL];omega
    rw[hL]at hlen hl hb ⊢
    have hl8:=zAM k
    have ht8:=zAT k
    have hk5:=zBO caps top k (m+1) (hgk k (List.mem_singleton.2 rfl))
    have h1:=fun R=>zGt 4 0 0 (2 * n - 2) true [] C m R hC (by omega)
    have h2:=ih k (List.mem_singleton.2 rfl) K (C++[⟨4,0,0,2 * n - 2,[]⟩]) (m+1) (by simp[hC]) (by omega) (by omega)
    have h3:=fun R=>zGt 4 0 0 (2 * n - 1) true [] (C++[⟨4,0,0,2 * n - 2,[]⟩]++codeG k (m+1)) (m+1+lenG k) R (by simp[hC,hk5];omega) (by omega)
    have ha:C++([⟨4,0,0,2 * n - 2,[]⟩]++codeG k (m+1)++[⟨4,0,0,2 * n - 1,[]⟩])=C++[⟨4,0,0,2 * n - 2,[]⟩]++codeG k (m+1)++[⟨4,0,0,2 * n - 1,[]⟩]:=by simp
    have hm:m+(1+lenG k+1)=m+1+lenG k+1:=by omega
    rw[hc,ha,hm]
    simp only[List.map_nil]at h1 h3
    generalize codeG k (m+1)=B at *
    simp +contextual (disch:=omega) only[Tryz.f93,dd93,go_sem,simprocAttr,mu93,↓zAD,↓zAC,↓zAB,↓zAA,h1,h2,h3,hl8,ht8]
    repeat' (first|intro _|apply And.intro|(unfold dOk;kernel_rfl)|exact St.beq_refl _|(show altO _ _ _ _=true;kernel_rfl)|(show (_ || _)=true;kernel_rfl)|(show (_ && _)=true;kernel_rfl))
    exact rt _ _
   ·have hc:codeG (.mk 11 set kids mn mx md n neg) m=[⟨5,0,0,n,[]⟩]:=by rw[codeG];rfl
    have h1:=fun R=>zGt 5 0 0 n true [] C m R hC (by omega)
    simp only[List.map_nil]at h1
    rw[← hlen,hc]
    simp +contextual (disch:=omega) only[Tryz.f93,dd93,go_sem,simprocAttr,mu93,↓zAD,↓zAC,↓zAB,↓zAA,h1]
    repeat' (first|intro _|apply And.intro|(unfold dOk;kernel_rfl)|exact St.beq_refl _|(show altO _ _ _ _=true;kernel_rfl)|(show (_ || _)=true;kernel_rfl)|(show (_ && _)=true;kernel_rfl))
    exact rt _ _
end
section
attribute [local go_sem] evAppend List.map_append
open Go.Proofs Go.RowKit Go.IntWalk
set_option maxRecDepth 100000
set_option maxHeartbeats 8000000
theorem zOB (C:List Ins) (a b c d:Int) (t:Bool):∀(i:Nat) (H:List MB),fzs ((C.map insAV).set i (.agg [I a,I b,I c,I d,.sl t []])) H=some ((C.set i ⟨a,b,c,d,[]⟩).map insAV,H):=by
 have key:∀(C:List Ins) (i:Nat),KeepL (fzJ 6) ((C.map insAV).set i (.agg [I a,I b,I c,I d,.sl t []])) ((C.set i ⟨a,b,c,d,[]⟩).map insAV):=by
  intro C
  induction C with
  | nil=>intro i;exact .nil
  | cons x C ih=>
    intro i
    cases i with
    | zero=>exact .cons (fun H=>rfl) (zHw C)
    | succ i=>exact .cons (fun H=>zE8 _ _ H (by simp[AV.plain,AV.plainL,zAG])) (ih i)
 intro i H
 exact(key C i).fz H
def altM (e:Int):List Re→Nat→Nat→List Ins
 | [],_,_=>[]
 | k::ks,f,j=>if ks.length=0 then codeG k f else⟨2,(f+1:Nat),(f+lenG k+2:Nat),0,[]⟩::(codeG k (f+1)++(⟨3,if 0 < j then e else 0,0,0,[]⟩::altM e ks (f+lenG k+2) (j - 1)))
def altP:List Re→Nat→Nat→List Ins
 | k::ks,f,i+1=>⟨2,(f+1:Nat),(f+lenG k+2:Nat),0,[]⟩::(codeG k (f+1)++(⟨3,0,0,0,[]⟩::altP ks (f+lenG k+2) i))
 | _,_,_=>[]
def jumpsP:List Re→Nat→Nat→List Nat
 | k::ks,f,i+1=>(f+1+lenG k)::jumpsP ks (f+lenG k+2) i
 | _,_,_=>[]
theorem zGn (l:List Re) (f:Nat):altP l f 0=[]:=by cases l<;>rfl
theorem zGO (l:List Re) (f:Nat):jumpsP l f 0=[]:=by cases l<;>rfl
theorem zJg:∀(l:List Re) (f i:Nat) (k:Re),l[i]?=some k→altP l f (i+1)=altP l f i++(⟨2,(f+lenL (l.take i)+2 * i+1:Nat),(f+lenL (l.take i)+2 * i+lenG k+2:Nat),0,[]⟩::(codeG k (f+lenL (l.take i)+2 * i+1)++[⟨3,0,0,0,[]⟩]))
 | [],_,i,_,h=>by cases h
 | q::ks,f,0,k,h=>by
   simp only[List.getElem?_cons_zero,Option.some.injEq]at h
   subst h
   simp[altP,zGn,lenL]
 | q::ks,f,i+1,k,h=>by
   rw[List.getElem?_cons_succ]at h
   have ih:=zJg ks (f+lenG q+2) i k h
   have e1:f+lenG q+2+lenL (ks.take i)+2 * i=f+lenL ((q::ks).take (i+1))+2 * (i+1):=by rw[List.take_succ_cons,lenL];omega
   rw[e1]at ih
   rw[altP,ih]
   conv=>rhs;rw[altP]
   simp
theorem zGP:∀(l:List Re) (f i:Nat) (k:Re),l[i]?=some k→jumpsP l f (i+1)=jumpsP l f i++[f+lenL (l.take i)+2 * i+1+lenG k]
 | [],_,i,_,h=>by cases h
 | q::ks,f,0,k,h=>by
   simp only[List.getElem?_cons_zero,Option.some.injEq]at h
   subst h
   simp[jumpsP,zGO,lenL]
 | q::ks,f,i+1,k,h=>by
   rw[List.getElem?_cons_succ]at h
   have ih:=zGP ks (f+lenG q+2) i k h
   have e1:f+lenG q+2+lenL (ks.take i)+2 * i=f+lenL ((q::ks).take (i+1))+2 * (i+1):=by rw[List.take_succ_cons,lenL];omega
   rw[e1]at ih
   rw[jumpsP,ih]
   conv=>rhs;rw[jumpsP]
   simp
theorem zFM:∀(l:List Re) (f i:Nat),i≤l.length→(jumpsP l f i).length=i
 | [],_,i,h=>by
   have:i=0:=by simpa using h
   subst this;rfl
 | q::ks,f,0,h=>rfl
 | q::ks,f,i+1,h=>by simp[jumpsP,zFM ks _ i (by simpa using h)]
theorem zIY (caps top:Int):∀(l:List Re) (f i:Nat),(∀ k∈l,GoodC caps top k)→i≤l.length→(altP l f i).length=lenL (l.take i)+2 * i
 | [],_,i,_,h=>by
   have:i=0:=by simpa using h
   subst this;rfl
 | q::ks,f,0,hg,h=>rfl
 | q::ks,f,i+1,hg,h=>by
   simp only[altP,List.length_cons,List.length_append,zIY caps top ks _ i (fun k h=>hg k (List.mem_cons_of_mem _ h)) (by simpa using h),zBO caps top q _ (hg q (List.mem_cons_self ..)),List.take_succ_cons,lenL]
   omega
theorem zJh (e:Int):∀(l:List Re) (f:Nat) (k:Re),l[l.length - 1]?=some k→altM e l f 0=altP l f (l.length - 1)++codeG k (f+lenL (l.take (l.length - 1))+2 * (l.length - 1))
 | [],_,_,h=>by cases h
 | [q],f,k,h=>by
   simp at h
   subst h
   simp[altM,zGn,lenL]
 | q::q2::ks,f,k,h=>by
   have h2:(q2::ks)[(q2::ks).length - 1]?=some k:=by simpa using h
   have ih:=zJh e (q2::ks) (f+lenG q+2) k h2
   have e0:(q::q2::ks).length - 1=((q2::ks).length - 1)+1:=by simp
   have e1:f+lenG q+2+lenL ((q2::ks).take ((q2::ks).length - 1))+2 * ((q2::ks).length - 1)=f+lenL ((q::q2::ks).take ((q::q2::ks).length - 1))+2 * ((q::q2::ks).length - 1):=by
    rw[e0,List.take_succ_cons,lenL];omega
   rw[e1]at ih
   rw[altM,if_neg (by simp),ih,e0,altP]
   simp
theorem zK1 (e:Int):∀(l:List Re) (f j:Nat),l.length≤j+1→e=(f+lenL l+2 * (l.length - 1):Nat)→altM e l f j=codeAlt l f
 | [],_,_,_,_=>rfl
 | k::ks,f,j,h,he=>by
   rw[altM,codeAlt]
   split
   ·rfl
   ·rename_i h0
    have hj:0 < j:=by simp at h;omega
    have e2:e=(f+lenG k+2+lenL ks+2 * (ks.length - 1):Nat):=by rw[he,lenL];simp only[List.length_cons];omega
    have e3:e=(f+lenL (k::ks)+2 * ks.length:Nat):=by rw[he];simp only[List.length_cons];omega
    rw[if_pos hj,zK1 e ks (f+lenG k+2) (j - 1) (by simp at h;omega) e2,← e3]
theorem zK0 (caps top e:Int):∀(l:List Re) (f j p:Nat),(∀ k∈l,GoodC caps top k)→(jumpsP l f (l.length - 1))[j]?=some p→f≤p∧(altM e l f j)[p - f]?=some ⟨3,0,0,0,[]⟩∧(altM e l f j).set (p - f) ⟨3,e,0,0,[]⟩=altM e l f (j+1)
 | [],_,_,_,_,h=>by cases h
 | [q],f,j,p,_,h=>by simp[jumpsP]at h
 | q::q2::ks,f,j,p,hg,h=>by
   have hq:=zBO caps top q (f+1) (hg q (List.mem_cons_self ..))
   rw[show (q::q2::ks).length - 1=((q2::ks).length - 1)+1 by simp,jumpsP]at h
   cases j with
   | zero=>
     simp only[List.getElem?_cons_zero,Option.some.injEq]at h
     subst h
     have hp:f+1+lenG q - f=(codeG q (f+1)).length+1:=by omega
     refine⟨by omega,?_,?_⟩
     ·rw[altM,if_neg (by simp),hp,List.getElem?_cons_succ,List.getElem?_append_right (Nat.le_refl _),Nat.sub_self];rfl
     ·rw[altM,if_neg (by simp),hp,List.set_cons_succ,List.set_append_right _ _ (Nat.le_refl _),Nat.sub_self]
      conv=>rhs;rw[altM,if_neg (by simp)]
      rfl
   | succ j=>
     rw[List.getElem?_cons_succ]at h
     obtain⟨h1,h2,h3⟩:=zK0 caps top e (q2::ks) (f+lenG q+2) j p (fun k h=>hg k (List.mem_cons_of_mem _ h)) h
     have hp:p - f=(codeG q (f+1)).length+((p - (f+lenG q+2))+1)+1:=by omega
     refine⟨by omega,?_,?_⟩
     ·rw[altM,if_neg (by simp),hp,List.getElem?_cons_succ,List.getElem?_append_right (by omega),Nat.add_sub_cancel_left,List.getElem?_cons_succ]
      exact h2
     ·rw[altM,if_neg (by simp),hp,List.set_cons_succ,List.set_append_right _ _ (by omega),Nat.add_sub_cancel_left,List.set_cons_succ]
      conv=>rhs;rw[altM,if_neg (by simp)]
      rw[show j+1 - 1=j from rfl,show j+1+1 - 1=j+1 from rfl,h3]
      simp
end
end Go.Ev
