/- Code, and what a call leaves behind. -/
import Derived.Test.YtdklnlnbemogbaaGreatC05
import Derived.RangeFuncRecord
import Derived.LoopNIn
import Derived.Scope
set_option linter.unusedVariables false
set_option linter.unusedSimpArgs false
namespace Go.Ev
open Go.RowKit
variable {P:Program}{cf:CF}{it:It}{mu:List Nat}{m:Cfg}{B0:Nat}{w0:Base}{w:World}{I I0:Imm}{H:List MB}{L L0:List Lay}
def PostOk (B0:Nat) (w0:Base) (I0:Imm) (L0:List Lay) (e:EX) (s:St):Exit→Act→World→Prop
 | .normal,a,w=>e=.norm∧StOk B0 w0 I0 L0 s a w
 | .exit id,a,w=>e=.exit id∧StOk B0 w0 I0 L0 s a w
 | .ret,a,w=>e=.ret∧StOk B0 w0 I0 L0 s a w
 | _,_,_=>False
def ItOk (it:It):Prop:=∀ b m s r,it b m s=some r→∃ n,iterN b m n s=some r
theorem StOk.keep {s:St}{a:Act} (h:StOk B0 w0 I0 L0 s a w) (l:Option (List Nat)):StOk B0 w0 I0 L0 { s with t:=keepT l s.t } a w:=by
 obtain⟨I,L,h1,h2,h3,h4⟩:=h
 exact⟨I,L,h1,h2,h3,h4.sub (keepT_sub l s.t)⟩
theorem StOk.dropSt {s:St}{a:Act} (h:StOk B0 w0 I0 L0 s a w) (l:List Nat):StOk B0 w0 I0 L0 (dropSt l s) a w:=by
 obtain⟨I,L,h1,h2,h3,h4⟩:=h
 exact⟨I,L,h1,h2,h3,h4.sub (dropT_sub l s.t)⟩
theorem keptOk_spec (n:Nat):∀(xs ys:List MB) (i:Nat) (x y:MB),keptOk n xs ys=true→xs[i]?=some x→ys[i]?=some y→y=x∨MB.under n y=true
 | [],_,i,x,y,_,h,_=>by simp at h
 | _::_,[],i,x,y,_,_,h=>by simp at h
 | a::xs,b::ys,i,x,y,h,h1,h2=>by
   simp only[keptOk,Bool.and_eq_true,Bool.or_eq_true]at h
   match i,h1,h2 with
   | 0,h1,h2=>
     simp at h1 h2;subst h1;subst h2
     rcases h.1 with g|g
     ·exact .inr g
     ·exact .inl (MB.eq_of_beq _ _ g)
   | i+1,h1,h2=>exact keptOk_spec n xs ys i x y h.2 (by simpa using h1) (by simpa using h2)
theorem underE_get {n:Nat}:∀ {es:List (AV×AV)},MB.underE n es=true→∀ {i:Nat}{k v:AV},es[i]?=some (k,v)→AV.under n k=true∧AV.under n v=true
 | [],_,i,k,v,h=>by simp at h
 | (a,b)::es,hu,0,k,v,h=>by
   simp at h;obtain⟨rfl,rfl⟩:=h
   simp only[MB.underE,Bool.and_eq_true]at hu
   exact⟨hu.1,hu.2.1⟩
 | (a,b)::es,hu,i+1,k,v,h=>by
   simp only[MB.underE,Bool.and_eq_true]at hu
   exact underE_get hu.2.2 (by simpa using h)
theorem underE_of {n:Nat}:∀ {es:List (AV×AV)},(∀(i:Nat) (k v:AV),es[i]?=some (k,v)→AV.under n k=true∧AV.under n v=true)→MB.underE n es=true
 | [],_=>rfl
 | (a,b)::es,h=>by
   have h0:=h 0 a b rfl
   simp only[MB.underE,h0.1,h0.2,Bool.true_and]
   exact underE_of fun i k v hi=>h (i+1) k v (by simpa using hi)
theorem MapOk.under {q:KK}{es:List (AV×AV)}{l:Lay} (h:MapOk B0 I L w q es l):MB.underE L.length es=true:=by
 obtain⟨ents,clock,_,_,f3⟩:=h.obj
 exact underE_of fun i k v g=>by
  obtain⟨_,e,_,g3,g4⟩:=f3 i k v g
  exact⟨g3.under,g4.under⟩
theorem LpOk.under {st:LS}{n:Nat}{t:Tm}{ps:List Nat}{c:Code×Code}{l:Lay} (h:LpOk B0 I L w st n t ps c l):AV.underL L.length (t.map (·.2))=true:=by
 obtain⟨r,_,_,_,_,_,g⟩:=h.obj
 rcases g with g|g
 ·rw[h.nil g];rfl
 ·rw[underL_iff]
  intro y hy
  obtain⟨q,hq,rfl⟩:=List.mem_map.1 hy
  exact(g.2.2 q hq).2.under
theorem Inv.drop (hi:Inv B0 w0 I H L w) {n:Nat} (hn:n≤H.length)
  (hu:∀ id k els z l,id<n→H[id]?=some (.row k els z)→L[id]?=some l→∀(i j:Nat) (x y:AV),els[i]?=some x→x.cells[j]?=some y→l.sh≤i→AV.under n y=true)
  (hv:∀ id q es,id<n→H[id]?=some (.mp q es)→MB.underE n es=true)
  (hp:∀ id st f k t ps c,id<n→H[id]?=some (.lp st f k t ps c)→AV.underL n (t.map (·.2))=true) :
  Inv B0 w0 I (H.take n) (L.take n) w:=by
 refine⟨hi.below,hi.base,by simp[hi.len],fun id m l hm hl=>?_,fun i j l l' h1 h2 n1 n2 h3=>?_,hi.imm,hi.old⟩
 ·rw[List.getElem?_take]at hm hl
  split at hm
  ·rename_i hid
   rw[if_pos hid]at hl
   have hb:=hi.blk id m l hm hl
   cases m with
   | mp q es=>
     obtain⟨ents,clock,f1,f2,f3⟩:=MapOk.obj hb
     refine⟨MapOk.ht hb,MapOk.hn hb,MapOk.hB hb,⟨ents,clock,f1,f2,fun i k v g=>?_⟩,MapOk.free hb⟩
     obtain⟨g1,e,g2,g3,g4⟩:=f3 i k v g
     have hu2:=underE_get (hv id q es hid hm) g
     exact⟨g1,e,g2,g3.restrict hu2.1,g4.restrict hu2.2⟩
   | lp st f k t ps c=>
     obtain⟨r,f1,f2,f3,f4,f5,f6⟩:=LpOk.obj hb
     refine⟨LpOk.ht hb,LpOk.hn hb,LpOk.hB hb,⟨r,f1,f2,f3,f4,f5,f6.imp (fun h=>h) fun g=>⟨g.1,g.2.1,fun q hq=>⟨(g.2.2 q hq).1,(g.2.2 q hq).2.restrict ?_⟩⟩⟩,LpOk.nil hb,LpOk.free hb⟩
     exact(underL_iff _ _).1 (hp id st f k t ps c hid hm) _ (List.mem_map.2 ⟨q,hq,rfl⟩)
   | row k els z=>
     refine⟨hb.hk,hb.ht,hb.hsh,hb.hz,hb.hB,hb.wid,hb.fit,fun hn=>?_,hb.free⟩
     obtain⟨cs,T,f1,f2,f3,f4⟩:=BlkOk.blk hb hn
     refine⟨cs,T,f1,f2,fun i j x y g1 g2 g3=>?_,f4⟩
     obtain⟨v,e1,e2,e3⟩:=f3 i j x y g1 g2 g3
     exact⟨v,e1,e2,e3.restrict (hu id k els z l hid hm hl i j x y g1 g2 g3)⟩
  ·simp at hm
 ·rw[List.getElem?_take]at h1 h2
  split at h1
  ·split at h2
   ·exact hi.inj i j l l' h1 h2 n1 n2 h3
   ·simp at h2
  ·simp at h1
theorem updT_keys (d:Nat) (v:AV):∀ t:Tm,(updT d v t).map (·.1)=t.map (·.1)
 | []=>rfl
 | (k,u)::t=>by
   simp only[updT]
   split
   ·rfl
   ·simp only[List.map_cons,updT_keys d v t]
theorem updT_mem {d:Nat}{v:AV}:∀ {t:Tm}{q:Nat×AV},q∈updT d v t→q∈t∨(q=(d,v)∧∃ u,(d,u)∈t)
 | [],q,h=>by simp[updT]at h
 | (k,u)::t,q,h=>by
   simp only[updT]at h
   split at h
   ·rename_i e
    subst e
    rcases List.mem_cons.1 h with h|h
    ·exact .inr ⟨h,u,List.mem_cons_self ..⟩
    ·exact .inl (List.mem_cons_of_mem _ h)
   ·rcases List.mem_cons.1 h with h|h
    ·exact .inl (by rw[h];exact List.mem_cons_self ..)
    ·rcases updT_mem h with h|⟨h,u',h'⟩
     ·exact .inl (List.mem_cons_of_mem _ h)
     ·exact .inr ⟨h,u',List.mem_cons_of_mem _ h'⟩
theorem TmOk.upd {n:Nat}{t:Tm}{vs:Array Value} (h:TmOk I L n t vs) {d:Nat}{v:AV} (hv:Rep I L v (vs.getD d undef)):TmOk I L n (updT d v t) vs:=by
 refine⟨h.1,?_,fun q hq=>?_⟩
 ·have h2:=h.2.1
  have hk:=updT_keys d v t
  have h3:List.Pairwise (fun a b:Nat=>b<a) (t.map (·.1)):=List.pairwise_map.2 h2
  rw[← hk]at h3
  exact List.pairwise_map.1 h3
 ·rcases updT_mem hq with hq|⟨rfl,u,hu⟩
  ·exact h.2.2 q hq
  ·exact⟨(h.2.2 _ hu).1,hv⟩
theorem Inv.recell (hi:Inv B0 w0 I H L w) {id k:Nat}{els:List AV}{z:Nat} (hr:getRow H id=some (k,els,z)) (els':List AV) (hlen:els'.length=els.length)
  (h:∀(l:Lay) (i j:Nat) (x y b:AV),L[id]?=some l→els[i]?=some x→els'[i]?=some y→y.cells.length=x.cells.length∧(y.cells[j]?=some b→l.sh≤i→∃ a,x.cells[j]?=some a ∧
    ∀ v,w.cell? ⟨l.b,l.o+(i-l.sh)*k+j,none⟩=some v→Rep I L a v→Rep I L b v)):Inv B0 w0 I (H.set id (.row k els' z)) L w:=by
 have hm:=getRow_eq hr
 obtain⟨l,hl,hb⟩:=hi.row hr
 have hid:id<L.length:=(List.getElem?_eq_some_iff.1 hl).1
 refine⟨hi.below,hi.base,by simp[hi.len],fun id2 m2 l2 hm2 hl2=>?_,hi.inj,hi.imm,hi.old⟩
 by_cases e:id=id2
 ·subst e
  rw[List.getElem?_set_self (List.getElem?_eq_some_iff.1 hm).1]at hm2
  obtain rfl:=Option.some.inj hm2
  rw[hl]at hl2;obtain rfl:=Option.some.inj hl2
  refine⟨hb.hk,by rw[hlen];exact hb.ht,by rw[hlen];exact hb.hsh,by rw[hlen];exact hb.hz,hb.hB,fun y hy=>?_,by rw[hlen];exact hb.fit,fun hn=>?_,hb.free⟩
  ·obtain⟨i,hi'⟩:=List.getElem?_of_mem hy
   have hlt:i<els.length:=by rw[← hlen];exact(List.getElem?_eq_some_iff.1 hi').1
   rw[(h l i 0 _ y .top hl (List.getElem?_eq_getElem hlt) hi').1]
   exact hb.wid _ (List.getElem_mem hlt)
  ·obtain⟨cs,T,f1,f2,f3,f4⟩:=hb.blk hn
   refine⟨cs,T,f1,f2,fun i j y b g1 g2 g3=>?_,f4⟩
   have hlt:i<els.length:=by rw[← hlen];exact(List.getElem?_eq_some_iff.1 g1).1
   obtain⟨a,a1,a2⟩:=(h l i j _ y b hl (List.getElem?_eq_getElem hlt) g1).2 g2 g3
   obtain⟨v,e1,e2,e3⟩:=f3 i j _ a (List.getElem?_eq_getElem hlt) a1 g3
   exact⟨v,e1,e2,a2 v (by rw[World.cell_of_heap f1];exact e1) e3⟩
 ·rw[List.getElem?_set_ne e]at hm2
  exact hi.blk id2 m2 l2 hm2 hl2
theorem nil_phantom {v:Value} (hr:Rep I L (.sl true []) v) (k:Nat):∃ b,Rep I (L++[⟨k,0,b,0,0,0⟩]) (.ms L.length k 0 0 0) v:=by
 generalize hx:AV.sl true []=x at hr
 cases hr with
 | nilsl t=>exact⟨0,.msn _ _ _ (by simp;rfl) rfl⟩
 | sl t xs b o c k' f hc ht hk hI hR=>
   simp at hx
   obtain⟨rfl,rfl⟩:=hx
   have hc0:c=0:=ht rfl
   subst hc0
   refine⟨b,?_⟩
   have:=Rep.ms (I:=I) (L:=L++[⟨k,0,b,0,0,0⟩]) L.length k 0 0 0 ⟨k,0,b,0,0,0⟩ b o 0 (by simp) (Nat.le_refl _) rfl (Nat.le_refl _) (Nat.le_refl _) (fun _=>⟨Nat.le_refl _,rfl,fun h=>absurd rfl h,Nat.le_refl _,by simp⟩)
   exact this
 | _=>cases hx
theorem setCells_one (x u:AV) (j:Nat) (hj:j<x.cells.length) (hu:u.cells=[u]):(setCells x j [u]).cells.length=x.cells.length∧∀ i,(setCells x j [u]).cells[i]?=if i=j then some u else x.cells[i]?:=by
 by_cases hx:∃ cs,x=.agg cs
 ·obtain⟨cs,rfl⟩:=hx
  simp only[AV.cells]at hj
  refine⟨by simp only[setCells,splice,AV.cells,List.length_append,List.length_take,List.length_drop,List.length_singleton];omega,fun i=>?_⟩
  simp only[setCells,splice,AV.cells]
  have ht:(cs.take j).length=j:=by simp;omega
  by_cases h1:i<j
  ·rw[List.getElem?_append_left (by omega),List.getElem?_take,if_pos h1,if_neg (by omega)]
  ·rw[List.getElem?_append_right (by omega),ht]
   by_cases h2:i=j
   ·subst h2;simp
   ·rw[if_neg h2,List.getElem?_append_right (by simp;omega),List.getElem?_drop]
    congr 1;simp;omega
 ·have hxc:x.cells=[x]:=by
   cases x<;>first|rfl|exact absurd ⟨_,rfl⟩ hx
  have hs:setCells x j [u]=u:=by cases x<;>first|rfl|exact absurd ⟨_,rfl⟩ hx
  rw[hs,hu,hxc]
  rw[hxc]at hj
  simp at hj
  subst hj
  refine⟨rfl,fun i=>?_⟩
  match i with
  | 0=>rfl
  | i+1=>simp
theorem StOk.frzB {s:St}{a:Act} (h:StOk B0 w0 I0 L0 s a w) (id:Nat):StOk B0 w0 I0 L0 (frzB s id) a w:=by
 obtain⟨I,L,h1,h2,h3,h4⟩:=h
 have h0:StOk B0 w0 I0 L0 s a w:=⟨I,L,h1,h2,h3,h4⟩
 unfold Ev.frzB
 split
 ·rename_i k els z hrow
  split
  ·rename_i els' H' hf
   split
   ·rename_i k' els2 z' hrow'
    obtain⟨I',f1,f2,f3⟩:=fzs_sound h1 hf
    obtain⟨l,hl,hb⟩:=h1.row hrow
    obtain⟨l2,hl2,hb2⟩:=f1.row hrow'
    rw[hl]at hl2;obtain rfl:=Option.some.inj hl2
    split
    ·rename_i hee
     obtain rfl:=AV.eq_of_beqL _ _ hee
     refine⟨I',L,f1.recell hrow' els' f3.1 (fun l' i j x y b g1 g2 g3=>?_),h2.trans (f2.ext L),h3.mono (f2.ext L),h4.mono (f2.ext L)⟩
     obtain⟨_,q2⟩:=f3.2 i x y g2 g3
     refine⟨q2.1,fun g4 _=>?_⟩
     have hj:j<x.cells.length:=by rw[← q2.1];exact(List.getElem?_eq_some_iff.1 g4).1
     exact⟨_,List.getElem?_eq_getElem hj,fun v _ hv=>q2.2 j _ b (List.getElem?_eq_getElem hj) g4 I' (.refl I') v hv⟩
    ·exact h0
   ·exact h0
  ·exact h0
 ·exact h0
theorem StOk.act1 {s:St}{a:Act} (h:StOk B0 w0 I0 L0 s a w) (x:SA):StOk B0 w0 I0 L0 (act1 s x) a w:=by
 obtain⟨I,L,h1,h2,h3,h4⟩:=h
 have h0:StOk B0 w0 I0 L0 s a w:=⟨I,L,h1,h2,h3,h4⟩
 cases x with
 | mat d k=>
   simp only[Ev.act1]
   split
   ·rename_i hd
    obtain⟨b,hb⟩:=nil_phantom (h4.at hd) k
    obtain⟨p1,p2⟩:=h1.phantom k b
    rw[h1.len]at hb
    exact⟨I,_,p1,h2.trans p2,h3,(h4.mono p2).upd hb⟩
   ·exact h0
 | matC d j k=>
   simp only[Ev.act1]
   split
   ·rename_i id tot i j0 hd
    split
    ·rename_i kk els z hrow
     split
     ·rename_i htot
      split
      ·rename_i x hx
       split
       ·rename_i hc
        have hr:=h4.at hd
        obtain⟨l,hl,hb⟩:=h1.row hrow
        generalize hvv:a.tmps.getD d undef=vv at hr
        cases hr with
        | rf _ _ _ _ l2 b o hL ht hv=>
          rw[hl]at hL;obtain rfl:=Option.some.inj hL
          obtain⟨v1,_,_⟩:=hv (by rw[hb.ht];exact htot.symm)
          obtain⟨u,u1,u2,u3⟩:=hb.cell hx hc v1
          obtain⟨b',hb'⟩:=nil_phantom u3 k
          obtain⟨p1,p2⟩:=h1.phantom k b'
          rw[h1.len]at hb'
          have hid:=(List.getElem?_eq_some_iff.1 (getRow_eq hrow)).1
          have hrow':getRow (s.h++[.row k [] 0]) id=some (kk,els,z):=by
           unfold getRow
           rw[List.getElem?_append_left hid,getRow_eq hrow]
          have hj:j<x.cells.length:=(List.getElem?_eq_some_iff.1 hc).1
          have hil:i<els.length:=(List.getElem?_eq_some_iff.1 hx).1
          have hone:=setCells_one x (.ms s.h.length k 0 0 0) j hj rfl
          have hset:=p1.recell hrow' (els.set i (setCells x j [.ms s.h.length k 0 0 0])) (by simp) (fun l' i' j' x' y' b'' g1 g2 g3=>by
           rw[List.getElem?_append_left (List.getElem?_eq_some_iff.1 hl).1,hl]at g1
           obtain rfl:=Option.some.inj g1
           by_cases e:i=i'
           ·subst e
            rw[hx]at g2;obtain rfl:=Option.some.inj g2
            rw[List.getElem?_set_self hil]at g3
            obtain rfl:=Option.some.inj g3
            refine⟨hone.1,fun g4 g5=>?_⟩
            rw[hone.2]at g4
            by_cases e:j' = j
            ·subst e
             rw[if_pos rfl]at g4
             obtain rfl:=Option.some.inj g4
             refine⟨_,hc,fun v hv1 _=>?_⟩
             rw[u1]at hv1
             obtain rfl:=Option.some.inj hv1
             exact hb'
            ·rw[if_neg e]at g4
             exact⟨_,g4,fun v _ hv=>hv⟩
           ·rw[List.getElem?_set_ne e,g2]at g3
            obtain rfl:=Option.some.inj g3
            exact⟨rfl,fun g4 _=>⟨_,g4,fun v _ hv=>hv⟩⟩)
          rw[List.set_append_left _ _ hid]at hset
          exact⟨I,_,hset,h2.trans p2,h3,h4.mono p2⟩
       ·exact h0
      ·exact h0
     ·exact h0
    ·exact h0
   ·exact h0
 | frz d=>
   simp only[Ev.act1]
   split
   ·rename_i v hd
    split
    ·rename_i v' H' hf
     obtain⟨I',f1,f2,f3,_⟩:=fz_sound h1 hf
     have h5:=h4.mono (f2.ext L)
     exact⟨I',L,f1,h2.trans (f2.ext L),h3.mono (f2.ext L),h5.upd (f3 I' (.refl I') _ (h5.at hd))⟩
    ·exact h0
   ·exact h0
 | frzS d=>
   simp only[Ev.act1]
   split
   ·rename_i v hd
    split
    ·rename_i v' H' hf
     obtain⟨I',f1,f2,f3,_⟩:=fzS_sound h1 hf
     have h5:=h4.mono (f2.ext L)
     exact⟨I',L,f1,h2.trans (f2.ext L),h3.mono (f2.ext L),h5.upd (f3 I' (.refl I') _ (h5.at hd))⟩
    ·exact h0
   ·exact h0
 | frzC d=>
   simp only[Ev.act1]
   split
   ·exact h0.frzB _
   ·exact h0.frzB _
   ·exact h0
theorem StOk.actL {a:Act}:∀(l:List SA) {s:St},StOk B0 w0 I0 L0 s a w→StOk B0 w0 I0 L0 (actL l s) a w
 | [],_,h=>h
 | x::l,_,h=>StOk.actL l (h.act1 x)
theorem StOk.prepG {s:St}{a:Act} (h:StOk B0 w0 I0 L0 s a w) (m:Msk) (hg:∀ n,m.gc=some n→L0.length≤n):StOk B0 w0 I0 L0 (prepG m s) a w:=by
 have hc:=h.keep m.k
 unfold Ev.prepG
 split
 ·exact hc
 ·rename_i n hn
  split
  ·rename_i hu
   rcases Nat.lt_or_ge n s.h.length with hlt|hge
   ·obtain⟨I,L,h1,h2,h3,h4⟩:=hc
    refine⟨I,L.take n,h1.drop (Nat.le_of_lt hlt) (fun id k els z l hid hm hl i j x y g1 g2 g3=>?_) (fun id q es hid hm=>?_) (fun id st f k t ps c hid hm=>?_),⟨h2.imm,fun id l hl=>?_⟩,h3,h4.1,h4.2.1,fun q hq=>?_⟩
    ·have:=List.all_eq_true.1 hu.2 (.row k els z) (List.mem_of_getElem? (i:=id) (by rw[List.getElem?_take,if_pos hid];exact hm))
     simp only[MB.under]at this
     exact(under_cells n x).1 ((underL_iff n els).1 this x (List.mem_of_getElem? g1)) y (List.mem_of_getElem? g2)
    ·have:=List.all_eq_true.1 hu.2 (.mp q es) (List.mem_of_getElem? (i:=id) (by rw[List.getElem?_take,if_pos hid];exact hm))
     simpa only[MB.under] using this
    ·have:=List.all_eq_true.1 hu.2 (.lp st f k t ps c) (List.mem_of_getElem? (i:=id) (by rw[List.getElem?_take,if_pos hid];exact hm))
     simpa only[MB.under] using this
    ·obtain⟨l',e,r⟩:=h2.lay id l hl
     have:=hg n hn
     have:=(List.getElem?_eq_some_iff.1 hl).1
     exact⟨l',by rw[List.getElem?_take,if_pos (by omega)];exact e,r⟩
    ·exact⟨(h4.2.2 q hq).1,(h4.2.2 q hq).2.restrict ((underL_iff n _).1 hu.1 q.2 (List.mem_map.2 ⟨q,hq,rfl⟩))⟩
   ·rw[List.take_of_length_le hge];exact hc
  ·exact hc
theorem StOk.prep {s:St}{a:Act} (h:StOk B0 w0 I0 L0 s a w) (m:Msk) (hg:∀ n,m.gc=some n→L0.length≤n):StOk B0 w0 I0 L0 (prep m s) a w:=(h.actL m.acts).prepG m hg
theorem stepR_scope {b:Frame}{a:Act}{k:List Item}{cs:List Frame}{w:World}{c:Code}:step P (lone (b.atR a (.code (.scope c)::k)) cs w)=.next (lone (b.atR a (.code c::.inScope c::k)) cs w):=
 step_lone_go (by simp[stepG,stepG.exec,Frame.atR])
theorem stepR_inScope {b:Frame}{a:Act}{k:List Item}{cs:List Frame}{w:World}{c:Code}:step P (lone (b.atR a (.inScope c::k)) cs w)=.next (lone (b.atR a k) cs w):=
 step_lone_go (by simp[stepG,stepG.exec,Frame.atR])
theorem wpIn_scope_straight {F:Fence}{n:Nat}{Q:Exit→Act→World→Prop}{a:Act}{c:Code} (h:c.wpIn F n P (Exit.noGoto Q) a w):(Code.scope c).wpIn F n P Q a w:=by
 intro b k cs hro hb hr
 have h0:(lone (b.atR a (.code (.scope c)::k)) cs w).fenced P F:=fenced_calm hb hr rfl
 obtain⟨e,a₁,w₁,hq,harr⟩:=h b (.inScope c::k) cs hro hb hr
 cases e with
 | normal=>exact⟨.normal,a₁,w₁,hq,.head h0 stepR_scope (StepsIn.trans harr (.one (fenced_calm hb hr rfl) stepR_inScope))⟩
 | exit id=>
   have he:∀ k:List Item,exitTo id (.inScope c::k)=exitTo id k:=fun k=>by simp[exitTo]
   exact⟨.exit id,a₁,w₁,hq,ArrivesIn.of_steps (e:=.exit id) (.one h0 stepR_scope) ⟨fun k' hk=>harr.1 k' (by rw[he];exact hk),fun h1 hk=>harr.2 h1 (by rw[he];exact hk)⟩⟩
 | goto l=>exact hq.elim
 | ret=>exact⟨_,a₁,w₁,hq,.of_steps (.one h0 stepR_scope) harr⟩
 | panic ch=>exact⟨_,a₁,w₁,hq,.of_steps (.one h0 stepR_scope) harr⟩
 | outgrown=>exact⟨_,a₁,w₁,hq,ArrivesIn.of_steps (e:=.outgrown) (.one h0 stepR_scope) harr⟩
def immDf (I:Imm) (D:Nat):Imm:=⟨I.c,fun x=>I.g x||x==D⟩
theorem immDf_ext (I:Imm) (L:List Lay) (D:Nat):Ext I L (immDf I D) L:=⟨⟨fun _ _ _ h=>h,fun x h=>by simp[immDf,h]⟩,(Ext.refl I L).lay⟩
theorem Inv.newDf (hi:Inv B0 w0 I H L w):Inv B0 w0 (immDf I w.heap.size) H L (w.alloc (.deferred (some []))):=by
 have h1:Inv B0 w0 I H L (w.alloc (.deferred (some []))):=hi.same (hi.below.alloc hi.base _) (by rw[World.size_alloc];exact Nat.le_succ_of_le hi.base) (fun b hb=>Below.heap_alloc _ _ _ hb)
 refine⟨h1.below,h1.base,h1.len,fun id m l hm hl=>MbOk.mono (immDf_ext I L _) (fun _ _=>rfl) (h1.blk id m l hm hl),h1.inj,⟨h1.imm.c,fun D hD=>?_⟩,h1.old⟩
 simp only[immDf,Bool.or_eq_true,beq_iff_eq]at hD
 rcases hD with hD|rfl
 ·exact h1.imm.g D hD
 ·exact World.alloc_heap_new w _
theorem putObj_eq (w:World) (r:Nat) (o:Obj):w.putObj r o = { w with heap:=w.heap.setIfInBounds r o }:=rfl
theorem Inv.lpRec (hi:Inv B0 w0 I H L w) {id q:Nat}{st:LS}{f n:Nat}{t:Tm}{ps:List Nat}{c:Code×Code} (hm:H[id]?=some (.lp st f n t ps c)) (hr:Rep I L (.yld id) (.func (.yield q) #[] #[])) :
  ∃ l r,L[id]?=some l∧q=l.b∧LpOk B0 I L w st n t ps c l∧w.heap[q]?=some (.loop r)∧LSt st r∧r.params.toList=ps∧r.assign=c.1∧r.body=c.2∧(st=.over∨TmOk I L n t r.tmps):=by
 cases hr with
 | yld _ l _ hL hq=>
   have hb:LpOk B0 I L w st n t ps c l:=hi.blk id _ l hm hL
   obtain⟨r,h1,h2⟩:=hb.obj
   have:=hq hb.ht
   exact⟨l,r,hL,this,hb,by rw[this];exact h1,h2⟩
theorem Inv.setRec (hi:Inv B0 w0 I H L w) {id:Nat}{st st':LS}{f n n':Nat}{t t':Tm}{ps:List Nat}{c:Code×Code}{l:Lay}{r r':Loop} (hm:H[id]?=some (.lp st f n t ps c)) (hl:L[id]?=some l)
  (hb:LpOk B0 I L w st n t ps c l) (hr:w.heap[l.b]?=some (.loop r)) (h1:LSt st' r') (h2:r'.params.toList=ps) (h3:r'.assign=c.1) (h4:r'.body=c.2) (h5:st' = .over∨TmOk I L n' t' r'.tmps) (h6:st' = .over→t' = []) :
  Inv B0 w0 I (H.set id (.lp st' f n' t' ps c)) L (w.putObj l.b (.loop r')):=by
 rw[putObj_eq]
 refine hi.setObj hm hl hb.hn hb.hB hb.free hr (fun x h=>by cases h) ?_
 exact⟨hb.ht,hb.hn,hb.hB,⟨r',World.putObj_heap_same (Array.getElem?_eq_some_iff.1 hr).1,h1,h2,h3,h4,h5⟩,h6,hb.free⟩
theorem getD_head (x:Value) (ws:Array Value):(#[x]++ws).getD 0 undef=x:=by
 rw[Array.getD_eq_getD_getElem?,Array.getElem?_append_left (by simp)]
 rfl
theorem getD_tail (x:Value) (ws:Array Value) (i:Nat):(#[x]++ws).getD (i+1) undef=ws.getD i undef:=by
 rw[Array.getD_eq_getD_getElem?,Array.getD_eq_getD_getElem?,Array.getElem?_append_right (by simp)]
 rfl
theorem evRange_sound (hfx:w0.fx=false) (hcf:CfOk P cf) {g:Operand}{ps:Array Tmp}{asg b:Code}{hh:Nat}{cs:List AV}{s s':St}{f:Nat}{mk:Option (List Nat)}{e:EX}{r:AV}{H':List MB}{a:Act} (hg:s.ev g=.clo hh cs)
  (hcall:cfn cf hh (.yld s.h.length::cs) (s.h++[.lp .ready f s.n (keepT mk s.t) ps.toList (asg,b)])=some (r,H')) (he:endLp H' s.h.length s=some (e,s')) (hs:StOk B0 w0 I0 L0 s a w) :
  (Code.rangeFunc g ps asg b).wpIn (wd none) 0 P (PostOk B0 w0 I0 L0 e s') a w:=by
 obtain⟨I,L,i1,i2,i3,i4⟩:=hs
 unfold cfn at hcall
 split at hcall
 ·cases hcall
 rename_i hne
 obtain⟨c1,c2⟩:=hcf.1 _ _ _ _ _ hne hcall
 have hgr:=ev_rep i4 g
 rw[hg]at hgr
 generalize hgv:a.eval g=gv at hgr
 cases hgr with
 | clo _ _ ws hn hR=>
   refine wpIn_rangeFunc (fun fn _=>?_)
   have hDf:=i1.newDf
   have hx1:=immDf_ext I L w.heap.size
   have hrec:=hDf.newObj (.loop { state:=.ready,pending:=none,fn:=fn,tmps:=a.tmps,params:=ps,assign:=asg,body:=b,defers:=w.heap.size }) (.lp .ready f s.n (keepT mk s.t) ps.toList (asg,b))
    ⟨rfl,by simp,hDf.base,⟨_,World.alloc_heap_new _ _,⟨rfl,rfl⟩,rfl,rfl,rfl,.inr (((i4.sub (keepT_sub mk s.t)).mono hx1).mono (ext_push _ _ _))⟩,fun h=>(by cases h),fun c=>hDf.imm_new c⟩
   obtain⟨hI,hx2⟩:=hrec
   have hsz:(w.alloc (.deferred (some []))).heap.size=w.heap.size+1:=World.size_alloc ..
   rw[hsz]at hI hx2
   generalize hW:(w.alloc (.deferred (some []))).alloc (.loop { state:=.ready,pending:=none,fn:=fn,tmps:=a.tmps,params:=ps,assign:=asg,body:=b,defers:=w.heap.size })=W at hI
   have hent:=run_enterLoop_outer (P:=P) (w:=w) fn a.tmps ps asg b
   rw[hW]at hent
   refine⟨w.heap.size+1,[mkD w.heap.size],W,⟨.fn (.func hh) ws,#[.func (.yield (w.heap.size+1)) #[] #[]]⟩,W,hh,#[.func (.yield (w.heap.size+1)) #[] #[]]++ws,W,hent,?_,fun _ _=>trivial,?_,wd_dep,?_⟩
   ·simp only[resolve,hgv,Deferred.ofValue,Sem.run_bind,Sem.run_pure,Result.andThen_ok,Array.empty_append,List.map_toArray,List.map_cons,List.map_nil]
    rfl
   ·simp only[invoke,c1]
   ·have hrl:RepL (immDf I w.heap.size) (L++[⟨0,0,w.heap.size+1,1,0,0⟩]) (.yld s.h.length::cs) (#[.func (.yield (w.heap.size+1)) #[] #[]]++ws):=by
     refine⟨by simp[hn];omega,fun i y hy=>?_⟩
     cases i with
     | zero=>
       simp at hy;subst hy
       have e1:(#[Value.func (.yield (w.heap.size+1)) #[] #[]]++ws).getD 0 undef=.func (.yield (w.heap.size+1)) #[] #[]:=getD_head _ _
       rw[e1,← i1.len]
       exact .yld _ ⟨0,0,w.heap.size+1,1,0,0⟩ _ (by simp) (fun _=>rfl)
     | succ i=>
       have e1:(#[Value.func (.yield (w.heap.size+1)) #[] #[]]++ws).getD (i+1) undef=ws.getD i undef:=getD_tail _ _ _
       rw[e1]
       exact((hR i y (by simpa using hy)).mono hx1).mono hx2
    refine wd_calls ((c2 B0 w0 W _ _ _ hI hrl).mono ?_)
    rintro e1 w' ⟨v,I',L',rfl,j1,j2,j3⟩
    have hyl:Rep I' L' (.yld s.h.length) (.func (.yield (w.heap.size+1)) #[] #[]):=by
     have:=hrl.2 0 _ rfl
     have e1:(#[Value.func (.yield (w.heap.size+1)) #[] #[]]++ws).getD 0 undef=.func (.yield (w.heap.size+1)) #[] #[]:=getD_head _ _
     rw[e1]at this
     exact this.mono j2
    have hxx:Ext I L I' L':=(hx1.trans hx2).trans j2
    have hDg:I'.g w.heap.size=true:=j2.imm.g _ (hx2.imm.g _ (by simp[immDf]))
    have hIg:I.g w.heap.size=false:=by
     cases hq:I.g w.heap.size with
     | false=>rfl
     | true=>have:=i1.imm.ltg hq;omega
    have hdf:DfOk B0 w0.fx I0 I' ([mkD w.heap.size]++a.defers):=by
     obtain⟨l,d1,d2,d4,d3⟩:=i3
     refine⟨w.heap.size::l,by rw[d1];rfl,List.nodup_cons.2 ⟨fun hm=>?_,d2⟩,fun h=>(by rw[hfx]at h;cases h),fun D hD=>?_⟩
     ·have:=(d3 _ hm).1;rw[hIg]at this;cases this
     ·rcases List.mem_cons.1 hD with rfl|hD
      ·refine⟨hDg,?_,i1.base⟩
       cases hq:I0.g w.heap.size with
       | false=>rfl
       | true=>have:=i2.imm.g _ hq;rw[hIg]at this;cases this
      ·exact⟨hxx.imm.g _ (d3 D hD).1,(d3 D hD).2⟩
    unfold endLp at he
    split at he
    ·rename_i f' n' t' ps' c' hm
     simp only[Option.some.injEq,Prod.mk.injEq]at he
     obtain⟨rfl,rfl⟩:=he
     obtain⟨l,r1,k1,k2,k3,k4,k5,k6,k7,k8,k9⟩:=j1.lpRec hm hyl
     have hset:=j1.setRec (st':=.over) (n':=n') (t':=[]) (r':={ r1 with state:=.exhausted }) hm k1 k3 (by rw[← k2];exact k4) trivial k6 k7 k8 (.inl rfl) (fun _=>rfl)
     rw[← k2]at hset
     refine⟨_,_,run_endLoop k4 (by rw[k5.1];decide),?_⟩
     rw[k5.2]at hset ⊢
     exact⟨rfl,I',L',hset,i2.trans hxx,hdf,i4.mono hxx⟩
    ·rename_i e' f' n' t' ps' c' hm
     simp only[Option.some.injEq,Prod.mk.injEq]at he
     obtain⟨rfl,rfl⟩:=he
     obtain⟨l,r1,k1,k2,k3,k4,k5,k6,k7,k8,k9⟩:=j1.lpRec hm hyl
     have hset:=j1.setRec (st':=.over) (n':=n') (t':=[]) (r':={ r1 with state:=.exhausted }) hm k1 k3 (by rw[← k2];exact k4) trivial k6 k7 k8 (.inl rfl) (fun _=>rfl)
     rw[← k2]at hset
     refine⟨_,_,run_endLoop k4 (by rw[k5.1];decide),?_⟩
     rw[k5.2.1]at hset ⊢
     have fin:StOk B0 w0 I0 L0 ⟨s.n,s.t,H'.set s.h.length (.lp .over f' n' [] ps' c')⟩ { a with defers:=[mkD w.heap.size]++a.defers } (w'.putObj (w.heap.size+1) (.loop { r1 with state:=.exhausted,pending:=jumpOf e' })):=
      ⟨I',L',hset,i2.trans hxx,hdf,i4.mono hxx⟩
     cases e' with
     | norm=>exact absurd rfl k5.2.2
     | exit id=>exact wpIn_exit ⟨rfl,fin⟩
     | ret=>exact wpIn_ret ⟨rfl,fin⟩
    ·cases he
def noRF:Code→Bool
 | .seq a b=>noRF a&&noRF b
 | .cond _ a b=>noRF a&&noRF b
 | .block _ b=>noRF b
 | .loop b=>noRF b
 | .scope b=>noRF b
 | .rangeFunc ..=>false
 | _=>true
theorem noRF_1 {a b:Bool} (h:(a&&b)=true):a=true:=by cases a<;>simp_all
theorem noRF_2 {a b:Bool} (h:(a&&b)=true):b=true:=by cases a<;>simp_all
theorem evCode_soundR {ro:Option Nat} (hrf:∀ f,m.rf=some f→ro=none) (hg:∀ i n,(m.lp i).gc=some n→L0.length≤n) (hcf:CfOk P cf) (hit:ItOk it) (hm:P.follows .mixedOrders=true):∀(c:Code),(w0.fx=false∨noRF c=true)→∀ {s s':St}{e:EX}{a:Act}{w:World},
  evCode P cf it mu m c s=some (e,s')→StOk B0 w0 I0 L0 s a w→c.wpIn (wd ro) 0 P (PostOk B0 w0 I0 L0 e s') a w
 | .skip,hnr,s,s',e,a,w,h,hs=>by
   simp[evCode]at h;obtain⟨rfl,rfl⟩:=h
   exact wpIn_skip ⟨rfl,hs⟩
 | .label _,hnr,s,s',e,a,w,h,hs=>by
   simp[evCode]at h;obtain⟨rfl,rfl⟩:=h
   exact wpIn_label ⟨rfl,hs⟩
 | .region id ops draw,hnr,s,s',e,a,w,h,hs=>by
   simp only[evCode]at h
   cases hr:evRegion P cf mu ops (m.al id) draw s with
   | none=>rw[hr]at h;simp at h
   | some s1=>
     rw[hr]at h;simp at h;obtain⟨rfl,rfl⟩:=h
     exact evRegion_sound hcf hm hr hs (fun a w hs'=>⟨rfl,(hs'.actL _).dropSt _⟩)
 | .seq x y,hnr,s,s',e,a,w,h,hs=>by
   simp only[evCode]at h
   refine wpIn_seq ?_
   split at h
   ·rename_i s1 h1
    refine wpIn_mono (evCode_soundR hrf hg hcf hit hm x (hnr.imp (fun h=>h) noRF_1) h1 hs) (fun e1 a1 w1 hp=>?_)
    cases e1 with
    | normal=>exact evCode_soundR hrf hg hcf hit hm y (hnr.imp (fun h=>h) noRF_2) h hp.2
    | exit id=>exact absurd hp.1 (by simp)
    | ret=>exact absurd hp.1 (by simp)
    | goto l=>exact hp.elim
    | panic c=>exact hp.elim
    | outgrown=>exact hp.elim
   ·rename_i r hne
    cases hx:evCode P cf it mu m x s with
    | none=>rw[hx]at h;simp at h
    | some q=>
      obtain⟨e1,s1⟩:=q
      have hn:e1≠.norm:=by
       rintro rfl
       exact hne s1 hx
      rw[hx]at h
      have h':e1=e∧s1=s':=by
       cases e1 with
       | norm=>exact absurd rfl hn
       | exit id=>simpa using h
       | ret=>simpa using h
      obtain⟨rfl,rfl⟩:=h'
      refine wpIn_mono (evCode_soundR hrf hg hcf hit hm x (hnr.imp (fun h=>h) noRF_1) hx hs) (fun e2 a1 w1 hp=>?_)
      cases e2 with
      | normal=>exact absurd hp.1 hn
      | exit id=>exact hp
      | ret=>exact hp
      | goto l=>exact hp.elim
      | panic c=>exact hp.elim
      | outgrown=>exact hp.elim
 | .cond c x y,hnr,s,s',e,a,w,h,hs=>by
   simp only[evCode]at h
   obtain⟨I,L,i1,i2,i3,i4⟩:=hs
   have hr:=ev_rep i4 c
   split at h
   ·rename_i hc
    rw[hc]at hr
    generalize hv:a.eval c=v at hr
    cases hr
    exact wpIn_cond_true hv (evCode_soundR hrf hg hcf hit hm x (hnr.imp (fun h=>h) noRF_1) h ⟨I,L,i1,i2,i3,i4⟩)
   ·rename_i hc
    rw[hc]at hr
    generalize hv:a.eval c=v at hr
    cases hr
    exact wpIn_cond_false hv (evCode_soundR hrf hg hcf hit hm y (hnr.imp (fun h=>h) noRF_2) h ⟨I,L,i1,i2,i3,i4⟩)
   ·simp at h
 | .block id b,hnr,s,s',e,a,w,h,hs=>by
   simp only[evCode]at h
   refine wpIn_block ?_
   split at h
   ·rename_i id' s1 h1
    refine wpIn_mono (evCode_soundR hrf hg hcf hit hm b (hnr.imp (fun h=>h) fun h=>h) h1 hs) (fun e1 a1 w1 hp=>?_)
    cases e1 with
    | normal=>exact absurd hp.1 (by simp)
    | exit id2=>
      obtain⟨h2,h3⟩:=hp
      simp at h2;subst h2
      show Exit.inBlock id _ (.exit id') a1 w1
      simp only[Exit.inBlock]
      split at h
      ·rename_i e2
       simp at h;obtain⟨rfl,rfl⟩:=h
       rw[if_pos e2];exact⟨rfl,h3.dropSt _⟩
      ·rename_i e2
       simp at h;obtain⟨rfl,rfl⟩:=h
       rw[if_neg e2];exact⟨rfl,h3⟩
    | ret=>exact absurd hp.1 (by simp)
    | goto l=>exact hp.elim
    | panic c=>exact hp.elim
    | outgrown=>exact hp.elim
   ·rename_i s1 h1
    simp at h;obtain⟨rfl,rfl⟩:=h
    refine wpIn_mono (evCode_soundR hrf hg hcf hit hm b (hnr.imp (fun h=>h) fun h=>h) h1 hs) (fun e1 a1 w1 hp=>?_)
    cases e1 with
    | normal=>exact⟨rfl,hp.2.dropSt _⟩
    | exit id2=>exact absurd hp.1 (by simp)
    | ret=>exact absurd hp.1 (by simp)
    | goto l=>exact hp.elim
    | panic c=>exact hp.elim
    | outgrown=>exact hp.elim
   ·rename_i hne hnn
    refine wpIn_mono (evCode_soundR hrf hg hcf hit hm b (hnr.imp (fun h=>h) fun h=>h) h hs) (fun e1 a1 w1 hp=>?_)
    cases e1 with
    | normal=>
      obtain⟨h2,h3⟩:=hp
      subst h2
      exact absurd h (hnn s')
    | exit id2=>
      obtain⟨h2,h3⟩:=hp
      subst h2
      exact absurd h (hne id2 s')
    | ret=>exact hp
    | goto l=>exact hp.elim
    | panic c=>exact hp.elim
    | outgrown=>exact hp.elim
 | .loop b,hnr,s,s',e,a,w,h,hs=>by
   simp only[evCode]at h
   obtain⟨n,hn⟩:=hit _ _ _ _ h
   refine wpIn_loop_rounds n ?_
   clear h
   induction n generalizing s a w with
   | zero=>simp[iterN]at hn
   | succ n ih=>
     simp only[iterN]at hn
     rw[roundsIn_succ]
     split at hn
     ·rename_i s1 h1
      refine wpIn_mono (evCode_soundR hrf hg hcf hit hm b (hnr.imp (fun h=>h) fun h=>h) h1 (hs.prep (m.lp (loopId b)) (hg _))) (fun e1 a1 w1 hp=>?_)
      cases e1 with
      | normal=>exact ih _ _ _ hp.2 hn
      | exit id=>exact absurd hp.1 (by simp)
      | ret=>exact absurd hp.1 (by simp)
      | goto l=>exact hp.elim
      | panic c=>exact hp.elim
      | outgrown=>exact hp.elim
     ·rename_i hne
      have hen:e≠.norm:=by
       rintro rfl
       exact hne s' hn
      refine wpIn_mono (evCode_soundR hrf hg hcf hit hm b (hnr.imp (fun h=>h) fun h=>h) hn (hs.prep (m.lp (loopId b)) (hg _))) (fun e1 a1 w1 hp=>?_)
      cases e1 with
      | normal=>exact absurd hp.1 hen
      | exit id=>exact hp
      | ret=>exact hp
      | goto l=>exact hp.elim
      | panic c=>exact hp.elim
      | outgrown=>exact hp.elim
 | .scope b,hnr,s,s',e,a,w,h,hs=>by
   simp only[evCode]at h
   refine wpIn_scope_straight (wpIn_mono (evCode_soundR hrf hg hcf hit hm b (hnr.imp (fun h=>h) fun h=>h) h hs) (fun e1 a1 w1 hp=>?_))
   cases e1 with
   | normal=>exact hp
   | exit id=>exact hp
   | ret=>exact hp
   | goto l=>exact hp.elim
   | panic c=>exact hp.elim
   | outgrown=>exact hp.elim
 | .exit id,hnr,s,s',e,a,w,h,hs=>by
   simp[evCode]at h;obtain⟨rfl,rfl⟩:=h
   exact wpIn_exit ⟨rfl,hs⟩
 | .ret,hnr,s,s',e,a,w,h,hs=>by
   simp[evCode]at h;obtain⟨rfl,rfl⟩:=h
   exact wpIn_ret ⟨rfl,hs⟩
 | .rangeFunc g ps asg b,hnr,s,s',e,a,w,h,hs=>by
   simp only[evCode]at h
   split at h
   ·rename_i f hh cs hmf hgv
    split at h
    ·rename_i r H' hcall
     obtain rfl:=hrf f hmf
     exact evRange_sound (hnr.resolve_right (by simp[noRF])) hcf hgv hcall h hs
    ·cases h
   ·cases h
 | .goto _,hnr,s,s',e,a,w,h,hs=>by simp[evCode]at h
 | .refuse _,hnr,s,s',e,a,w,h,hs=>by simp[evCode]at h
end Go.Ev
namespace Go.Ev
open Go.RowKit
variable {P:Program}{pol:Pol}{cf:CF}{it:It}{B0:Nat}{w0:Base}{w:World}{I I0:Imm}{H:List MB}{L L0:List Lay}
def ExtOk (P:Program) (pol:Pol):Prop:=∀ f g,pol.ext f=some g→∀ args H r H',g args H=some (r,H')→CallSound P f args H r H'
theorem frzArgs_sound (f:Nat):∀(args:List AV) (i:Nat) {I:Imm}{H H1:List MB}{as:List AV},Inv B0 w0 I H L w→frzArgs pol f i args H=some (as,H1) →
  ∃ I',Inv B0 w0 I' H1 L w∧Grows I I'∧as.length=args.length∧∀(j:Nat) (x y:AV),args[j]?=some x→as[j]?=some y→Later I' L x y
 | [],i,I,H,H1,as,hi,h=>by
   simp[frzArgs]at h;obtain⟨rfl,rfl⟩:=h
   exact⟨I,hi,.refl I,rfl,fun j x y h=>by simp at h⟩
 | x::xs,i,I,H,H1,as,hi,h=>by
   simp only[frzArgs]at h
   split at h
   ·rename_i y H2 h2
    split at h
    ·rename_i ys H3 h3
     simp at h;obtain⟨rfl,rfl⟩:=h
     have:∃ I2,Inv B0 w0 I2 H2 L w∧Grows I I2∧Later I2 L x y:=by
      split at h2
      ·simp at h2;obtain⟨rfl,rfl⟩:=h2
       exact⟨I,hi,.refl I,.refl _ _ _⟩
      ·obtain⟨I2,a1,a2,a3,a4⟩:=fz_sound hi h2
       exact⟨I2,a1,a2,a3⟩
     obtain⟨I2,a1,a2,a3⟩:=this
     obtain⟨I3,b1,b2,b3,b4⟩:=frzArgs_sound f xs (i+1) a1 h3
     refine⟨I3,b1,a2.trans b2,by simp[b3],fun j u v hu hv=>?_⟩
     match j,hu,hv with
     | 0,hu,hv=>simp at hu hv;subst hu;subst hv;exact a3.mono b2
     | j+1,hu,hv=>exact b4 j u v (by simpa using hu) (by simpa using hv)
    ·simp at h
   ·simp at h
theorem evResults_sound {s:St}{a:Act} (hi:Inv B0 w0 I s.h L w) (hr:TmOk I L s.n s.t a.tmps) {g:ResultVar→Sem Value} (hg1:∀ t,g (.tmp t)=pure (a.tmps.getD t undef))
  (hg2:∀ b t,g (.cell b t)=do loadVar t (← asAddr (a.tmps.getD b undef))):∀(rs:List ResultVar) {vs:List AV},evResults P s rs=some vs →
  ∃ us:List Value,(rs.mapM g).run P w=.ok us w∧us.length=vs.length∧∀(i:Nat) (y:AV) (u:Value),vs[i]?=some y→us[i]?=some u→Rep I L y u
 | [],vs,h=>by
   simp[evResults]at h;subst h
   exact⟨[],rfl,rfl,fun i y u h=>by simp at h⟩
 | r::rs,vs,h=>by
   simp only[evResults]at h
   split at h
   ·rename_i v hv
    split at h
    ·rename_i vs' hvs
     simp at h;subst h
     obtain⟨us,e1,e2,e3⟩:=evResults_sound hi hr hg1 hg2 rs hvs
     have:∃ u,(g r).run P w=.ok u w∧Rep I L v u:=by
      cases r with
      | tmp t=>exact⟨a.tmps.getD t undef,by rw[hg1];rfl,hr.at hv⟩
      | cell b t=>
        simp only[evResult]at hv
        split at hv
        ·rename_i p hp
         split at hv
         ·rename_i cs hcs
          obtain⟨b',o,q1,q2⟩:=cellsAt_sound hi (hr.at hp) hcs
          obtain⟨u,g1,g2⟩:=run_loadVar_of (P:=P) q2 hv
          refine⟨u,?_,g2⟩
          rw[hg2]
          simp only[q1,asAddr,Sem.run_bind,Sem.run_pure,Result.andThen_ok,g1]
         ·simp at hv
        ·simp at hv
     obtain⟨u,g1,g2⟩:=this
     refine⟨u::us,?_,by simp[e2],fun i y u' h1 h2=>?_⟩
     ·simp only[List.mapM_cons,Sem.run_bind,g1,Result.andThen_ok,e1,Sem.run_pure]
     ·match i,h1,h2 with
      | 0,h1,h2=>simp at h1 h2;subst h1;subst h2;exact g2
      | i+1,h1,h2=>exact e3 i y u' (by simpa using h1) (by simpa using h2)
    ·simp at h
   ·simp at h
theorem results_sound {fn:Func}{s:St}{a:Act} (hi:Inv B0 w0 I s.h L w) (hr:TmOk I L s.n s.t a.tmps) {vs:List AV} (h:evResults P s fn.results.toList=some vs) :
  ∃ v,(results fn a.tmps).run P w=.ok v w∧Rep I L (packRes vs) v:=by
 unfold results
 generalize hg:(fun(x:ResultVar)=>(match x with
  | .tmp t=>pure (a.tmps.getD t undef)
  | .cell b t=>do loadVar t (← asAddr (a.tmps.getD b undef)):Sem Value))=g
 have hg1:∀ t,g (.tmp t)=pure (a.tmps.getD t undef):=fun t=>by rw[← hg]
 have hg2:∀ b t,g (.cell b t)=(do loadVar t (← asAddr (a.tmps.getD b undef)):Sem Value):=fun b t=>by rw[← hg]
 obtain⟨us,e1,e2,e3⟩:=evResults_sound (P:=P) hi hr hg1 hg2 fn.results.toList h
 have hm:∀(g':ResultVar→Sem Value),g' = g→(fn.results.mapM g').run P w=.ok us.toArray w:=by
  rintro g' rfl
  rw[← Array.toArray_toList (xs:=fn.results),List.mapM_toArray]
  simp only[Sem.run_map,e1,Result.andThen_ok]
 refine⟨if h:us.toArray.size=1 then us.toArray[0] else .tuple us.toArray,?_,?_⟩
 ·rw[Sem.run_bind,hm g rfl]
  rfl
 ·match vs,us,e2,e3 with
  | [y],[u],_,e3=>exact e3 0 y u rfl rfl
  | [],[],_,_=>exact .tup [] #[] rfl (fun i y h=>by simp at h)
  | y::y'::vs,u::u'::us,e2,e3=>
    rw[dif_neg (by simp)]
    refine .tup _ _ (by simp at e2 ⊢;exact e2) (fun i y hy=>?_)
    have hlt:i<(u::u'::us).length:=by rw[e2];exact(List.getElem?_eq_some_iff.1 hy).1
    have h3:=e3 i y _ hy (List.getElem?_eq_getElem hlt)
    have e:(u::u'::us).toArray.getD i undef=(u::u'::us)[i]:=by
     rw[Array.getD_eq_getD_getElem?,List.getElem?_toArray,List.getElem?_eq_getElem hlt];rfl
    rw[e];exact h3
theorem retPol_sound {f:Nat}{I1 I':Imm}{H1 H':List MB}{L L':List Lay}{w w':World} (h1:Inv B0 w0 I1 H1 L w) (h2:Inv B0 w0 I' H' L' w') (hx:Ext I1 L I' L') {r:AV}{v:Value} (hr:Rep I' L' r v)
  {r2:AV}{H2:List MB} (h:retPol pol f H1 r H' = some (r2,H2)):∃ I2 L2,Inv B0 w0 I2 H2 L2 w'∧Ext I1 L I2 L2∧Rep I2 L2 r2 v:=by
 have hn1:L.length=H1.length:=h1.len
 have hlen:H1.length≤H'.length:=by
  rcases Nat.lt_or_ge H'.length H1.length with g|g
  ·have hl:=List.getElem?_eq_getElem (l:=L) (i:=H'.length) (by omega)
   obtain⟨l',e,_⟩:=hx.lay _ _ hl
   have:=(List.getElem?_eq_some_iff.1 e).1
   rw[h2.len]at this;omega
  ·exact g
 have dropped:∀(J:Imm) (K:List MB),Inv B0 w0 J K L' w'→Grows I' J→K.length=H'.length→keptOk H1.length H1 K=true→Inv B0 w0 J (K.take H1.length) (L'.take H1.length) w'∧Ext I1 L J (L'.take H1.length):=by
  intro J K hJ hg hKl hk
  have hxJ:Ext I1 L J L':=hx.trans (hg.ext L')
  refine⟨hJ.drop (by omega) (fun id k els z l hid hm hl i j x y g1 g2 g3=>?_) (fun id q es hid hm=>?_) (fun id st f k t ps c hid hm=>?_),hxJ.imm,fun id l hl=>?_⟩
  ·have hid1:id<H1.length:=hid
   have hm1:=List.getElem?_eq_getElem hid1
   rcases keptOk_spec _ _ _ id _ _ hk hm1 hm with g|g
   ·have hl1:=List.getElem?_eq_getElem (l:=L) (i:=id) (by omega)
    have hb1:=h1.blk id _ _ hm1 hl1
    rw[← g]at hb1
    obtain⟨l',e,ek,et,es⟩:=hxJ.lay id _ hl1
    rw[hl]at e;obtain rfl:=Option.some.inj e
    have hbJ:=hJ.blk id _ _ hm hl
    have hll:=es (by rw[hbJ.ht,hb1.ht])
    obtain⟨cs,T,f1,f2,f3,f4⟩:=BlkOk.blk hb1 (hb1.pos g1 g2 (by rw[← hll];exact g3))
    obtain⟨v0,_,_,e3⟩:=f3 i j x y g1 g2 (by rw[← hll];exact g3)
    have:=e3.under
    rwa [hn1]at this
   ·simp only[MB.under]at g
    rw[underL_iff]at g
    exact(under_cells _ x).1 (g x (List.mem_of_getElem? g1)) y (List.mem_of_getElem? g2)
  ·have hm1:=List.getElem?_eq_getElem hid
   rcases keptOk_spec _ _ _ id _ _ hk hm1 hm with g|g
   ·have hl1:=List.getElem?_eq_getElem (l:=L) (i:=id) (by omega)
    have hb1:=h1.blk id _ _ hm1 hl1
    rw[← g]at hb1
    have:=MapOk.under hb1
    rwa [hn1]at this
   ·simpa only[MB.under] using g
  ·have hm1:=List.getElem?_eq_getElem hid
   rcases keptOk_spec _ _ _ id _ _ hk hm1 hm with g|g
   ·have hl1:=List.getElem?_eq_getElem (l:=L) (i:=id) (by omega)
    have hb1:=h1.blk id _ _ hm1 hl1
    rw[← g]at hb1
    have:=LpOk.under hb1
    rwa [hn1]at this
   ·simpa only[MB.under] using g
  ·obtain⟨l',e,ek,et,es⟩:=hxJ.lay id l hl
   refine⟨l',?_,ek,et,es⟩
   rw[List.getElem?_take,if_pos (by rw[← hn1];exact(List.getElem?_eq_some_iff.1 hl).1)];exact e
 have freeze:∀ {r':AV}{K:List MB},fz r H' = some (r',K)→AV.under H1.length r' = true→keptOk H1.length H1 K=true→∃ I2 L2,Inv B0 w0 I2 (K.take H1.length) L2 w'∧Ext I1 L I2 L2∧Rep I2 L2 r' v:=by
  intro r' K hfz hu hk
  obtain⟨J,j1,j2,j3,_⟩:=fz_sound h2 hfz
  have hKl:K.length=H'.length:=by rw[← j1.len,h2.len]
  obtain⟨d1,d2⟩:=dropped J K j1 j2 hKl hk
  exact⟨J,_,d1,d2,(j3 J (.refl J) v (hr.mono (j2.ext L'))).restrict hu⟩
 unfold retPol at h
 split at h
 ·simp at h;obtain⟨rfl,rfl⟩:=h
  exact⟨I',L',h2,hx,hr⟩
 ·split at h
  ·rename_i id k tot off len hq
   have hrr:r=.ms id k tot off len:=by
    split at hq
    ·exact hq
    ·cases hq
   subst hrr
   split at h
   ·rename_i k' els z hrow
    split at h
    ·rename_i hc
     obtain⟨c1,c2,c3,c4⟩:=hc
     subst c3
     split at h
     ·rename_i xs K hfz
      split at h
      ·rename_i k'' els'' z' hrow'
       split at h
       ·rename_i hd
        obtain⟨d1,d2,d3,d4⟩:=hd
        simp at h;obtain⟨rfl,rfl⟩:=h
        obtain⟨J,j1,j2,j3⟩:=fzs_sound h2 hfz
        have hKl:K.length=H'.length:=by rw[← j1.len,h2.len]
        obtain⟨q1,q2⟩:=dropped J K j1 j2 hKl d2
        obtain⟨l,hl,hb⟩:=h2.row hrow
        obtain⟨l2,hl2,hb2⟩:=j1.row hrow'
        rw[hl]at hl2;obtain rfl:=Option.some.inj hl2
        have hkk:k'' = k':=by rw[← hb2.hk,hb.hk]
        subst hkk
        have ln0:(L'.take H1.length).length=H1.length:=by simp[h2.len];omega
        have hTl0:(K.take H1.length).length=H1.length:=by simp;omega
        cases hr with
        | msn _ _ l3 hL hk2=>
          have hx0:xs=[]:=List.length_eq_zero_iff.1 d3
          subst hx0
          obtain⟨p1,p2⟩:=q1.phantom k'' 0
          have hz0:z' = 0:=by omega
          subst hz0
          refine⟨J,_,by simpa using p1,q2.trans p2,?_⟩
          have:=Rep.msn (I:=J) (L:=L'.take H1.length++[⟨k'',0,0,0,0,0⟩]) H1.length k'' ⟨k'',0,0,0,0,0⟩ (by rw[List.getElem?_append_right (by omega),ln0,Nat.sub_self];rfl) rfl
          exact this
        | ms _ _ _ _ _ l3 b o c hL ht hk2 hl3 hlc hv=>
          rw[hl]at hL;obtain rfl:=Option.some.inj hL
          obtain⟨v1,v2,v3,v4,v5⟩:=hv (by rw[hb.ht];exact c2.symm)
          subst v2
          have hsub:((els.drop off).take len).length=len:=by simp;omega
          have hoff:∀ i,off≤i→(i-l.sh)*k'' = (off-l.sh)*k'' + (i-off)*k'':=by
           intro i h
           rw[← Nat.add_mul];congr 1;omega
          have ln:(L'.take H1.length).length=H1.length:=by simp[h2.len];omega
          have hTl:(K.take H1.length).length=H1.length:=by simp;omega
          have hfitc:l.o+(off-l.sh)*k'' + len*k''≤l.n:=by
           have:(off-l.sh+c)*k'' = (off-l.sh)*k'' + c*k'':=Nat.add_mul _ _ _
           have:len*k''≤c*k'':=Nat.mul_le_mul_right k'' hlc
           omega
          let ln':Lay:=⟨k'',len,l.b,l.n,l.o+(off-l.sh)*k'',0⟩
          have hxx:Ext J (L'.take H1.length) J (L'.take H1.length++[ln']):=ext_push _ _ _
          have hbne:∀(i:Nat) (li:Lay),(L'.take H1.length)[i]?=some li→li.n≠0→l.n≠0→li.b≠l.b:=by
           intro i li hli hn1 hn2 e
           rw[List.getElem?_take]at hli
           split at hli
           ·rename_i hlt
            have:=h2.inj i id li l hli hl hn1 hn2 e
            omega
           ·simp at hli
          refine⟨J,L'.take H1.length++[ln'],⟨q1.below,q1.base,by simp[ln,hTl],fun i m li hm hli=>?_,fun i j li lj g1 g2 n1 n2 g3=>?_,q1.imm,q1.old⟩,q2.trans hxx,?_⟩
          ·by_cases hi:i<H1.length
           ·rw[List.getElem?_append_left (by omega)]at hm hli
            exact MbOk.mono hxx (fun _ _=>rfl) (q1.blk i m li hm hli)
           ·have hie:i=H1.length:=by
             have:=(List.getElem?_eq_some_iff.1 hli).1
             simp at this
             have h3:=h2.len
             omega
            subst hie
            rw[List.getElem?_append_right (by omega),hTl,Nat.sub_self]at hm
            rw[List.getElem?_append_right (by omega),ln,Nat.sub_self]at hli
            simp at hm hli
            subst hm;subst hli
            refine⟨rfl,d3.symm,Nat.zero_le _,by omega,hb.hB,fun x hx=>?_,by show l.o+(off-l.sh)*k'' + (xs.length-0)*k''≤l.n;rw[Nat.sub_zero,d3];exact hfitc,fun hn=>?_,fun hn q g=>?_⟩
            ·obtain⟨i,hi⟩:=List.getElem?_of_mem hx
             obtain⟨x0,e1,_,e2⟩:=j3.get hi
             rw[e2.1]
             exact hb.wid x0 (List.mem_of_mem_drop (List.mem_of_mem_take (List.mem_of_getElem? e1)))
            ·obtain⟨cs,T,f1,f2,f3,f4⟩:=hb.blk hn
             obtain⟨cs2,T2,f12,f22,f32,f42⟩:=hb2.blk hn
             rw[f1]at f12;simp at f12;obtain⟨rfl,rfl⟩:=f12
             refine⟨cs,T,f1,f2,fun i j x y g1 g2 _=>?_,fun q g1 g2=>?_⟩
             ·obtain⟨x0,e1,_,e2⟩:=j3.get g1
              have hj:j<x0.cells.length:=by rw[← e2.1];exact(List.getElem?_eq_some_iff.1 g2).1
              have hx0:els[off+i]?=some x0:=by
               rw[List.getElem?_take]at e1
               split at e1
               ·rw[List.getElem?_drop]at e1;exact e1
               ·simp at e1
              obtain⟨u,u1,u2,u3⟩:=f3 (off+i) j x0 _ hx0 (List.getElem?_eq_getElem hj) (by omega)
              refine⟨u,?_,u2,?_⟩
              ·rw[← u1,hoff (off+i) (by omega)]
               have:off+i-off=i:=by omega
               rw[this]
               show cs[l.o+(off-l.sh)*k'' + (i-0)*k'' + j]?=_
               rw[Nat.sub_zero]
               congr 1;omega
              ·have hu:=(under_cells H1.length x).1 ((underL_iff _ _).1 d1 x (List.mem_of_getElem? g1)) y (List.mem_of_getElem? g2)
               exact(((e2.2 j _ y (List.getElem?_eq_getElem hj) g2) J (.refl J) u (u3.mono (j2.ext L'))).restrict hu).mono hxx
             ·have g1:l.o+(off-l.sh)*k''≤q:=g1
              have g2:q<l.o+(off-l.sh)*k'' + (z'-off-0)*k'':=g2
              show J l.b q=_
              by_cases hz:off≤z'
              ·refine f42 q (by omega) ?_
               rw[hoff z' hz]
               rw[Nat.sub_zero]at g2
               omega
              ·have:z'-off-0=0:=by omega
               rw[this]at g2;omega
            ·have g:l.o+(off-l.sh)*k'' + (z'-off-0)*k''≤q:=g
             show J l.b q=none
             refine hb2.free hn q ?_
             by_cases hz:off≤z'
             ·rw[hoff z' hz]
              rw[Nat.sub_zero]at g
              omega
             ·have:(z'-l.sh)*k''≤(off-l.sh)*k'':=Nat.mul_le_mul_right k'' (by omega)
              omega
          ·have hcase:∀(i:Nat) (li:Lay),(L'.take H1.length++[ln'])[i]?=some li→(i<H1.length∧(L'.take H1.length)[i]?=some li)∨(i=H1.length∧li=ln'):=by
            intro i li hli
            by_cases hi:i<H1.length
            ·rw[List.getElem?_append_left (by omega)]at hli
             exact .inl ⟨hi,hli⟩
            ·rw[List.getElem?_append_right (by omega),ln]at hli
             have h4:=(List.getElem?_eq_some_iff.1 hli).1
             simp at h4
             have hie:i-H1.length=0:=by omega
             rw[hie]at hli
             simp at hli
             exact .inr ⟨by omega,hli.symm⟩
           rcases hcase i li g1 with ⟨a1,a2⟩|⟨a1,a2⟩
           ·rcases hcase j lj g2 with ⟨b1,b2⟩|⟨b1,b2⟩
            ·exact q1.inj i j li lj a2 b2 n1 n2 g3
            ·subst b2
             exact absurd g3 (hbne i li a2 n1 n2)
           ·rcases hcase j lj g2 with ⟨b1,b2⟩|⟨b1,b2⟩
            ·subst a2
             exact absurd g3.symm (hbne j lj b2 n2 n1)
            ·omega
          ·refine .ms H1.length k'' len 0 len ln' l.b o c (by rw[List.getElem?_append_right (by omega),ln,Nat.sub_self];rfl) (Nat.le_refl _) rfl (by omega) hlc (fun _=>⟨Nat.le_refl _,rfl,fun h0=>?_,by omega,?_⟩)
           ·show o=l.o+(off-l.sh)*k'' + (0-0)*k''
            rw[v3 h0];simp
           ·show l.o+(off-l.sh)*k'' + (0-0+c)*k''≤l.n
            have:(off-l.sh+c)*k'' = (off-l.sh)*k'' + c*k'':=Nat.add_mul _ _ _
            simp only[Nat.sub_self,Nat.zero_add]
            omega
       ·simp at h
      ·simp at h
     ·simp at h
    ·simp at h
   ·simp at h
  ·split at h
   ·rename_i r' K hfz
    split at h
    ·rename_i hc
     simp at h;obtain⟨rfl,rfl⟩:=h
     exact freeze hfz hc.1 hc.2
    ·simp at h
   ·simp at h
theorem mskOf_le {k:Nat→Option (List Nat)}{g:Nat→Option Nat}{ac:Nat→List SA}{n:Nat}{l:List Lay} (hl:l.length=n):∀(i q:Nat),(mskOf k g ac n i).gc=some q→l.length≤q:=by
 intro i q h
 unfold mskOf at h
 split at h
 ·simp at h
 ·split at h
  ·simp at h;omega
  ·split at h
   ·simp at h;omega
   ·simp at h
theorem Inv.closeDf (hi:Inv B0 w0 I H L w) {D:Nat} (hD:I.g D=true) (hB:B0≤D):∃ w',(Instr.takeDeferred D).run P w=.ok [] w'∧Inv B0 w0 ⟨I.c,fun x=>I.g x&&x != D⟩ H L w':=by
 have h0:=hi.imm.g D hD
 refine⟨_,run_takeDeferred h0,?_⟩
 have hot:∀ k,k≠D→(w.putObj D (.deferred none)).heap[k]?=w.heap[k]?:=fun k hk=>World.putObj_heap_other hk
 have hx:∀(a:AV) (v:Value),Rep I L a v→Rep ⟨I.c,fun x=>I.g x&&x != D⟩ L a v:=fun a v h=>h.monoS (I:=I) (I':=⟨I.c,fun x=>I.g x&&x != D⟩) (fun _ _ _ _ h=>h) (Ext.refl I L).lay
 refine⟨hi.below.step ⟨rfl,rfl,rfl,by simp,fun k hk=>hot k (by omega)⟩,by simpa using hi.base,hi.len,fun id m l hm hl=>?_,hi.inj,⟨fun b o v h=>?_,fun x hxg=>?_⟩,hi.old⟩
 ·have h1:=hi.blk id m l hm hl
  cases m with
  | mp q es=>
    obtain⟨ents,clock,e,e2,e3⟩:=MapOk.obj h1
    have hne:l.b≠D:=fun e'=>by rw[e',h0]at e;cases e
    refine⟨MapOk.ht h1,MapOk.hn h1,MapOk.hB h1,⟨ents,clock,by rw[hot _ hne];exact e,e2,fun i k v g=>?_⟩,fun c=>MapOk.free h1 c⟩
    obtain⟨f1,u,f2,f3,f4⟩:=e3 i k v g
    exact⟨f1,u,f2,hx _ _ f3,hx _ _ f4⟩
  | lp st f n t ps c=>
    obtain⟨r,e,e2,e3,e4,e5,e6⟩:=LpOk.obj h1
    have hne:l.b≠D:=fun e'=>by rw[e',h0]at e;cases e
    exact⟨LpOk.ht h1,LpOk.hn h1,LpOk.hB h1,⟨r,by rw[hot _ hne];exact e,e2,e3,e4,e5,e6.imp (fun h=>h) fun g=>⟨g.1,g.2.1,fun q hq=>⟨(g.2.2 q hq).1,hx _ _ (g.2.2 q hq).2⟩⟩⟩,LpOk.nil h1,fun c=>LpOk.free h1 c⟩
  | row k els z=>
    refine⟨h1.hk,h1.ht,h1.hsh,h1.hz,h1.hB,h1.wid,h1.fit,fun hn=>?_,h1.free⟩
    obtain⟨cs,T,e,e2,e3,e4⟩:=BlkOk.blk h1 hn
    have hne:l.b≠D:=fun e'=>by rw[e',h0]at e;cases e
    refine⟨cs,T,by rw[hot _ hne];exact e,e2,fun i j x y g1 g2 g3=>?_,e4⟩
    obtain⟨v,f1,f2,f3⟩:=e3 i j x y g1 g2 g3
    exact⟨v,f1,f2,hx _ _ f3⟩
 ·have h1:=hi.imm.c b o v h
  refine cell_same h1 (hot b fun e=>?_)
  rw[e]at h1
  simp[World.cell?,h0]at h1
 ·simp only[Bool.and_eq_true,bne_iff_ne]at hxg
  rw[hot x hxg.2];exact hi.imm.g x hxg.1
theorem leaves_close {fn:Func}{n:Nat}{R:Ending→World→Prop}{tmps:Array Value}{I1:Imm}{L1:List Lay}:∀(l:List Nat) {I:Imm}{w:World},Inv B0 w0 I H L w→Ext I1 L1 I L→l.Nodup→(∀ D∈l,I.g D=true∧I1.g D=false∧B0≤D) →
  (∀ I' w',Inv B0 w0 I' H L w'→Ext I1 L1 I' L→(∀ a v,Rep I L a v→Rep I' L a v)→LeavesIn Fence.wide n P fn tmps R [] .returning w')→LeavesInM Fence.wide n P fn tmps R (l.map mkD) .returning w
 | [],I,w,hi,hx,_,_,hR=>hR I w hi hx (fun _ _ h=>h)
 | D::l,I,w,hi,hx,hn,hl,hR=>by
   obtain⟨h1,h2,h3⟩:=hl D (List.mem_cons_self ..)
   obtain⟨w',t1,t2⟩:=hi.closeDf (P:=P) h1 h3
   obtain⟨n1,n2⟩:=List.nodup_cons.1 hn
   have hxx:Ext I1 L1 ⟨I.c,fun x=>I.g x&&x != D⟩ L:=⟨⟨hx.imm.c,fun x hg=>by
    have hne:x≠D:=fun e=>by rw[e,h2]at hg;cases hg
    simp[hx.imm.g x hg,hne]⟩,hx.lay⟩
   refine⟨by simp,.inl ⟨D,w',rfl,t1,?_⟩⟩
   refine leaves_close l t2 hxx n2 (fun E hE=>?_) (fun I' w'' g1 g2 g3=>hR I' w'' g1 g2 fun a v h=>g3 a v (h.monoS (I:=I) (I':=⟨I.c,fun x=>I.g x&&x != D⟩) (fun _ _ _ _ h=>h) (Ext.refl I L).lay))
   obtain⟨k1,k2,k3⟩:=hl E (List.mem_cons_of_mem _ hE)
   have hne:E≠D:=fun e=>n1 (e ▸ hE)
   exact⟨by simp[k1,hne],k2,k3⟩
theorem evBody_sound (hext:ExtOk P pol) (hcf:CfOk P cf) (hit:ItOk it) (hm:P.follows .mixedOrders=true):FnOk P (evBody P pol cf it):=by
 intro f args H r H' hne h
 unfold evBody at h
 split at h
 ·rename_i g hg
  exact hext f g hg args H r H' h
 ·split at h
  ·simp at h
  ·rename_i fn hfn
   split at h
   ·simp at h
   ·rename_i c hc
    split at h
    ·simp at h
    ·rename_i hname
     split at h
     ·simp at h
     ·rename_i as H1 hfrz
      have hrest:∃ e s vs,(e=.norm∨e=.ret)∧evCode P cf it (pol.muts f) (cfgOf pol f H1.length) c { n:=as.length+(fn.ntmps-as.length),t:=initT 0 as [],h:=H1 } = some (e,s) ∧
        evResults P s fn.results.toList=some vs∧retPol pol f H1 (packRes vs) s.h=some (r,H'):=by
       split at h
       ·rename_i s hev
        split at h
        ·rename_i vs hvs;exact⟨_,s,vs,.inl rfl,hev,hvs,h⟩
        ·simp at h
       ·rename_i s hev
        split at h
        ·rename_i vs hvs;exact⟨_,s,vs,.inr rfl,hev,hvs,h⟩
        ·simp at h
       ·simp at h
      obtain⟨e,s,vs,he,hev,hvs,hret⟩:=hrest
      refine⟨fun us w=>?_,fun B0 w0 w I L us hi hus=>?_⟩
      ·unfold callFunc
       simp only[Sem.run_bind,run_program,Result.andThen_ok,hfn]
       rw[if_neg (by simpa using hname),if_neg (by simp[hc])]
       rfl
      ·obtain⟨I1,a1,a2,a3,a4⟩:=frzArgs_sound (pol:=pol) f args 0 hi hfrz
       refine callsIn_wide.1 (callsIn_of_wp_marks (n:=0) hfn hc trivial ?_)
       have hs0:StOk B0 ⟨w0.w,w0.I,false⟩ I1 L { n:=as.length+(fn.ntmps-as.length),t:=initT 0 as [],h:=H1 } { tmps:=us++Array.replicate (fn.ntmps-us.size) undef,defers:=[] } w:=by
        have hsz:us.size=as.length:=by rw[hus.1,a3]
        refine⟨I1,L,a1.fx false,.refl I1 L,.nil,?_⟩
        refine initT_ok as 0 [] (fun i y hy=>?_) (fun q hq=>by cases hq) ⟨by simp[hsz],List.Pairwise.nil,fun q hq=>by cases hq⟩
        have hlt:=(List.getElem?_eq_some_iff.1 hy).1
        refine⟨by show 0+i<as.length+(fn.ntmps-as.length);omega,?_⟩
        have hxl:i<args.length:=by omega
        have:=hus.2 i _ (List.getElem?_eq_getElem hxl)
        have h3:=a4 i _ y (List.getElem?_eq_getElem hxl) hy I1 (.refl I1) _ (this.mono (a2.ext L))
        have e1:(us++Array.replicate (fn.ntmps-us.size) undef).getD (0+i) undef=us.getD i undef:=by
         have hlt2:i<us.size:=by omega
         rw[Nat.zero_add]
         simp only[Array.getD_eq_getD_getElem?,Array.getElem?_append_left hlt2]
        rw[e1];exact h3
       refine wpIn_mono (evCode_soundR (ro:=none) (fun _ _=>rfl) (mskOf_le a1.len) hcf hit hm c (.inl rfl) hev hs0) (fun e1 a' w' hp=>?_)
       have fin:StOk B0 ⟨w0.w,w0.I,false⟩ I1 L s a' w'→bodyPostM Fence.wide 0 P fn (fun e w'=>∃ v I' L',e=.returned v∧Inv B0 w0 I' H' L' w'∧Ext I L I' L'∧Rep I' L' r v) .ret a' w':=by
        rintro⟨I2,L2,b1,b2,⟨l,d1,d2,_,d3⟩,b4⟩
        show LeavesInM Fence.wide 0 P fn a'.tmps _ a'.defers .returning w'
        rw[d1]
        refine leaves_close l b1 b2 d2 d3 (fun I2' w2 b1' b2' hr=>?_)
        have b4':TmOk I2' L2 s.n s.t a'.tmps:=⟨b4.1,b4.2.1,fun q hq=>⟨(b4.2.2 q hq).1,hr _ _ (b4.2.2 q hq).2⟩⟩
        obtain⟨v,g1,g2⟩:=results_sound (fn:=fn) b1' b4' hvs
        obtain⟨I3,L3,c1,c2,c3⟩:=retPol_sound (pol:=pol) a1 b1'.unfx b2' g2 hret
        exact⟨v,g1,v,I3,L3,rfl,c1,(a2.ext L).trans c2,c3⟩
       cases e1 with
       | normal=>exact fin hp.2
       | ret=>exact fin hp.2
       | exit id=>
         rcases he with h|h
         ·rw[h]at hp;exact absurd hp.1 (by simp)
         ·rw[h]at hp;exact absurd hp.1 (by simp)
       | goto l=>exact hp.elim
       | panic c=>exact hp.elim
       | outgrown=>exact hp.elim
end Go.Ev
namespace Go.Ev
open Go.RowKit
variable {P:Program}{pol:Pol}{cf:CF}{it:It}{B0:Nat}{w0:Base}{w w':World}{I I':Imm}{H:List MB}{L:List Lay}
theorem bindPs_ok {L:List Lay}:∀(ps:List Nat) (as:List AV) (vs:List Value) {s s':St}{tmps:Array Value},bindPs ps as s=some s'→vs.length=as.length→(∀(i:Nat) (y:AV) (u:Value),as[i]?=some y→vs[i]?=some u→Rep I L y u)→TmOk I L s.n s.t tmps →
  ps.length=as.length∧s'.h=s.h∧s'.n=s.n∧TmOk I L s'.n s'.t ((ps.zip vs).foldl (fun t q=>t.setIfInBounds q.1 q.2) tmps)
 | [],[],vs,s,s',tmps,h,hv,_,ht=>by
   simp[bindPs]at h;subst h
   exact⟨rfl,rfl,rfl,by simpa using ht⟩
 | [],_::_,vs,s,s',tmps,h,_,_,_=>by simp[bindPs]at h
 | _::_,[],vs,s,s',tmps,h,_,_,_=>by simp[bindPs]at h
 | p::ps,a::as,[],s,s',tmps,_,hv,_,_=>by simp at hv
 | p::ps,a::as,v::vs,s,s',tmps,h,hv,hr,ht=>by
   simp only[bindPs]at h
   split at h
   ·have h1:TmOk I L (s.put (some p) a).n (s.put (some p) a).t (tmps.setIfInBounds p v):=put_rep (a:=⟨tmps,[]⟩) ht (some p) (hr 0 a v rfl rfl) s.h
    obtain⟨e1,e2,e3,e4⟩:=bindPs_ok ps as vs h (by simpa using hv) (fun i y u h1 h2=>hr (i+1) y u (by simpa using h1) (by simpa using h2)) h1
    exact⟨by simp[e1],e2,e3,by simpa using e4⟩
   ·cases h
theorem wd_n {ro:Option Nat}{n m:Nat}{c:Code}{Q:Exit→Act→World→Prop}{a:Act} (h:c.wpIn (wd ro) n P Q a w):c.wpIn (wd ro) m P Q a w:=
 fun b k cs h1 h2 _=>h b k cs h1 h2 (fun d hd=>by simp[wd]at hd)
theorem evRound_sound (hcf:CfOk P cf) (hit:ItOk it) (hm:P.follows .mixedOrders=true) {id:Nat}{as:List AV}{H':List MB}{r:AV}{f n:Nat}{t:Tm}{ps:List Nat}{c:Code×Code}{s s1 s2 s':St}{e:EX}{l:Nat}{vs:Array Value} (hm0:H[id]?=some (.lp .ready f n t ps c))
  (hb:bindPs ps as ⟨n,t,H⟩=some s) (hasg:evCode P cf it (pol.muts f) { cfgOf pol f H.length with rf:=none } c.1 s=some (.norm,s1)) (hbeg:beginRd id s1 f n t ps c=some s2)
  (hev:evCode P cf it (pol.muts f) { cfgOf pol f H.length with rf:=none } c.2 s2=some (e,s')) (h:endRd id e s' f n t ps c=some (r,H')) (hi:Inv B0 w0 I H L w) (hl:Rep I L (.yld id) (.func (.yield l) #[] #[])) (hus:RepL I L as vs) :
  ∃ f tmps assign body,(Instr.yield l vs).run P w=.ok (.round l f tmps assign body) w ∧
    ∀ ro n,RoundIn (wd ro) n P l f tmps assign body w (fun e w'=>∃ v I' L',e=.returned v∧Inv B0 w0 I' H' L' w'∧Ext I L I' L'∧Rep I' L' r v):=by
 obtain⟨l0,r0,k1,k2,k3,k4,k5,k6,k7,k8,k9⟩:=hi.lpRec hm0 hl
 subst k2
 have k9':TmOk I L n t r0.tmps:=k9.resolve_left (by simp)
 have hv2:∀(i:Nat) (y:AV) (u:Value),as[i]?=some y→vs.toList[i]?=some u→Rep I L y u:=fun i y u h1 h2=>by
  have:=hus.2 i y h1
  rw[Array.getElem?_toList]at h2
  rwa [Array.getD_eq_getD_getElem?,h2]at this
 obtain⟨b1,b2,b3,b4⟩:=bindPs_ok (s:=⟨n,t,H⟩) (tmps:=r0.tmps) ps as vs.toList hb (by simpa using hus.1) hv2 k9'
 have hsz:vs.size=r0.params.size:=by rw[hus.1,← b1,← k6];simp
 refine⟨r0.fn,_,r0.assign,r0.body,run_yield k4 hsz,fun ro m=>?_⟩
 refine roundIn_of_wpIn trivial ?_
 rw[k7,k8]
 have hs0:StOk B0 ⟨w0.w,w0.I,false⟩ I L s { tmps:=(r0.params.zip vs).foldl (fun tmps q=>tmps.setIfInBounds q.1 q.2) r0.tmps,defers:=[] } w:=by
  refine⟨I,L,by rw[b2];exact hi.fx false,.refl I L,.nil,?_⟩
  have e1:(r0.params.zip vs).foldl (fun tmps q=>tmps.setIfInBounds q.1 q.2) r0.tmps=(ps.zip vs.toList).foldl (fun t q=>t.setIfInBounds q.1 q.2) r0.tmps:=by
   rw[← k6,← Array.foldl_toList,Array.toList_zip]
  rw[e1];exact b4
 have hcode1:=evCode_soundR (ro:=some l0.b) (m:={ cfgOf pol f H.length with rf:=none }) (fun f h=>by cases h) (fun i q hq=>mskOf_le hi.len i q hq) hcf hit hm c.1 (.inl rfl) hasg hs0
 refine wd_n (wpIn_mono hcode1 (fun e0 a0 w1 hp0=>?_))
 have begin1:StOk B0 ⟨w0.w,w0.I,false⟩ I L s1 a0 w1→∃ w2,(Instr.beginRound l0.b).run P w1=.ok () w2∧StOk B0 ⟨w0.w,w0.I,false⟩ I L s2 a0 w2:=by
  rintro⟨I',L',i1,i2,i3,i4⟩
  unfold beginRd at hbeg
  split at hbeg
  ·rename_i f' n' t' ps' c' hm1
   split at hbeg
   ·rename_i hc
    obtain⟨⟨rfl,rfl,rfl⟩,q1,q2⟩:=hc
    obtain rfl:=MB.eq_of_beqT _ _ q1
    obtain rfl:=codeEq_eq q2
    simp only[Option.some.injEq]at hbeg
    subst hbeg
    obtain⟨l1,r1,m1,m2,m3,m4,m5,m6,m7,m8,m9⟩:=i1.lpRec hm1 (hl.mono i2)
    have m9':=m9.resolve_left (by simp)
    have:=i1.setRec (st':=.busy) (n':=n') (t':=t') (r':={ r1 with state:=.busy }) hm1 m1 m3 (by rw[← m2];exact m4) rfl m6 m7 m8 (.inr m9') (fun h=>by cases h)
    rw[← m2]at this
    exact⟨_,run_beginRound m4 m5.1,I',L',this,i2,i3,i4⟩
   ·cases hbeg
  ·cases hbeg
 have hgo:StOk B0 ⟨w0.w,w0.I,false⟩ I L s1 a0 w1→∃ w2,(Instr.beginRound l0.b).run P w1=.ok () w2∧c.2.wpIn ((wd ro).inRound l0.b) m P (roundPost P l0.b fun e w'=>∃ v I' L',e=.returned v∧Inv B0 w0 I' H' L' w'∧Ext I L I' L'∧Rep I' L' r v) a0 w2:=by
  intro hst
  obtain⟨w2,z1,hs2⟩:=begin1 hst
  refine⟨w2,z1,?_⟩
  have hcode:=evCode_soundR (ro:=some l0.b) (m:={ cfgOf pol f H.length with rf:=none }) (fun f h=>by cases h) (fun i q hq=>mskOf_le hi.len i q hq) hcf hit hm c.2 (.inl rfl) hev hs2
  refine wd_n (wpIn_mono hcode (fun e1 a1 w1 hp=>?_))
  have fin:∀ jump:Option Code,StOk B0 ⟨w0.w,w0.I,false⟩ I L s' a1 w1→jump=jumpOf e→∃ v w2,(Instr.endRound l0.b jump).run P w1=.ok v w2∧∃ v' I' L',Ending.returned v=.returned v'∧Inv B0 w0 I' H' L' w2∧Ext I L I' L'∧Rep I' L' r v':=by
   rintro jump ⟨I',L',i1,i2,i3,i4⟩ rfl
   unfold endRd at h
   split at h
   ·rename_i f' n' t' ps' c' hm1
    split at h
    ·rename_i hc
     obtain⟨⟨rfl,rfl,rfl⟩,q1,q2⟩:=hc
     obtain rfl:=MB.eq_of_beqT _ _ q1
     obtain rfl:=codeEq_eq q2
     obtain⟨l1,r1,m1,m2,m3,m4,m5,m6,m7,m8,m9⟩:=i1.lpRec hm1 (hl.mono i2)
     have m9':=m9.resolve_left (by simp)
     rw[m2]at m4
     refine⟨_,_,run_endRound _ (by rw[m2];exact m4),?_⟩
     cases e with
     | norm=>
       simp only[Option.some.injEq,Prod.mk.injEq]at h
       obtain⟨rfl,rfl⟩:=h
       have:=i1.setRec (st':=.ready) (n':=n') (t':=t') (r':={ r1 with state:=.ready,pending:=none }) hm1 m1 m3 m4 ⟨rfl,rfl⟩ m6 m7 m8 (.inr m9') (fun h=>by cases h)
       exact⟨_,I',L',rfl,by rw[m2];exact this.unfx,i2,.bool true⟩
     | exit id=>
       simp only[Option.some.injEq,Prod.mk.injEq]at h
       obtain⟨rfl,rfl⟩:=h
       have:=i1.setRec (st':=.done (.exit id)) (n':=n') (t':=t') (r':={ r1 with state:=.done,pending:=some (.exit id) }) hm1 m1 m3 m4 ⟨rfl,rfl,by simp⟩ m6 m7 m8 (.inr m9') (fun h=>by cases h)
       exact⟨_,I',L',rfl,by rw[m2];exact this.unfx,i2,.bool false⟩
     | ret=>
       simp only[Option.some.injEq,Prod.mk.injEq]at h
       obtain⟨rfl,rfl⟩:=h
       have:=i1.setRec (st':=.done .ret) (n':=n') (t':=t') (r':={ r1 with state:=.done,pending:=some .ret }) hm1 m1 m3 m4 ⟨rfl,rfl,by simp⟩ m6 m7 m8 (.inr m9') (fun h=>by cases h)
       exact⟨_,I',L',rfl,by rw[m2];exact this.unfx,i2,.bool false⟩
    ·cases h
   ·cases h
  cases e1 with
  | normal=>exact fin none hp.2 (by rw[hp.1];rfl)
  | exit id=>exact fin _ hp.2 (by rw[hp.1];rfl)
  | ret=>exact fin _ hp.2 (by rw[hp.1];rfl)
  | goto l=>exact hp.elim
  | panic c=>exact hp.elim
  | outgrown=>exact hp.elim
 cases e0 with
 | normal=>exact hgo hp0.2
 | exit id=>exact absurd hp0.1 (by simp)
 | ret=>exact absurd hp0.1 (by simp)
 | goto l=>exact hp0.elim
 | panic c=>exact hp0.elim
 | outgrown=>exact hp0.elim
theorem evYield_sound (hcf:CfOk P cf) (hit:ItOk it) (hm:P.follows .mixedOrders=true) {args:List AV}{H':List MB}{r:AV} (h:evYield P pol cf it args H=some (r,H')):YieldSound P args H r H':=by
 rintro id as rfl B0 w0 w I L l vs hi hl hus
 simp only[evYield]at h
 split at h
 ·rename_i f n t ps c hm0
  split at h
  ·rename_i s hb
   split at h
   ·rename_i s1 hasg
    split at h
    ·rename_i s2 hbeg
     split at h
     ·rename_i e s' hev
      exact evRound_sound hcf hit hm hm0 hb hasg hbeg hev h hi hl hus
     ·cases h
    ·cases h
   ·cases h
  ·cases h
 ·cases h
theorem evStep_sound (hext:ExtOk P pol) (hcf:CfOk P cf) (hit:ItOk it) (hm:P.follows .mixedOrders=true):CfOk P (evStep P pol cf it):=by
 have hb:=evBody_sound hext hcf hit hm
 refine⟨fun f args H r H' hf h=>?_,fun args H r H' h=>?_⟩
 rotate_left
 ·unfold evStep at h
  split at h
  ·rintro id as rfl
   have key:∀ {l:List AV}{K K':List MB},frzArgs pol yldF 0 (.yld id::as) K=some (l,K')→AV.underL 0 l=true→False:=by
    intro l K K' h1 h2
    simp only[frzArgs]at h1
    have e:(if pol.byref yldF 0=true then some (AV.yld id,K) else fz (.yld id) K)=some (.yld id,K):=by split<;>rfl
    rw[e]at h1
    simp only[]at h1
    split at h1
    ·cases h1;simp[AV.underL,AV.under]at h2
    ·cases h1
   split at h
   ·rename_i hz
    split at h
    ·rename_i hu;exact(key hz hu).elim
    ·cases h
   ·cases h
  ·rw[if_pos rfl]at h
   exact evYield_sound hcf hit hm h
 unfold evStep at h
 simp only[if_neg hf]at h
 split at h
 ·split at h
  ·rename_i as H1 hz
   split at h
   ·rename_i hu
    cases hq:evBody P pol cf it f as [] with
    | none=>rw[hq]at h;simp[rebase]at h
    | some q=>
      obtain⟨r0,K⟩:=q
      rw[hq]at h
      have hs:=frame_sound hu (hb f as [] r0 K hf hq) h
      refine⟨hs.1,fun B0 w0 w I L us hi hus=>?_⟩
      obtain⟨I1,a1,a2,a3,a4⟩:=frzArgs_sound (pol:=pol) f args 0 hi hz
      have hus1:RepL I1 L as us:=by
       refine⟨by rw[hus.1,a3],fun i y hy=>?_⟩
       have hlt:i<args.length:=by
        have:=(List.getElem?_eq_some_iff.1 hy).1;omega
       exact a4 i _ y (List.getElem?_eq_getElem hlt) hy I1 (.refl I1) _ ((hus.2 i _ (List.getElem?_eq_getElem hlt)).mono (a2.ext L))
      refine(hs.2 B0 w0 w I1 L us a1 hus1).mono ?_
      rintro e w' ⟨v,I',L',e1,e2,e3,e4⟩
      exact⟨v,I',L',e1,e2,(a2.ext L).trans e3,e4⟩
   ·simp at h
  ·simp at h
 ·exact hb f args H r H' hf h
end Go.Ev
