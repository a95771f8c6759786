/- What the steps on memory do to what is kept: a new block, a block's cells written, a block's elements marked as never written again. -/
import Derived.Test.YtoocnmcbfkpdbaaGreatDoorP00
import Derived.ChangeKeysEq
set_option linter.unusedVariables false
set_option linter.unusedSimpArgs false
open List (getElem?_append_left getElem?_append_right getElem?_drop getElem?_eq_getElem getElem?_set_ne getElem?_set_self getElem?_take mem_of_getElem?)
open Nat (add_assoc add_mul le_refl zero_le)
open Array (getD_eq_getD_getElem? size_eq_zero_iff)
namespace Go.Ev
variable [VarTab]
set_option linter.unusedSectionVars false
open Go.RowKit
variable {B0:Nat}{w0:Base}{w:World}{I:Imm}{H:List MB}{L:List Lay}
theorem Inv.imm_lt (hi:Inv B0 w0 I H L w) {b o:Nat}{v:Value} (h:I b o=some v):b<w.heap.size:=
 hi.imm.lt h
theorem Inv.imm_new (hi:Inv B0 w0 I H L w) (o:Nat):I w.heap.size o=none:=by
 cases h:I w.heap.size o with
 | none=>rfl
 | some v=>exact absurd (hi.imm_lt h) (Nat.lt_irrefl _)
theorem Inv.lay_lt (hi:Inv B0 w0 I H L w) {id:Nat}{l:Lay} (h:L[id]?=some l) (hn:l.n≠0):l.b<w.heap.size:=by
 have hid:id<H.length:=by rw[<- hi.len];exact(List.getElem?_eq_some_iff.1 h).1
 have hm:=hi.blk id H[id] l (getElem?_eq_getElem hid) h
 revert hm
 cases H[id] with
 | mp q es=>
   intro hm;obtain⟨ents,clock,e,_⟩:=MapOk.obj hm;exact(Array.getElem?_eq_some_iff.1 e).1
 | lp st f n t ps c=>
   intro hm;obtain⟨r,e,_⟩:=LpOk.obj hm;exact(Array.getElem?_eq_some_iff.1 e).1
 | row k els z=>
   intro hm;obtain⟨cs,T,fr,e,_⟩:=BlkOk.blk hm hn;exact(Array.getElem?_eq_some_iff.1 e).1
 | tr T k els z=>
   intro hm;obtain⟨cs,T,fr,e,_⟩:=BlkOk.blk (And.left hm) hn;exact(Array.getElem?_eq_some_iff.1 e).1
theorem _root_.Go.RowKit.Below.setRow' {B g:Nat}{w0 w:World} (hb:Below B w0 w) (hBg:B<=g) (cs:Array Value):Below B w0 (w.setRow g cs):=
 hb.trans ⟨rfl,rfl,rfl,by simp,fun k hk=>setRow_other w g k cs (by omega)⟩
theorem MbOk.heap {w':World}{m:MB}{l:Lay} (h:MbOk B0 I L w m l) (hs:l.n≠0->w'.heap[l.b]?=w.heap[l.b]?):MbOk B0 I L w' m l:=by
 have row:∀ {k els z},BlkOk B0 I L w k els z l->BlkOk B0 I L w' k els z l:=fun {k els z} h1=>by
  refine⟨h1.hk,h1.ht,h1.hsh,h1.hz,h1.hB,h1.wid,h1.fit,fun hn=>?_,h1.free⟩;obtain⟨cs,T,fr,e,e2⟩:=BlkOk.blk h1 hn;exact⟨cs,T,fr,by rw[hs hn];exact e,e2⟩
 cases m with
 | mp q es=>
   obtain⟨ents,clock,e,e2⟩:=MapOk.obj h;exact⟨MapOk.ht h,MapOk.hn h,MapOk.hB h,⟨ents,clock,by rw[hs (MapOk.hn h)];exact e,e2⟩,MapOk.free h⟩
 | lp st f n t ps c=>
   obtain⟨r,e,e2⟩:=LpOk.obj h;exact⟨LpOk.ht h,LpOk.hn h,LpOk.hB h,⟨r,by rw[hs (LpOk.hn h)];exact e,e2⟩,LpOk.nil h,LpOk.free h⟩
 | row k els z=>exact row h
 | tr T k els z=>exact⟨row h.1,h.2.same (hs h.2.n)⟩
theorem Inv.same (hi:Inv B0 w0 I H L w) {w':World} (hb:BelowD B0 w0.w w') (hB:B0<=w'.heap.size) (hs:∀ b,b<w.heap.size->w'.heap[b]?=w.heap[b]?):Inv B0 w0 I H L w':=by
 refine⟨hb,hB,hi.len,fun id m l hm hl=>?_,hi.inj,hi.imm.same hs,hi.old⟩
 ·exact(hi.blk id m l hm hl).heap fun hn=>hs _ (hi.lay_lt hl hn)
theorem Inv.drew (hi:Inv B0 w0 I H L w):Inv B0 w0 I H L w.drew:=hi.same hi.below.drew hi.base (fun _ _=>rfl)
theorem CK (I:Imm) (L:List Lay) (l:Lay):Ext I L I (L++[l]):=
 ⟨.refl I,fun id l' h=>⟨l',by rw[getElem?_append_left (List.getElem?_eq_some_iff.1 h).1];exact h,rfl,le_refl _,fun _=>rfl⟩⟩
theorem MbOk.mono {I':Imm}{L':List Lay} (hx:Ext I L I' L') {m:MB}{l:Lay} (hI:l.n≠0->∀ c,I' l.b c=I l.b c) (h:MbOk B0 I L w m l):MbOk B0 I' L' w m l:=by
 cases m with
 | mp q es=>
   obtain⟨ents,clock,e,e2,e3⟩:=MapOk.obj h;refine⟨MapOk.ht h,MapOk.hn h,MapOk.hB h,⟨ents,clock,e,e2,fun i k v hiv=>?_⟩,fun c=>by rw[hI (MapOk.hn h)];exact MapOk.free h c⟩;obtain⟨f1,u,f2,f3,f4⟩:=e3 i k v hiv;exact⟨f1,u,f2,f3.mono hx,f4.mono hx⟩
 | lp st f n t ps c=>
   obtain⟨r,e,e2,e3,e4,e5,e6⟩:=LpOk.obj h;exact⟨LpOk.ht h,LpOk.hn h,LpOk.hB h,⟨r,e,e2,e3,e4,e5,e6.imp id fun g=>⟨g.1,g.2.1,fun q hq=>⟨(g.2.2 q hq).1,(g.2.2 q hq).2.mono hx⟩⟩⟩,LpOk.nil h,fun c=>by rw[hI (LpOk.hn h)];exact LpOk.free h c⟩
 | row k els z=>
   refine⟨h.hk,h.ht,h.hsh,h.hz,h.hB,h.wid,h.fit,fun hn=>?_,fun hn c hc=>by rw[hI hn];exact h.free hn c hc⟩;obtain⟨cs,T,fr,e1,e2,e3,e4,f9e4⟩:=BlkOk.blk h hn;refine⟨cs,T,fr,e1,e2,fun i j x y hx' hy hs=>?_,fun c h1 h2=>by rw[hI hn];exact e4 c h1 h2,f9e4⟩;obtain⟨v,f1,f2,f3⟩:=e3 i j x y hx' hy hs;exact⟨v,f1,f2,f3.mono hx⟩
 | tr Ty k els z=>
   obtain⟨h,ht⟩:=h;refine⟨⟨h.hk,h.ht,h.hsh,h.hz,h.hB,h.wid,h.fit,fun hn=>?_,fun hn c hc=>by rw[hI hn];exact h.free hn c hc⟩,ht⟩;obtain⟨cs,T,fr,e1,e2,e3,e4,f9e4⟩:=BlkOk.blk h hn;refine⟨cs,T,fr,e1,e2,fun i j x y hx' hy hs=>?_,fun c h1 h2=>by rw[hI hn];exact e4 c h1 h2,f9e4⟩;obtain⟨v,f1,f2,f3⟩:=e3 i j x y hx' hy hs;exact⟨v,f1,f2,f3.mono hx⟩
theorem Inv.newT (t:Option TypeId) (hi:Inv B0 w0 I H L w) (cs:Array Value) (T:TypeId) (ht:∀ T',t=some T'->T' = T/\cs.size≠0) (k:Nat) (els:List AV) (hw:∀ x∈els,x.cells.length=k) (hf:els.length*k<=cs.size)
  (hc:∀ i j x y,els[i]?=some x->x.cells[j]?=some y->∃ v,cs[i*k+j]?=some v/\scal v=true/\Rep I L y v) :
  Inv B0 w0 I (H++[MB.mk t k els 0]) (L++[⟨k,els.length,w.heap.size,cs.size,0,0⟩]) (w.alloc (.cells cs T))/\Ext I L I (L++[⟨k,els.length,w.heap.size,cs.size,0,0⟩]):=by
 have hx:=CK I L ⟨k,els.length,w.heap.size,cs.size,0,0⟩;refine⟨⟨hi.below.alloc hi.base _,by rw[World.size_alloc];exact Nat.le_succ_of_le hi.base,by simp[hi.len],fun id m l hm hl=>?_,fun i j l l' h1 h2 n1 n2 h3=>?_,hi.imm.same (fun b hb=>Below.heap_alloc _ _ _ hb),hi.old⟩,hx⟩
 ·by_cases hid:id<L.length
  ·rw[getElem?_append_left hid]at hl;rw[getElem?_append_left (by rw[<- hi.len];exact hid)]at hm;have h1:=hi.blk id m l hm hl;exact MbOk.mono hx (fun _ _=>rfl) (h1.heap fun hn=>Below.heap_alloc _ _ _ (hi.lay_lt hl hn))
  ·have hid':id=L.length:=by
    have:=(List.getElem?_eq_some_iff.1 hl).1;simp at this;omega
   subst hid';rw[getElem?_append_right (le_refl _)]at hl;rw[hi.len,getElem?_append_right (le_refl _)]at hm;simp at hl hm;subst hl;subst hm;refine MbOk.mk_of ⟨rfl,rfl,zero_le _,zero_le _,fun _=>hi.base,hw,by simpa using hf,fun _=>⟨cs,T,(0,0),(MapKept.heap_alloc w _).1,rfl,fun i j x y h1 h2 _=>?_,fun c _ h2=>by simp at h2,zero_le _⟩,fun _ c _=>hi.imm_new c⟩ fun T' hT=>⟨(ht T' hT).2,rfl,rfl,⟨cs,(0,0),(ht T' hT).1 ▸ (MapKept.heap_alloc w _).1⟩⟩;obtain⟨v,e1,e2,e3⟩:=hc i j x y h1 h2;exact⟨v,by simpa using e1,e2,e3.mono hx⟩
 ·by_cases h1':i<L.length
  ·rw[getElem?_append_left h1']at h1;by_cases h2':j<L.length
   ·rw[getElem?_append_left h2']at h2;exact hi.inj i j l l' h1 h2 n1 n2 h3
   ·rw[getElem?_append_right (by omega)]at h2;have:=hi.lay_lt h1 n1;have h4:l'.b=w.heap.size:=by
     have:=mem_of_getElem? h2;simp at this;rw[this]
    omega
  ·rw[getElem?_append_right (by omega)]at h1;have h4:l.b=w.heap.size:=by
    have:=mem_of_getElem? h1;simp at this;rw[this]
   by_cases h2':j<L.length
   ·rw[getElem?_append_left h2']at h2;have:=hi.lay_lt h2 n2;omega
   ·have h5:=(List.getElem?_eq_some_iff.1 h1).1;rw[getElem?_append_right (by omega)]at h2;have h6:=(List.getElem?_eq_some_iff.1 h2).1;simp at h5 h6;omega
theorem Inv.new (hi:Inv B0 w0 I H L w) (cs:Array Value) (T:TypeId) (k:Nat) (els:List AV) (hw:∀ x∈els,x.cells.length=k) (hf:els.length*k<=cs.size)
  (hc:∀ i j x y,els[i]?=some x->x.cells[j]?=some y->∃ v,cs[i*k+j]?=some v/\scal v=true/\Rep I L y v) :
  Inv B0 w0 I (H++[.row k els 0]) (L++[⟨k,els.length,w.heap.size,cs.size,0,0⟩]) (w.alloc (.cells cs T))/\Ext I L I (L++[⟨k,els.length,w.heap.size,cs.size,0,0⟩]):=
 Inv.newT none hi cs T (fun _ h=>by cases h) k els hw hf hc
theorem Inv.phantom (hi:Inv B0 w0 I H L w) (k b:Nat):Inv B0 w0 I (H++[.row k [] 0]) (L++[⟨k,0,b,0,0,0⟩]) w/\Ext I L I (L++[⟨k,0,b,0,0,0⟩]):=by
 have hx:=CK I L ⟨k,0,b,0,0,0⟩;refine⟨⟨hi.below,hi.base,by simp[hi.len],fun id m l hm hl=>?_,fun i j l l' h1 h2 n1 n2 h3=>?_,hi.imm,hi.old⟩,hx⟩
 ·by_cases hid:id<L.length
  ·rw[getElem?_append_left hid]at hl;rw[getElem?_append_left (by rw[<- hi.len];exact hid)]at hm;exact MbOk.mono hx (fun _ _=>rfl) (hi.blk id m l hm hl)
  ·have hid':id=L.length:=by
    have:=(List.getElem?_eq_some_iff.1 hl).1;simp at this;omega
   subst hid';rw[getElem?_append_right (le_refl _)]at hl;rw[hi.len,getElem?_append_right (le_refl _)]at hm;simp at hl hm;subst hl;subst hm;exact⟨rfl,rfl,zero_le _,zero_le _,fun h=>absurd rfl h,fun x hx=>by simp at hx,by simp,fun h=>absurd rfl h,fun h=>absurd rfl h⟩
 ·have hlt:∀(i:Nat) (l:Lay),(L++[⟨k,0,b,0,0,0⟩])[i]?=some l->l.n≠0->L[i]?=some l:=by
   intro i l h hn;by_cases hid:i<L.length
   ·rwa [getElem?_append_left hid]at h
   ·rw[getElem?_append_right (by omega)]at h;have:=mem_of_getElem? h;simp at this;rw[this]at hn;exact absurd rfl hn
  exact hi.inj i j l l' (hlt i l h1 n1) (hlt j l' h2 n2) n1 n2 h3
def immNew (I:Imm) (b:Nat) (cs:Array Value) (hb:∀(j:Nat) (x:IntKind×Int),(VarTab.ints b)[j]?=some x->False):Imm:=⟨fun b' o=>if b' = b then cs[o]? else I b' o,I.g,fun b' j x h=>by
 have hne:¬ b' = b:=fun e=>hb j x (e ▸ h);show (if b' = b then cs[j]? else I b' j)=_;rw[if_neg hne];exact I.vars b' j x h⟩
theorem Inv.fresh (hi:Inv B0 w0 I H L w) (j:Nat) (x:IntKind×Int) (h:(VarTab.ints w.heap.size)[j]?=some x):False:=by
 have:=hi.imm_lt (I.vars _ _ _ h);omega
theorem Inv.newImm (hi:Inv B0 w0 I H L w) (cs:Array Value) (T:TypeId) :
  Inv B0 w0 (immNew I w.heap.size cs hi.fresh) H L (w.alloc (.cells cs T))/\Ext I L (immNew I w.heap.size cs hi.fresh) L:=by
 have hx:Ext I L (immNew I w.heap.size cs hi.fresh) L:=by
  refine⟨⟨fun b o v h=>?_,fun _ h=>h⟩,(Ext.refl I L).lay⟩;have:=hi.imm_lt h;simp only[immNew];rw[if_neg (by omega)];exact h
 refine⟨⟨hi.below.alloc hi.base _,by rw[World.size_alloc];exact Nat.le_succ_of_le hi.base,hi.len,fun id m l hm hl=>?_,hi.inj,⟨fun b o v h=>?_,fun D hD=>by rw[Below.heap_alloc _ _ _ (hi.imm.ltg hD)];exact hi.imm.g D hD⟩,fun b o h=>?_⟩,hx⟩
 ·have h1:=hi.blk id m l hm hl;exact MbOk.mono hx (fun hn c=>by have hlt:=hi.lay_lt hl hn;simp only[immNew];rw[if_neg (by omega)]) (h1.heap fun hn=>Below.heap_alloc _ _ _ (hi.lay_lt hl hn))
 ·simp only[immNew]at h;split at h
  ·rename_i e;subst e
   simpa using h
  ·exact Bj (hi.imm.c b o v h) (Below.heap_alloc _ _ _ (hi.imm_lt h))
 ·have:=hi.base;simp only[immNew];rw[if_neg (by omega)];exact hi.old b o h
theorem Inv.untag (hi:Inv B0 w0 I H L w) {id k:Nat}{els:List AV}{z:Nat}{t:Option TypeId} (hm:H[id]?=some (MB.mk t k els z)):Inv B0 w0 I (H.set id (.row k els z)) L w:=
 ⟨hi.below,hi.base,by simp[hi.len],fun id2 m2 l2 hm2 hl2=>by
   by_cases e:id=id2
   ·subst e;rw[getElem?_set_self (List.getElem?_eq_some_iff.1 hm).1]at hm2;obtain rfl:=Option.some.inj hm2;exact(hi.blk id _ l2 hm hl2).blk
   ·rw[getElem?_set_ne e]at hm2;exact hi.blk id2 m2 l2 hm2 hl2,hi.inj,hi.imm,hi.old⟩
theorem Inv.write (hi:Inv B0 w0 I H L w) {id:Nat}{k:Nat}{els:List AV}{z:Nat}{l:Lay}{t t':Option TypeId} (hm:H[id]?=some (MB.mk t k els z)) (htt:∀ T,t' = some T->t=some T) (hl:L[id]?=some l)
  (hn0:l.n≠0) (els':List AV) (l':Lay) (cs':Array Value) {T:TypeId}{fr:Nat×Nat}{cs:Array Value} (hcs:w.heap[l.b]?=some (.cells cs T fr)) (hsz:cs'.size=cs.size)
  (e1:l'.k=k) (e2:l'.tot=els'.length) (e3:l'.b=l.b) (e4:l'.n=l.n) (e5:l'.o=l.o) (e6:l'.sh=l.sh) (hlen:els.length<=els'.length)
  (hw:∀ x∈els',x.cells.length=k) (hf:l'.o+(els'.length-l'.sh)*k<=l'.n)
  (hz:∀ c,c<l.o+(z-l.sh)*k->cs'[c]?=cs[c]?)
  (hc:∀ i j x y,els'[i]?=some x->x.cells[j]?=some y->l.sh<=i->∃ v,cs'[l.o+(i-l.sh)*k+j]?=some v/\scal v=true/\Rep I (L.set id l') y v) :
  Inv B0 w0 I (H.set id (MB.mk t' k els' z)) (L.set id l') (w.setRow l.b cs')/\Ext I L I (L.set id l'):=by
 have hid:id<L.length:=(List.getElem?_eq_some_iff.1 hl).1;have hbm:=hi.blk id _ l hm hl;have hb:=hbm.blk;have hx:Ext I L I (L.set id l'):=by
  refine⟨.refl I,fun id2 l2 h2=>?_⟩;by_cases e:id=id2
  ·subst e;rw[hl]at h2;obtain rfl:=Option.some.inj h2;refine⟨l',by rw[getElem?_set_self hid],e1.trans hb.hk.symm,by rw[e2,hb.ht];exact hlen,fun ht=>?_⟩;have t1:=hb.hk;cases l;cases l';simp_all
  ·exact⟨l2,by rw[getElem?_set_ne e];exact h2,rfl,le_refl _,fun _=>rfl⟩
 refine⟨⟨hi.below.step ((Below.refl B0 w).setRow' (hb.hB hn0) _),by simp;exact hi.base,by simp[hi.len],fun id2 m2 l2 hm2 hl2=>?_,fun i j li lj h1 h2 n1 n2 h3=>?_,⟨fun b o v h=>?_,fun D hD=>?_⟩,hi.old⟩,hx⟩
 ·by_cases e:id=id2
  ·subst e;rw[getElem?_set_self hid]at hl2;rw[getElem?_set_self (by rw[<- hi.len];exact hid)]at hm2;obtain rfl:=Option.some.inj hl2;obtain rfl:=Option.some.inj hm2;obtain⟨cs0,T0,fr0,f1,f2,f3,f4,f9f4⟩:=BlkOk.blk hb hn0;rw[hcs]at f1;simp at f1;obtain⟨rfl,rfl,rfl⟩:=f1
   refine MbOk.mk_of ⟨e1,e2,by rw[e6];exact Nat.le_trans hb.hsh hlen,Nat.le_trans hb.hz hlen,fun _=>by rw[e3];exact hb.hB hn0,hw,hf,
    fun _=>⟨cs',T,fr,by rw[e3];exact setRow_heap w l.b _ _ T _ hcs,by rw[hsz,f2,e4],fun i j x y g1 g2 g3=>by rw[e5,e6]at *;exact hc i j x y g1 g2 g3,fun c g1 g2=>?_,by rw[e5,e6];exact f9f4⟩,fun _ c g=>?_⟩ ?_
   ·rw[e5,e6]at g2;rw[e5]at g1;rw[e3,hz c g2];exact f4 c g1 g2
   ·rw[e5,e6]at g;rw[e3];exact hb.free hn0 c g
   ·intro T' hT;rw[htt T' hT]at hbm;have hy:=And.right hbm;obtain⟨c9,f9,g9⟩:=hy.ty;rw[hcs]at g9;simp only[Option.some.injEq,Obj.cells.injEq]at g9;exact⟨by rw[e4];exact hn0,by rw[e5];exact hy.o,by rw[e6];exact hy.sh,cs',fr,by rw[e3,<- g9.2.1];exact setRow_heap w l.b _ _ T _ hcs⟩
  ·rw[getElem?_set_ne e]at hl2 hm2;have h1:=hi.blk id2 m2 l2 hm2 hl2;exact MbOk.mono hx (fun _ _=>rfl) (h1.heap fun hn=>setRow_other w l.b l2.b cs' fun h=>e (hi.inj id id2 l l2 hl hl2 hn0 hn h.symm))
 ·have hb1:∀(i:Nat) (li:Lay),(L.set id l')[i]?=some li->∃ l0,L[i]?=some l0/\l0.b=li.b/\l0.n=li.n:=by
   intro i li h;by_cases e:id=i
   ·subst e;rw[getElem?_set_self hid]at h;obtain rfl:=Option.some.inj h;exact⟨l,hl,e3.symm,e4.symm⟩
   ·rw[getElem?_set_ne e]at h;exact⟨li,h,rfl,rfl⟩
  obtain⟨a1,a2,a3,a4⟩:=hb1 i li h1;obtain⟨b1,b2,b3,b4⟩:=hb1 j lj h2;exact hi.inj i j a1 b1 a2 b2 (by rw[a4];exact n1) (by rw[b4];exact n2) (by rw[a3,b3];exact h3)
 ·by_cases e:b=l.b
  ·subst e;obtain⟨cs0,T0,fr0,f1,f2,f3,f4,f9f4⟩:=BlkOk.blk hb hn0;rw[hcs]at f1;simp at f1;obtain⟨rfl,rfl,rfl⟩:=f1;have ho:o<l.o+(z-l.sh)*k:=by
    rcases Nat.lt_or_ge o (l.o+(z-l.sh)*k) with g|g
    ·exact g
    ·rw[hb.free hn0 o g]at h;simp at h
   have h1:=hi.imm.c l.b o v h;rw[World.cell_of_heap hcs]at h1;rw[cell_setRow_same w l.b o _ _ T _ hcs,hz o ho];exact h1
  ·exact Bj (hi.imm.c b o v h) (setRow_other w l.b b cs' e)
 ·have h1:=hi.imm.g D hD;have hne:D≠l.b:=fun e=>by rw[e,hcs]at h1;cases h1
  rw[setRow_other w l.b D cs' hne];exact h1
variable [VarTab]
set_option linter.unusedSectionVars false
open Go.RowKit
variable {B0:Nat}{w0:Base}{w:World}{I:Imm}{H:List MB}{L:List Lay}
theorem Inv.regrow (hi:Inv B0 w0 I H L w) {id:Nat}{k:Nat}{els:List AV}{z:Nat}{l:Lay}{t t':Option TypeId} (hm:H[id]?=some (MB.mk t k els z)) (hl:L[id]?=some l)
  (els':List AV) (off:Nat) (cs':Array Value) (T:TypeId) (htt:∀ T',t' = some T'->T' = T/\off=0/\cs'.size≠0) (hlen:els.length<els'.length) (hoff:off<=els'.length)
  (hw:∀ x∈els',x.cells.length=k) (hf:(els'.length-off)*k<=cs'.size)
  (hc:∀ i j x y,els'[i]?=some x->x.cells[j]?=some y->off<=i->∃ v,cs'[(i-off)*k+j]?=some v/\scal v=true/\Rep I L y v) :
  ∃ I',Inv B0 w0 I' (H.set id (MB.mk t' k els' z)) (L.set id ⟨k,els'.length,w.heap.size,cs'.size,0,off⟩) (w.alloc (.cells cs' T)) /\
    Ext I L I' (L.set id ⟨k,els'.length,w.heap.size,cs'.size,0,off⟩):=by
 have hid:id<L.length:=(List.getElem?_eq_some_iff.1 hl).1;have hb:=(hi.blk id _ l hm hl).blk;have hz:=BlkOk.hz hb
 let l':Lay:=⟨k,els'.length,w.heap.size,cs'.size,0,off⟩
 let I':Imm:=⟨fun b o=>if b=w.heap.size/\o<(z-off)*k then cs'[o]? else I b o,I.g,fun b j x h=>by
  have h1:=I.vars b j x h;have h2:=hi.imm_lt h1;show (if _ then _ else _)=_;rw[if_neg (by omega)];exact h1⟩
 have hI:∀ b o,b≠w.heap.size->I' b o=I b o:=fun b o h=>by simp only[I'];rw[if_neg (by omega)]
 have hx:Ext I L I' (L.set id l'):=by
  refine⟨⟨fun b o v h=>?_,fun _ h=>h⟩,fun id2 l2 h2=>?_⟩
  ·have:=hi.imm_lt h;rw[hI b o (by omega)];exact h
  ·by_cases e:id=id2
   ·subst e;rw[hl]at h2;obtain rfl:=Option.some.inj h2;refine⟨l',by rw[getElem?_set_self hid],hb.hk.symm,by rw[hb.ht];exact Nat.le_of_lt hlen,fun ht=>?_⟩;have t1:=hb.ht;have:l'.tot=els'.length:=rfl;omega
   ·exact⟨l2,by rw[getElem?_set_ne e];exact h2,rfl,le_refl _,fun _=>rfl⟩
 refine⟨I',⟨hi.below.alloc hi.base _,by rw[World.size_alloc];exact Nat.le_succ_of_le hi.base,by simp[hi.len],fun id2 m2 l2 hm2 hl2=>?_,fun i j li lj h1 h2 n1 n2 h3=>?_,⟨fun b o v h=>?_,fun D hD=>by rw[Below.heap_alloc _ _ _ (hi.imm.ltg hD)];exact hi.imm.g D hD⟩,fun b o h=>by have:=hi.base;rw[hI b o (by omega)];exact hi.old b o h⟩,hx⟩
 ·by_cases e:id=id2
  ·subst e;rw[getElem?_set_self hid]at hl2;rw[getElem?_set_self (by rw[<- hi.len];exact hid)]at hm2;obtain rfl:=Option.some.inj hl2;obtain rfl:=Option.some.inj hm2;refine MbOk.mk_of ⟨rfl,rfl,hoff,by omega,fun _=>hi.base,hw,by simpa using hf,fun _=>⟨cs',T,(0,0),(MapKept.heap_alloc w _).1,rfl,fun i j x y g1 g2 g3=>?_,fun c g1 g2=>?_,zero_le _⟩,fun _ c g=>?_⟩ fun T' hT=>⟨(htt T' hT).2.2,rfl,(htt T' hT).2.1,cs',(0,0),(htt T' hT).1 ▸ (MapKept.heap_alloc w _).1⟩
   ·obtain⟨v,e1,e2,e3⟩:=hc i j x y g1 g2 g3;exact⟨v,by simpa using e1,e2,e3.mono hx⟩
   ·simp at g2;show I' w.heap.size c=_;simp only[I'];rw[if_pos ⟨trivial,g2⟩]
   ·simp at g;show I' w.heap.size c=none;simp only[I'];rw[if_neg (by omega)];exact hi.imm_new c
  ·rw[getElem?_set_ne e]at hl2 hm2;have h1:=hi.blk id2 m2 l2 hm2 hl2;exact MbOk.mono hx (fun hn c=>by have hlt:=hi.lay_lt hl2 hn;exact hI _ _ (by omega)) (h1.heap fun hn=>Below.heap_alloc _ _ _ (hi.lay_lt hl2 hn))
 ·have hcase:∀(i:Nat) (li:Lay),(L.set id l')[i]?=some li->li.n≠0->(i=id/\li.b=w.heap.size)∨(i≠id/\L[i]?=some li/\li.b<w.heap.size):=by
   intro i li h hn;by_cases e:id=i
   ·subst e;rw[getElem?_set_self hid]at h;obtain rfl:=Option.some.inj h;exact .inl ⟨rfl,rfl⟩
   ·rw[getElem?_set_ne e]at h;exact .inr ⟨fun h=>e h.symm,h,hi.lay_lt h hn⟩
  rcases hcase i li h1 n1 with ⟨a1,a2⟩|⟨a1,a2,a3⟩
  ·rcases hcase j lj h2 n2 with ⟨b1,b2⟩|⟨b1,b2,b3⟩
   ·omega
   ·omega
  ·rcases hcase j lj h2 n2 with ⟨b1,b2⟩|⟨b1,b2,b3⟩
   ·omega
   ·exact hi.inj i j li lj a2 b2 n1 n2 h3
 ·by_cases e:b=w.heap.size
  ·subst e;by_cases g:o<(z-off)*k
   ·simp only[I']at h;rw[if_pos ⟨trivial,g⟩]at h
    simpa using h
   ·simp only[I']at h;rw[if_neg (by omega),hi.imm_new o]at h;simp at h
  ·rw[hI b o e]at h;exact Bj (hi.imm.c b o v h) (Below.heap_alloc _ _ _ (hi.imm_lt h))
theorem Grows.ext {I I':Imm} (h:Grows I I') (L:List Lay):Ext I L I' L:=⟨h,(Ext.refl I L).lay⟩
theorem Inv.mark (hi:Inv B0 w0 I H L w) {id k:Nat}{els:List AV}{z n:Nat} (hr:getRow H id=some (k,els,z)) (hn:n<=els.length) :
  ∃ I',Inv B0 w0 I' (mark H id n) L w/\Grows I I' /\
    ∀ l cs T fr,L[id]?=some l->w.heap[l.b]?=some (.cells cs T fr)->∀ c,l.o<=c->c<l.o+(n-l.sh)*k->I' l.b c=cs[c]?:=by
 obtain⟨tg,hm⟩:=BR hr;obtain⟨l,hl,hb⟩:=hi.row hr;by_cases hn0:l.n=0
 ·refine⟨I,⟨hi.below,hi.base,by simp only[Ev.mark,hr];simp[hi.len],fun id2 m2 l2 hm2 hl2=>?_,hi.inj,hi.imm,hi.old⟩,.refl I,fun l2 cs2 T2 fr2 hl2 _ c g1 g2=>?_⟩
  ·simp only[Ev.mark,hr]at hm2;by_cases e:id=id2
   ·subst e;rw[getElem?_set_self (List.getElem?_eq_some_iff.1 hm).1]at hm2;obtain rfl:=Option.some.inj hm2;rw[hl]at hl2;obtain rfl:=Option.some.inj hl2;exact⟨hb.hk,hb.ht,hb.hsh,by have:=hb.hz;omega,hb.hB,hb.wid,hb.fit,fun h=>absurd hn0 h,fun h=>absurd hn0 h⟩
   ·rw[getElem?_set_ne e]at hm2;exact hi.blk id2 m2 l2 hm2 hl2
  ·rw[hl]at hl2;obtain rfl:=Option.some.inj hl2;have h1:=hb.fit;have h2:(n-l.sh)*k<=(els.length-l.sh)*k:=Nat.mul_le_mul_right k (by omega);omega
 obtain⟨cs,T,fr,f1,f2,f3,f4,f9f4⟩:=hb.blk hn0;have hid:id<L.length:=(List.getElem?_eq_some_iff.1 hl).1
 let I':Imm:=⟨fun b o=>if b=l.b/\l.o<=o/\o<l.o+(max z n-l.sh)*k then cs[o]? else I b o,I.g,fun b j x h=>by
  have h1:=I.vars b j x h;show (if _ then _ else _)=_;split
  ·rename_i g;have:=hi.imm.c b j _ h1;rw[g.1,World.cell_of_heap f1]at this;exact this
  ·exact h1⟩
 have hI:∀ b o,b≠l.b->I' b o=I b o:=fun b o h=>by simp only[I'];rw[if_neg (by omega)]
 have hmul:∀ a b:Nat,a<=b->a*k<=b*k:=fun a b h=>Nat.mul_le_mul_right k h;have hg:Grows I I':=⟨fun b o v h=>by
  by_cases e:b=l.b
  ·subst e;simp only[I'];split
   ·rename_i g;have:=hi.imm.c l.b o v h;rw[World.cell_of_heap f1]at this;exact this
   ·exact h
  ·rw[hI b o e];exact h,fun _ h=>h⟩
 refine⟨I',⟨hi.below,hi.base,?_,fun id2 m2 l2 hm2 hl2=>?_,hi.inj,⟨fun b o v h=>?_,hi.imm.g⟩,fun b o h=>by have:=hb.hB hn0;rw[hI b o (by omega)];exact hi.old b o h⟩,hg,fun l2 cs2 T2 fr2 hl2 hc2 c g1 g2=>?_⟩
 ·simp only[Ev.mark,hr];simp[hi.len]
 ·simp only[Ev.mark,hr]at hm2;by_cases e:id=id2
  ·subst e;rw[getElem?_set_self (by rw[<- hi.len];exact hid)]at hm2;obtain rfl:=Option.some.inj hm2;rw[hl]at hl2;obtain rfl:=Option.some.inj hl2;refine⟨hb.hk,hb.ht,hb.hsh,by have:=hb.hz;omega,hb.hB,hb.wid,hb.fit,fun _=>⟨cs,T,fr,f1,f2,fun i j x y g1 g2 g3=>?_,fun c g1 g2=>?_,by have:=hmul (z-l.sh) (max z n-l.sh) (by omega);omega⟩,fun _ c g=>?_⟩
   ·obtain⟨v,e1,e2,e3⟩:=f3 i j x y g1 g2 g3;exact⟨v,e1,e2,e3.mono (hg.ext L)⟩
   ·simp only[I'];rw[if_pos ⟨trivial,g1,g2⟩]
   ·simp only[I'];rw[if_neg (by omega)];have:=hmul (z-l.sh) (max z n-l.sh) (by omega);exact hb.free hn0 c (by omega)
  ·rw[getElem?_set_ne e]at hm2;have h1:=hi.blk id2 m2 l2 hm2 hl2;exact MbOk.mono (hg.ext L) (fun hn c=>hI _ _ (fun h=>e (hi.inj id id2 l l2 hl hl2 hn0 hn h.symm))) h1
 ·simp only[I']at h;split at h
  ·rename_i g;obtain⟨rfl,_,_⟩:=g;rw[World.cell_of_heap f1];exact h
  ·exact hi.imm.c b o v h
 ·rw[hl]at hl2;obtain rfl:=Option.some.inj hl2;rw[f1]at hc2;simp at hc2;obtain⟨rfl,rfl,rfl⟩:=hc2;simp only[I'];have:=hmul (n-l.sh) (max z n-l.sh) (by omega);rw[if_pos ⟨trivial,g1,by omega⟩]
def Later (I:Imm) (L:List Lay) (x y:AV):Prop:=∀ I',Grows I I'->∀ v,Rep I' L x v->Rep I' L y v
theorem Later.refl (I:Imm) (L:List Lay) (x:AV):Later I L x x:=fun _ _ _ h=>h
theorem Later.mono {I I':Imm}{x y:AV} (hg:Grows I I') (h:Later I L x y):Later I' L x y:=fun I'' h' v hr=>h I'' (hg.trans h') v hr
def LaterC (I:Imm) (L:List Lay) (x y:AV):Prop:=
 y.cells.length=x.cells.length/\∀(j:Nat) (a b:AV),x.cells[j]?=some a->y.cells[j]?=some b->Later I L a b
def LaterL (I:Imm) (L:List Lay) (xs ys:List AV):Prop:=
 ys.length=xs.length/\∀(i:Nat) (x y:AV),xs[i]?=some x->ys[i]?=some y->Later I L x y/\LaterC I L x y
theorem LaterC.mono {I I':Imm}{x y:AV} (hg:Grows I I') (h:LaterC I L x y):LaterC I' L x y:=⟨h.1,fun j a b h1 h2=>(h.2 j a b h1 h2).mono hg⟩
theorem LaterL.mono {I I':Imm}{xs ys:List AV} (hg:Grows I I') (h:LaterL I L xs ys):LaterL I' L xs ys:=
 ⟨h.1,fun i x y h1 h2=>⟨(h.2 i x y h1 h2).1.mono hg,(h.2 i x y h1 h2).2.mono hg⟩⟩
theorem LaterC.of_one {I:Imm}{x y:AV} (hx:x.cells=[x]) (hy:y.cells=[y]) (h:Later I L x y):LaterC I L x y:=by
 refine⟨by rw[hx,hy];rfl,fun j a b h1 h2=>?_⟩;rw[hx]at h1;rw[hy]at h2
 match j,h1,h2 with
 | 0,h1,h2=>simp at h1 h2;subst h1;subst h2;exact h
 | j+1,h1,h2=>simp at h1
theorem LaterL.get {I:Imm}{xs ys:List AV} (h:LaterL I L xs ys) {i:Nat}{y:AV} (hy:ys[i]?=some y):∃ x,xs[i]?=some x/\Later I L x y/\LaterC I L x y:=by
 have hi:i<xs.length:=by rw[<- h.1];exact(List.getElem?_eq_some_iff.1 hy).1
 exact⟨_,getElem?_eq_getElem hi,h.2 i _ y (getElem?_eq_getElem hi) hy⟩
theorem LaterL.sl {I:Imm}{xs ys:List AV} (h:LaterL I L xs ys) (t:Bool):Later I L (.sl t xs) (.sl false ys):=by
 intro I' hg v hr;generalize hx:AV.sl t xs=x at hr;cases hr with
 | nilsl t'=>
   simp at hx;obtain⟨rfl,rfl⟩:=hx;have h1:=h.1;simp at h1;subst h1;exact .nilsl false
 | sl t' xs' b o c k f hc ht hk hI hR=>
   simp at hx;obtain⟨rfl,rfl⟩:=hx;rw[<- h.1];refine .sl false ys b o c k f (by rw[h.1];exact hc) (fun h=>by cases h) (fun y hy=>?_) (fun i j y b' h1 h2=>?_) (fun i j y b' h1 h2=>?_)
   ·obtain⟨i,hi⟩:=List.getElem?_of_mem hy;obtain⟨x,e1,_,e2⟩:=h.get hi;rw[e2.1];exact hk x (mem_of_getElem? e1)
   ·obtain⟨x,e1,_,e2⟩:=h.get h1;have hj:j<x.cells.length:=by rw[<- e2.1];exact(List.getElem?_eq_some_iff.1 h2).1
    exact hI i j x _ e1 (getElem?_eq_getElem hj)
   ·obtain⟨x,e1,_,e2⟩:=h.get h1;have hj:j<x.cells.length:=by rw[<- e2.1];exact(List.getElem?_eq_some_iff.1 h2).1
    exact e2.2 j _ b' (getElem?_eq_getElem hj) h2 I' hg _ (hR i j x _ e1 (getElem?_eq_getElem hj))
 | _=>cases hx
theorem LaterL.pt {I:Imm}{xs ys:List AV} (h:LaterL I L xs ys):Later I L (.pt xs) (.pt ys):=by
 intro I' hg v hr;cases hr with
 | pt cs b o f hI hR=>
   refine .pt ys b o f (fun j y h1=>?_) (fun j y h1=>?_)
   ·obtain⟨x,e1,_,_⟩:=h.get h1;exact hI j x e1
   ·obtain⟨x,e1,e2,_⟩:=h.get h1;exact e2 I' hg _ (hR j x e1)
theorem LaterL.agg {I:Imm}{xs ys:List AV} (h:LaterL I L xs ys):Later I L (.agg xs) (.agg ys):=by
 intro I' hg v hr;cases hr with
 | agg cs ws hn hs hR=>
   refine .agg ys ws (by rw[hn];exact h.1.symm) hs (fun j y h1=>?_);obtain⟨x,e1,e2,_⟩:=h.get h1;exact e2 I' hg _ (hR j x e1)
theorem LaterL.tup {I:Imm}{xs ys:List AV} (h:LaterL I L xs ys):Later I L (.tup xs) (.tup ys):=by
 intro I' hg v hr;cases hr with
 | tup cs ws hn hR=>
   refine .tup ys ws (by rw[hn];exact h.1.symm) (fun j y h1=>?_);obtain⟨x,e1,e2,_⟩:=h.get h1;exact e2 I' hg _ (hR j x e1)
def FzOk (B0:Nat) (w0:Base) (L:List Lay) (w:World) (I:Imm) (H':List MB) (xs ys:List AV):Prop:=
 ∃ I',Inv B0 w0 I' H' L w/\Grows I I'/\LaterL I' L xs ys
def FzA (B0:Nat) (w0:Base) (L:List Lay) (w:World) (I:Imm) (H':List MB) (x y:AV):Prop:=
 ∃ I',Inv B0 w0 I' H' L w/\Grows I I'/\Later I' L x y/\LaterC I' L x y
def JumpOk (B0:Nat) (w0:Base) (L:List Lay) (w:World) (jump:List AV->List MB->Option (List AV×List MB)):Prop:=
 ∀ I H xs ys H',Inv B0 w0 I H L w->jump xs H=some (ys,H')->FzOk B0 w0 L w I H' xs ys
theorem LaterL.nil (I:Imm) (L:List Lay):LaterL I L [] []:=⟨rfl,fun i x y h=>by simp at h⟩
theorem LaterL.cons {I:Imm}{x y:AV}{xs ys:List AV} (h1:Later I L x y) (h2:LaterC I L x y) (h:LaterL I L xs ys):LaterL I L (x::xs) (y::ys):=by
 refine⟨by simp[h.1],fun i a b e1 e2=>?_⟩
 match i,e1,e2 with
 | 0,e1,e2=>simp at e1 e2;subst e1;subst e2;exact⟨h1,h2⟩
 | i+1,e1,e2=>simp at e1 e2;exact h.2 i a b e1 e2
theorem LaterL.aggC {I:Imm}{xs ys:List AV} (h:LaterL I L xs ys):LaterC I L (.agg xs) (.agg ys):=
 ⟨h.1,fun j a b h1 h2=>(h.2 j a b h1 h2).1⟩
mutual
theorem Da {jump} (hj:JumpOk B0 w0 L w jump):∀(x:AV) {I:Imm}{H:List MB}{y:AV}{H':List MB},Inv B0 w0 I H L w->fzA jump x H=some (y,H')->FzA B0 w0 L w I H' x y
 | .sl t xs,I,H,y,H',hi,h=>by
   simp only[fzA]at h;split at h
   ·rename_i ys H1 he;simp at h;obtain⟨rfl,rfl⟩:=h;obtain⟨I',h1,h2,h3⟩:=Bh hj xs hi he;exact⟨I',h1,h2,h3.sl t,.of_one rfl rfl (h3.sl t)⟩
   ·simp at h
 | .pt xs,I,H,y,H',hi,h=>by
   simp only[fzA]at h;split at h
   ·rename_i ys H1 he;simp at h;obtain⟨rfl,rfl⟩:=h;obtain⟨I',h1,h2,h3⟩:=Bh hj xs hi he;exact⟨I',h1,h2,h3.pt,.of_one rfl rfl h3.pt⟩
   ·simp at h
 | .agg xs,I,H,y,H',hi,h=>by
   simp only[fzA]at h;split at h
   ·rename_i ys H1 he;simp at h;obtain⟨rfl,rfl⟩:=h;obtain⟨I',h1,h2,h3⟩:=Bh hj xs hi he;exact⟨I',h1,h2,h3.agg,h3.aggC⟩
   ·simp at h
 | .tup xs,I,H,y,H',hi,h=>by
   simp only[fzA]at h;split at h
   ·rename_i ys H1 he;simp at h;obtain⟨rfl,rfl⟩:=h;obtain⟨I',h1,h2,h3⟩:=Bh hj xs hi he;exact⟨I',h1,h2,h3.tup,.of_one rfl rfl h3.tup⟩
   ·simp at h
 | .ms id k tot off len,I,H,y,H',hi,h=>by
   simp only[fzA]at h;split at h
   ·rename_i k' els z hrow;split at h
    ·rename_i hc;obtain⟨c1,c2,c3⟩:=hc;split at h
     ·rename_i ys H1 he;simp at h;obtain⟨rfl,rfl⟩:=h;obtain⟨I1,m1,m2,m3⟩:=hi.mark hrow (n:=off+len) (by omega);obtain⟨I2,j1,j2,j3⟩:=hj _ _ _ _ _ m1 he;obtain⟨l,hl,hb⟩:=hi.row hrow;have hlay:Later I2 L (.ms id k tot off len) (.sl false ys):=by
       intro I3 hg v hr;refine j3.sl false I3 hg v ?_;cases hr with
       | msn _ _ l2 hL hk=>simpa using Rep.nilsl (I:=I3) (L:=L) false
       | ms _ _ _ _ _ l2 b o c hL ht hk hl2 hlc hv=>
         rw[hl]at hL;obtain rfl:=Option.some.inj hL;obtain⟨v1,v2,v3,v4,v5⟩:=hv (by rw[hb.ht];exact c1.symm);subst v2;subst c2;by_cases hl0:len=0
         ·subst hl0;have:=Rep.sl (I:=I3) (L:=L) false [] l.b o c k' (fun _ _=>undef) (zero_le _) (fun h=>by cases h) (fun x hx=>by simp at hx) (fun i j x y h=>by simp at h) (fun i j x y h=>by simp at h)
          simpa using this
         have v3:=v3 (by omega);subst v3;have hlen:((els.drop off).take len).length=len:=by simp;omega
         have hget:∀(i:Nat) (x:AV),((els.drop off).take len)[i]?=some x->i<len/\els[off+i]?=some x:=by
          intro i x hx;rw[getElem?_take]at hx;split at hx
          ·rename_i hlt;rw[getElem?_drop]at hx;exact⟨hlt,hx⟩
          ·simp at hx
         by_cases hn0:l.n=0
         ·have no:∀(i j:Nat) (x y:AV),((els.drop off).take len)[i]?=some x->x.cells[j]?=some y->False:=fun i j x y h1 h2=>
           hb.pos (hget i x h1).2 h2 (by omega) hn0
          have:=Rep.sl (I:=I3) (L:=L) false ((els.drop off).take len) l.b (l.o+(off-l.sh)*k') c k' (fun _ _=>undef) (by rw[hlen];exact hlc) (fun h=>by cases h)
           (fun x hx=>by
             obtain⟨i,hi'⟩:=List.getElem?_of_mem hx;exact hb.wid x (mem_of_getElem? (hget i x hi').2)) (fun i j x y h1 h2=>(no i j x y h1 h2).elim) (fun i j x y h1 h2=>(no i j x y h1 h2).elim)
          rw[hlen]at this;exact this
         obtain⟨cs,T,fr,f1,f2,f3,f4,f9f4⟩:=hb.blk hn0
         have key:∀(i j:Nat) (x y:AV),((els.drop off).take len)[i]?=some x->x.cells[j]?=some y ->
           ∃ v,cs[l.o+(off-l.sh)*k' + i*k' + j]?=some v/\scal v=true/\Rep I L y v/\I3 l.b (l.o+(off-l.sh)*k' + i*k' + j)=some v:=by
          intro i j x y hx hy;obtain⟨g1,g2⟩:=hget i x hx;obtain⟨v,e1,e2,e3⟩:=f3 (off+i) j x y g2 hy (by omega);have ej:j<k':=by
           have:=hb.wid x (mem_of_getElem? g2);rw[<- this];exact(List.getElem?_eq_some_iff.1 hy).1
          have ea:(off+i-l.sh)*k' = (off-l.sh)*k' + i*k':=by
           rw[<- add_mul];congr 1;omega
          rw[ea]at e1;have eb:l.o+((off-l.sh)*k' + i*k')+j=l.o+(off-l.sh)*k' + i*k' + j:=by omega
          rw[eb]at e1;refine⟨v,e1,e2,e3,hg.c _ _ _ (j2.c _ _ _ ?_)⟩;rw[m3 l cs T fr hl f1 _ (by omega) ?_]
          ·exact e1
          ·have e4:(off+len-l.sh)*k' = (off-l.sh)*k' + len*k':=by rw[<- add_mul];congr 1;omega
           have e5:(i+1)*k'<=len*k':=Nat.mul_le_mul_right k' (by omega);rw[add_mul]at e5;omega
         have hres:Rep I3 L (.sl false ((els.drop off).take len)) (.slice (some ⟨l.b,l.o+(off-l.sh)*k',none⟩) ((els.drop off).take len).length c):=by
          refine .sl false _ l.b _ c k' (fun i j=>cs.getD (l.o+(off-l.sh)*k' + i*k' + j) undef) (by rw[hlen];omega) (fun h=>by cases h) (fun x hx=>?_) (fun i j x y hx hy=>?_) (fun i j x y hx hy=>?_)
          ·obtain⟨i,hi'⟩:=List.getElem?_of_mem hx;exact hb.wid x (mem_of_getElem? (hget i x hi').2)
          ·obtain⟨v,e1,e2,e3,e4⟩:=key i j x y hx hy;have ev:cs.getD (l.o+(off-l.sh)*k' + i*k' + j) undef=v:=by simp[getD_eq_getD_getElem?,e1]
           rw[ev];exact⟨e4,e2⟩
          ·obtain⟨v,e1,e2,e3,e4⟩:=key i j x y hx hy;have ev:cs.getD (l.o+(off-l.sh)*k' + i*k' + j) undef=v:=by simp[getD_eq_getD_getElem?,e1]
           rw[ev];exact e3.mono (((m2.trans j2).trans hg).ext L)
         rw[hlen]at hres;exact hres
      exact⟨I2,j1,m2.trans j2,hlay,.of_one rfl rfl hlay⟩
     ·simp at h
    ·simp at h
   ·simp at h
 | .top,I,H,y,H',hi,h=>by simp only[fzA]at h;simp at h;obtain⟨rfl,rfl⟩:=h;exact⟨I,hi,.refl I,.refl _ _ _,.of_one rfl rfl (.refl _ _ _)⟩
 | .int _ _,I,H,y,H',hi,h=>by simp only[fzA]at h;simp at h;obtain⟨rfl,rfl⟩:=h;exact⟨I,hi,.refl I,.refl _ _ _,.of_one rfl rfl (.refl _ _ _)⟩
 | .bool _,I,H,y,H',hi,h=>by simp only[fzA]at h;simp at h;obtain⟨rfl,rfl⟩:=h;exact⟨I,hi,.refl I,.refl _ _ _,.of_one rfl rfl (.refl _ _ _)⟩
 | .str _,I,H,y,H',hi,h=>by simp only[fzA]at h;simp at h;obtain⟨rfl,rfl⟩:=h;exact⟨I,hi,.refl I,.refl _ _ _,.of_one rfl rfl (.refl _ _ _)⟩
 | .nilp,I,H,y,H',hi,h=>by simp only[fzA]at h;simp at h;obtain⟨rfl,rfl⟩:=h;exact⟨I,hi,.refl I,.refl _ _ _,.of_one rfl rfl (.refl _ _ _)⟩
 | .nilf,I,H,y,H',hi,h=>by simp only[fzA]at h;simp at h;obtain⟨rfl,rfl⟩:=h;exact⟨I,hi,.refl I,.refl _ _ _,.of_one rfl rfl (.refl _ _ _)⟩
 | .nili,I,H,y,H',hi,h=>by simp only[fzA]at h;simp at h;obtain⟨rfl,rfl⟩:=h;exact⟨I,hi,.refl I,.refl _ _ _,.of_one rfl rfl (.refl _ _ _)⟩
 | .nilm,I,H,y,H',hi,h=>by simp only[fzA]at h;simp at h;obtain⟨rfl,rfl⟩:=h;exact⟨I,hi,.refl I,.refl _ _ _,.of_one rfl rfl (.refl _ _ _)⟩
 | .rf id tot i j,I,H,y,H',hi,h=>by
   simp only[fzA]at h;split at h
   ·rename_i k els z hrow;split at h
    ·rename_i hc;split at h
     ·rename_i x hx;split at h
      ·rename_i ys H1 he;simp at h;obtain⟨rfl,rfl⟩:=h;have hil:i<els.length:=(List.getElem?_eq_some_iff.1 hx).1;obtain⟨I1,m1,m2,m3⟩:=hi.mark hrow (n:=i+1) (by omega);obtain⟨I2,j1,j2,j3⟩:=hj _ _ _ _ _ m1 he;obtain⟨l,hl,hb⟩:=hi.row hrow;have hxk:x.cells.length=k:=hb.wid x (mem_of_getElem? hx);have hlay:Later I2 L (.rf id tot i j) (.pt ys):=by
        intro I3 hg v hr;refine j3.pt I3 hg v ?_;cases hr with
        | rf _ _ _ _ l2 b o hL ht hv=>
          rw[hl]at hL;obtain rfl:=Option.some.inj hL;obtain⟨v1,v2,v3⟩:=hv (by rw[hb.ht];exact hc.symm);subst v2;subst v3;by_cases hdj:x.cells.length<=j
          ·rw[List.drop_eq_nil_of_le hdj];exact .pt [] l.b _ (fun _=>undef) (fun q y hy=>by simp at hy) (fun q y hy=>by simp at hy)
          have hn0:l.n≠0:=hb.pos hx (getElem?_eq_getElem (i:=j) (by omega)) v1;obtain⟨cs,T,fr,f1,f2,f3,f4,f9f4⟩:=hb.blk hn0
          have key:∀(q:Nat) (y:AV),(x.cells.drop j)[q]?=some y ->
            ∃ v,cs[l.o+(i-l.sh)*k+(j+q)]?=some v/\scal v=true/\Rep I L y v/\I3 l.b (l.o+(i-l.sh)*k+(j+q))=some v:=by
           intro q y hy;rw[getElem?_drop]at hy;obtain⟨v,e1,e2,e3⟩:=f3 i (j+q) x y hx hy v1;have ej:j+q<k:=by rw[<- hxk];exact(List.getElem?_eq_some_iff.1 hy).1
           refine⟨v,e1,e2,e3,hg.c _ _ _ (j2.c _ _ _ ?_)⟩;rw[m3 l cs T fr hl f1 _ (by omega) ?_]
           ·exact e1
           ·have e4:(i+1-l.sh)*k=(i-l.sh)*k+k:=by
             rw[show i+1-l.sh=(i-l.sh)+1 by omega,add_mul,Nat.one_mul]
            omega
          have hkk:l.k=k:=hb.hk;rw[hkk];refine .pt _ l.b _ (fun q=>cs.getD (l.o+(i-l.sh)*k+(j+q)) undef) (fun q y hy=>?_) (fun q y hy=>?_)
          ·obtain⟨v,e1,e2,e3,e4⟩:=key q y hy;have ev:cs.getD (l.o+(i-l.sh)*k+(j+q)) undef=v:=by simp[getD_eq_getD_getElem?,e1]
           simp only[ev];exact⟨by rw[<- e4];congr 1;omega,e2⟩
          ·obtain⟨v,e1,e2,e3,e4⟩:=key q y hy;have ev:cs.getD (l.o+(i-l.sh)*k+(j+q)) undef=v:=by simp[getD_eq_getD_getElem?,e1]
           simp only[ev];exact e3.mono (((m2.trans j2).trans hg).ext L)
       exact⟨I2,j1,m2.trans j2,hlay,.of_one rfl rfl hlay⟩
      ·simp at h
     ·simp at h
    ·simp at h
   ·simp at h
 | .mpr _,I,H,y,H',hi,h=>by simp only[fzA]at h;simp at h;obtain⟨rfl,rfl⟩:=h;exact⟨I,hi,.refl I,.refl _ _ _,.of_one rfl rfl (.refl _ _ _)⟩
 | .yld _,I,H,y,H',hi,h=>by simp only[fzA]at h;simp at h;obtain⟨rfl,rfl⟩:=h;exact⟨I,hi,.refl I,.refl _ _ _,.of_one rfl rfl (.refl _ _ _)⟩
 | .clo _ _,I,H,y,H',hi,h=>by simp only[fzA]at h;simp at h;obtain⟨rfl,rfl⟩:=h;exact⟨I,hi,.refl I,.refl _ _ _,.of_one rfl rfl (.refl _ _ _)⟩
 | .clb _ _,I,H,y,H',hi,h=>by simp only[fzA]at h;simp at h;obtain⟨rfl,rfl⟩:=h;exact⟨I,hi,.refl I,.refl _ _ _,.of_one rfl rfl (.refl _ _ _)⟩
 | .psl _ _ _,I,H,y,H',hi,h=>by simp only[fzA]at h;simp at h;obtain⟨rfl,rfl⟩:=h;exact⟨I,hi,.refl I,.refl _ _ _,.of_one rfl rfl (.refl _ _ _)⟩
 | .ifc _ _,I,H,y,H',hi,h=>by simp only[fzA]at h;simp at h;obtain⟨rfl,rfl⟩:=h;exact⟨I,hi,.refl I,.refl _ _ _,.of_one rfl rfl (.refl _ _ _)⟩
theorem Bh {jump} (hj:JumpOk B0 w0 L w jump):∀(xs:List AV) {I:Imm}{H:List MB}{ys:List AV}{H':List MB},Inv B0 w0 I H L w->fzL jump xs H=some (ys,H')->FzOk B0 w0 L w I H' xs ys
 | [],I,H,ys,H',hi,h=>by
   simp only[fzL]at h;simp at h;obtain⟨rfl,rfl⟩:=h;exact⟨I,hi,.refl I,.nil _ _⟩
 | x::xs,I,H,ys,H',hi,h=>by
   simp only[fzL]at h;split at h
   ·rename_i y H1 he;split at h
    ·rename_i ys1 H2 he2;simp at h;obtain⟨rfl,rfl⟩:=h;obtain⟨I1,a1,a2,a3,a4⟩:=Da hj x hi he;obtain⟨I2,b1,b2,b3⟩:=Bh hj xs a1 he2;exact⟨I2,b1,a2.trans b2,.cons (a3.mono b2) (a4.mono b2) b3⟩
    ·simp at h
   ·simp at h
end
theorem DZ:∀ n,JumpOk B0 w0 L w (fzJ n)
 | 0=>fun I H xs ys H' _ h=>by simp[fzJ]at h
 | n+1=>fun I H xs ys H' hi h=>Bh (DZ n) xs hi h
theorem LaterL.refl (I:Imm) (L:List Lay) (xs:List AV):LaterL I L xs xs:=
 ⟨rfl,fun i x y h1 h2=>by
   rw[h1]at h2;obtain rfl:=Option.some.inj h2;refine⟨Later.refl I L x,rfl,fun j a b h3 h4=>?_⟩;rw[h3]at h4;obtain rfl:=Option.some.inj h4;exact Later.refl I L a⟩
theorem IW (hi:Inv B0 w0 I H L w) {x y:AV}{H':List MB} (h:fzS x H=some (y,H')):FzA B0 w0 L w I H' x y:=
 Da (fun I H xs ys H' hi' h'=>by
  simp at h';obtain⟨rfl,rfl⟩:=h';exact⟨I,hi',.refl I,.refl I L xs⟩) x hi h
theorem Ef (hi:Inv B0 w0 I H L w) {x y:AV}{H':List MB} (h:fz x H=some (y,H')):FzA B0 w0 L w I H' x y:=Da (DZ 6) x hi h
theorem Fb (hi:Inv B0 w0 I H L w) {xs ys:List AV}{H':List MB} (h:fzs xs H=some (ys,H')):FzOk B0 w0 L w I H' xs ys:=Bh (DZ 6) xs hi h
variable [VarTab]
set_option linter.unusedSectionVars false
open Go.RowKit
variable {P:Program}{B0:Nat}{w0:Base}{w:World}{I:Imm}{H:List MB}{L:List Lay}
theorem Aj {T:TypeId}{s:Nat} (h:tySz P T=some s) (w:World):(sizeOf T).run P w=.ok s w:=by
 unfold tySz at h;cases hi:P.info? T with
 | none=>rw[hi]at h;simp at h
 | some i=>rw[hi]at h;simp at h;simp[sizeOf,typeInfo,hi,h]
theorem BZ {T:TypeId}{b:Bool} (h:tyAgg P T=some b) (w:World):(isAgg T).run P w=.ok b w:=by
 unfold tyAgg at h;cases hu:P.underlying T with
 | none=>rw[hu]at h;simp at h
 | some d=>rw[hu]at h;simp at h;cases d<;>simp at h<;>subst h<;>simp[isAgg,run_underlying hu]
theorem BP {T e:TypeId} (h:tyElem P T=some e):P.underlying T=some (.slice e):=by
 unfold tyElem at h;split at h
 ·simp at h;subst h;assumption
 ·simp at h
theorem DK {T e:TypeId}{n:Nat} (h:tyArr P T=some (n,e)):P.underlying T=some (.array n e):=by
 unfold tyArr at h;split at h
 ·simp at h;obtain⟨rfl,rfl⟩:=h;assumption
 ·simp at h
theorem CX {T:TypeId}{k:IntKind} (h:tyInt P T=some k):P.underlying T=some (.int k):=by
 unfold tyInt at h;split at h
 ·simp at h;subst h;assumption
 ·simp at h
theorem CH {T:TypeId} (h:tyStr P T=true):P.underlying T=some .string:=by
 unfold tyStr at h;split at h
 ·assumption
 ·simp at h
theorem GL {T:TypeId}{f off s:Nat}{ft:TypeId} (h:tyFld P T f=some (off,ft,s)) :
  ∃ fs d,P.underlying T=some (.struct fs)/\fs[f]?=some d/\d.offset=off/\d.type=ft/\tySz P ft=some s:=by
 unfold tyFld at h;split at h
 ·rename_i fs hu;split at h
  ·rename_i d hd;split at h
   ·rename_i s' hs;simp at h;obtain⟨rfl,rfl,rfl⟩:=h;exact⟨fs,d,hu,hd,rfl,rfl,hs⟩
   ·simp at h
  ·simp at h
 ·simp at h
theorem C6 {T:TypeId}{s:Nat} (h:tyBytes P T=some s):∃ i,P.info? T=some i/\i.bytes=s:=by
 unfold tyBytes at h;cases hi:P.info? T with
 | none=>rw[hi]at h;simp at h
 | some i=>rw[hi]at h;simp at h;exact⟨i,rfl,h⟩
theorem BB (v:Value) (hs:scal v=true):Rep I L (ofC v) v:=by
 cases v with
 | bool b=>exact .bool b
 | int k n=>exact .int k n
 | string s=>exact .str s
 | pointer a=>cases a with
   | none=>exact .nilp
   | some a=>exact .top _
 | nilFunc=>exact .nilf
 | nilIface=>exact .nili
 | map r=>cases r with
   | none=>exact .nilm
   | some r=>exact .top _
 | slice a n c=>
   match a,n,c with
   | none,0,0=>exact .nilsl true
   | none,0,c+1=>exact .top _
   | none,n+1,c=>exact .top _
   | some a,n,c=>exact .top _
 | func fn first cap=>
   cases fn with
   | func f=>
     show Rep I L (if first.size=0/\cap.size=0 then .clo f [] else .top) _;split
     ·rename_i h;obtain⟨h1,h2⟩:=h;have e1:first = #[]:=size_eq_zero_iff.1 h1
      have e2:cap = #[]:=size_eq_zero_iff.1 h2;subst e1;subst e2;exact .clo f [] #[] rfl (fun i y h=>by simp at h)
     ·exact .top _
   | _=>exact .top _
 | agg cs=>simp[scal,Value.oneCell']at hs
 | tuple vs=>simp[scal,Value.oneCell']at hs
 | _=>exact .top _
theorem KM (v:Value) (hs:∀ cs,v=.agg cs->∀ i,i<cs.size->scal (cs.getD i undef)=true):Rep I L (ofV v) v:=by
 cases v with
 | agg cs=>
   refine .agg _ cs (by simp) (hs cs rfl) (fun i y h=>?_);simp at h;obtain⟨a,h1,h2⟩:=h;subst h2;have hi:i<cs.size:=by
    rcases Nat.lt_or_ge i cs.size with g|g
    ·exact g
    ·simp[Array.getElem?_eq_none g]at h1
   have e:cs.getD i undef=a:=by simp[getD_eq_getD_getElem?,h1]
   have h3:=hs cs rfl i hi;rw[e]at h3 |-;exact BB a h3
 | tuple vs=>
   show Rep I L (if vs.size=0 then .tup [] else .top) _;split
   ·rename_i h;have e1:vs = #[]:=size_eq_zero_iff.1 h;subst e1;exact .tup [] #[] rfl (fun i y h=>by simp at h)
   ·exact .top _
 | bool b=>exact BB (.bool b) rfl
 | int k n=>exact BB (.int k n) rfl
 | string s=>exact BB (.string s) rfl
 | pointer a=>exact BB (.pointer a) rfl
 | nilFunc=>exact BB .nilFunc rfl
 | nilIface=>exact BB .nilIface rfl
 | map r=>exact BB (.map r) rfl
 | slice a n c=>exact BB (.slice a n c) rfl
 | func fn first cap=>exact BB (.func fn first cap) rfl
 | _=>exact .top _
def ReadsAs (I:Imm) (L:List Lay) (w:World) (b o:Nat) (cs:List AV):Prop:=
 ∀ j y,cs[j]?=some y->∃ u,w.cell? ⟨b,o+j,none⟩=some u/\scal u=true/\Rep I L y u
theorem CZ {T:TypeId}{b o:Nat}{cs:List AV} (hc:ReadsAs I L w b o cs) {r:AV} (h:mkVal P T cs=some r) :
  ∃ u,(loadVar T ⟨b,o,none⟩).run P w=.ok u w/\Rep I L r u:=by
 unfold mkVal at h;split at h
 ·rename_i s ha hs;split at h
  ·rename_i hle;simp at h;subst h;have hf:∀ j,j<s->w.cell? ((⟨b,o,none⟩:Addr).add j)=some ((w.cell? ⟨b,o+j,none⟩).getD undef):=by
    intro j hj;obtain⟨u,e,_⟩:=hc j _ (getElem?_eq_getElem (by omega));rw[Addr.add_lit,e];rfl
   refine⟨.agg ((List.range s).map fun j=>(w.cell? ⟨b,o+j,none⟩).getD undef).toArray,?_,?_⟩
   ·unfold loadVar;simp only[Sem.run_bind,BZ ha,Result.andThen_ok,if_true,Aj hs,run_loadCells w _ s _ hf];rfl
   ·refine .agg _ _ (by simp;omega) (fun i hi=>?_) (fun i y hy=>?_)
    ·simp at hi;obtain⟨u,e,e2,_⟩:=hc i _ (getElem?_eq_getElem (by omega:i<cs.length));simp[getD_eq_getD_getElem?,hi,e,e2]
    ·rw[getElem?_take]at hy;split at hy
     ·rename_i hi;obtain⟨u,e,e2,e3⟩:=hc i y hy
      simpa [getD_eq_getD_getElem?,hi,e] using e3
     ·simp at hy
  ·simp at h
 ·rename_i s ha hs;cases cs with
  | nil=>simp at h
  | cons y rest=>
    simp at h;subst h;obtain⟨u,e,e2,e3⟩:=hc 0 y rfl;refine⟨u,?_,e3⟩;unfold loadVar;simp only[Nat.add_zero]at e;simp only[Sem.run_bind,BZ ha,Result.andThen_ok,run_load,e,Sem.run_ite];rfl
 ·simp at h
theorem ReadsAs.drop {b o:Nat}{cs:List AV} (h:ReadsAs I L w b o cs) (n:Nat):ReadsAs I L w b (o+n) (cs.drop n):=by
 intro j y hj;rw[getElem?_drop]at hj;have:=h (n+j) y hj
 rwa [<- add_assoc]at this
theorem HU (hi:Inv B0 w0 I H L w) {a:AV}{v:Value} (hr:Rep I L a v) {cs:List AV} (hc:cellsAt H a=some cs) {T:TypeId}{r:AV} (h:mkVal P T cs=some r) :
  ∃ u,(Instr.loadAt T v).run P w=.ok u w/\Rep I L r u:=by
 obtain⟨b,o,rfl,h2⟩:=C3 hi hr hc;obtain⟨u,e1,e2⟩:=CZ (P:=P) h2 h;exact⟨u,by unfold Instr.loadAt;simp only[Sem.run_bind,Instr.sureAddr,Sem.run_pure,Result.andThen_ok,e1],e2⟩
theorem D4 {T:TypeId}{x:AV}{v:Value} (hr:Rep I L x v) {f:Nat}{r:AV} (h:evFieldAddr P T x f=some r) :
  ∃ u,(Instr.fieldAt T v f).run P w=.ok u w/\Rep I L r u:=by
 unfold evFieldAddr at h;split at h
 ·rename_i off ft s hf;obtain⟨fs,d,hu,hd,e1,e2,hs⟩:=GL hf;split at h
  ·simp at h
  ·rename_i hs0;have key:∀ b o,(Instr.fieldAt T (.pointer (some ⟨b,o,none⟩)) f).run P w=.ok (.pointer (some ⟨b,o+off,none⟩)) w:=by
    intro b o;unfold Instr.fieldAt;simp only[Sem.run_bind,run_underlying hu,Result.andThen_ok,hd,Instr.sureAddr,Sem.run_pure,fieldPlace,e2,Aj hs,Sem.run_ite,if_neg hs0,Addr.add_lit,e1]
   split at h
   ·rename_i id tot i j;simp at h;subst h;cases hr with
    | rf _ _ _ _ l b o hL ht hv=>
      exact⟨_,key b o,.rf id tot i (j+off) l b (o+off) hL ht (fun e=>⟨(hv e).1,(hv e).2.1,by rw[(hv e).2.2];omega⟩)⟩
   ·rename_i cs;simp at h;subst h;cases hr with
    | pt _ b o f' hI hR=>
      have hsub:∀(j:Nat) (y:AV),((cs.drop off).take s)[j]?=some y->(cs.drop off)[j]?=some y:=fun j y hj=>by
       rw[getElem?_take]at hj;split at hj
       ·exact hj
       ·cases hj
      refine⟨_,key b o,.pt _ b (o+off) (fun j=>f' (off+j)) (fun j y hj=>?_) (fun j y hj=>?_)⟩
      ·replace hj:=hsub j y hj
       rw[getElem?_drop]at hj;have:=hI _ y hj
       rwa [<- add_assoc]at this
      ·replace hj:=hsub j y hj
       rw[getElem?_drop]at hj;exact hR _ y hj
   ·simp at h
 ·simp at h
theorem Ca {T e:TypeId}{s:Nat} (hu:P.underlying T=some (.slice e)) (hs:tySz P e=some s) (b o len cap:Nat) (k:IntKind) (n:Int) (h0:0<=n) (hl:n<len) (w:World) :
  (Instr.indexAt T (.slice (some ⟨b,o,none⟩) len cap) (.int k n)).run P w=.ok (.pointer (some ⟨b,o+n.toNat*s,none⟩)) w:=by
 have hu':P.underlying T=some (.slice (P.elem T)):=by simp[Program.elem,hu]
 have he:P.elem T=e:=by simp[Program.elem,hu]
 rw[run_indexAt_slice w T _ len cap k n hu',if_pos ⟨h0,hl⟩,he,Aj hs];simp[Addr.add_lit]
theorem Bx {T e:TypeId}{s len:Nat} (hu:P.underlying T=some (.array len e)) (hs:tySz P e=some s) (b o:Nat) (k:IntKind) (n:Int) (h0:0<=n) (hl:n<len) (w:World) :
  (Instr.indexAt T (.pointer (some ⟨b,o,none⟩)) (.int k n)).run P w=.ok (.pointer (some ⟨b,o+n.toNat*s,none⟩)) w:=by
 unfold Instr.indexAt;simp only[Sem.run_bind,asIntOf,Sem.run_pure,Result.andThen_ok,run_underlying hu,Instr.sureAddr];simp[h0,hl,Aj hs,Addr.add_lit]
theorem D3 {T:TypeId}{x ix:AV}{v vi:Value} (hr:Rep I L x v) (hri:Rep I L ix vi) {r:AV} (h:evIndexAddr P T x ix=some r) :
  ∃ u,(Instr.indexAt T v vi).run P w=.ok u w/\Rep I L r u:=by
 unfold evIndexAddr at h;split at h
 ·rename_i k n;cases hri;split at h
  ·rename_i e he;have hu:=BP he;split at h
   ·rename_i s hs;split at h
    ·rename_i t xs;split at h
     ·rename_i h0;split at h
      ·rename_i y hy;split at h
       ·rename_i hw;simp at h;subst h;have hlt:n.toNat<xs.length:=(List.getElem?_eq_some_iff.1 hy).1;generalize hx:AV.sl t xs=x at hr;cases hr with
        | nilsl t'=>simp at hx;obtain⟨rfl,rfl⟩:=hx;simp at hlt
        | sl t' xs' b o c k' f hc ht hk hI hR=>
          simp at hx;obtain⟨rfl,rfl⟩:=hx;refine⟨_,Ca hu hs b o _ c k n h0 (by omega) w,.pt _ b _ (fun j=>f n.toNat j) (fun j z hj=>?_) (fun j z hj=>hR _ j y z hy hj)⟩;have hk':k' = s:=by rw[<- hw];exact(hk y (mem_of_getElem? hy)).symm
          rw[<- hk'];exact hI n.toNat j y z hy hj
        | _=>cases hx
       ·simp at h
      ·simp at h
     ·simp at h
    ·rename_i id k' tot off len;split at h
     ·rename_i hc;obtain⟨h0,hl,hk⟩:=hc;simp at h;subst h;cases hr with
      | msn=>omega
      | ms _ _ _ _ _ l b o c hL ht hk2 hl2 hlc hv=>
        refine⟨_,Ca hu hs b o len c k n h0 hl w,.rf id tot (off+n.toNat) 0 l b _ hL ht (fun e=>?_)⟩;obtain⟨v1,v2,v3,_⟩:=hv e;refine⟨by omega,v2,?_⟩;rw[v3 (by omega),<- hk,hk2];have:(off+n.toNat-l.sh)*k' = (off-l.sh)*k' + n.toNat*k':=by rw[<- add_mul];congr 1;omega
        omega
     ·simp at h
    ·simp at h
   ·simp at h
  ·split at h
   ·rename_i len e he;have hu:=DK he;split at h
    ·rename_i s hs;split at h
     ·rename_i hc;obtain⟨h0,hl⟩:=hc;split at h
      ·rename_i id tot i j;simp at h;subst h;cases hr with
       | rf _ _ _ _ l b o hL ht hv=>
         exact⟨_,Bx hu hs b o k n h0 hl w,.rf id tot i _ l b _ hL ht (fun e=>⟨(hv e).1,(hv e).2.1,by rw[(hv e).2.2];omega⟩)⟩
      ·rename_i cs;simp at h;subst h;cases hr with
       | pt _ b o f' hI hR=>
         refine⟨_,Bx hu hs b o k n h0 hl w,.pt _ b _ (fun j=>f' (n.toNat*s+j)) (fun j y hj=>?_) (fun j y hj=>?_)⟩
         ·rw[getElem?_drop]at hj;have:=hI _ y hj
          rwa [<- add_assoc]at this
         ·rw[getElem?_drop]at hj;exact hR _ y hj
      ·simp at h
     ·simp at h
    ·simp at h
   ·simp at h
 ·simp at h
theorem ES {T:TypeId}{cs:List AV}{ws:Array Value} (hr:Rep I L (.agg cs) (.agg ws)) {off:Nat}{r:AV} (h:evPart P T cs off=some r) :
  ∃ u,(part T ws off).run P w=.ok u w/\Rep I L r u:=by
 cases hr with
 | agg _ _ hn hs hR=>
   unfold evPart at h;split at h
   ·rename_i s ha hsz;split at h
    ·rename_i hle;simp at h;subst h;refine⟨.agg (ws.extract off (off+s)),?_,?_⟩
     ·unfold part;simp only[Sem.run_bind,BZ ha,Result.andThen_ok,if_true,Aj hsz];rfl
     ·have hget:∀ i,i<s->(ws.extract off (off+s)).getD i undef=ws.getD (off+i) undef:=by
       intro i hi;simp[getD_eq_getD_getElem?,Array.getElem?_extract];rw[if_pos (by omega)]
      refine .agg _ _ (by simp;omega) (fun i hi=>?_) (fun i y hy=>?_)
      ·simp at hi;rw[hget i (by omega)];exact hs _ (by omega)
      ·rw[getElem?_take]at hy;split at hy
       ·rename_i hlt;rw[getElem?_drop]at hy;rw[hget i hlt];exact hR _ y hy
       ·simp at hy
    ·simp at h
   ·rename_i s ha hsz;have hlt:off<ws.size:=by rw[hn];exact(List.getElem?_eq_some_iff.1 h).1
    refine⟨ws.getD off undef,?_,hR off r h⟩;unfold part;have e:ws[off]?=some (ws.getD off undef):=by simp[getD_eq_getD_getElem?,hlt]
    simp only[Sem.run_bind,BZ ha,Result.andThen_ok,e,Sem.run_ite];rfl
   ·simp at h
theorem Gp {T:TypeId}{x:AV}{v:Value} (hr:Rep I L x v) {f:Nat}{r:AV} (h:evField P T x f=some r) :
  ∃ u,(Instr.field T v f).run P w=.ok u w/\Rep I L r u:=by
 unfold evField at h;split at h
 ·rename_i cs off ft s hf;obtain⟨fs,d,hu,hd,e1,e2,hs⟩:=GL hf;cases hr with
  | agg _ ws hn hs2 hR=>
    obtain⟨u,g1,g2⟩:=ES (P:=P) (w:=w) (.agg cs ws hn hs2 hR) h;refine⟨u,?_,g2⟩;unfold Instr.field;simp only[Sem.run_bind,run_underlying hu,Result.andThen_ok,hd,asAgg,Sem.run_pure,e1,e2,g1]
 ·simp at h
theorem Gg {T:TypeId}{x ix:AV}{v vi:Value} (hr:Rep I L x v) (hri:Rep I L ix vi) {r:AV} (h:evIndex P T x ix=some r) :
  ∃ u,(Instr.index T v vi).run P w=.ok u w/\Rep I L r u:=by
 unfold evIndex at h;split at h
 ·rename_i cs k n;cases hri;split at h
  ·rename_i len e he;have hu:=DK he;split at h
   ·rename_i s hs;split at h
    ·rename_i hc;obtain⟨h0,hl⟩:=hc;cases hr with
     | agg _ ws hn hs2 hR=>
       obtain⟨u,g1,g2⟩:=ES (P:=P) (w:=w) (.agg cs ws hn hs2 hR) h;refine⟨u,?_,g2⟩;unfold Instr.index;simp only[Sem.run_bind,asIntOf,Sem.run_pure,Result.andThen_ok,run_underlying hu];simp[h0,hl,Aj hs,g1]
    ·simp at h
   ·simp at h
  ·simp at h
 ·rename_i b k n;cases hri;cases hr;split at h
  ·rename_i hc;obtain⟨hs,h0⟩:=hc;have hu:=CH hs;split at h
   ·rename_i c hb;simp at h;subst h;refine⟨_,?_,.int _ _⟩;unfold Instr.index;simp only[Sem.run_bind,asIntOf,Sem.run_pure,Result.andThen_ok,run_underlying hu];simp[h0,hb]
   ·simp at h
  ·simp at h
 ·simp at h
theorem E8 {vs:List AV}{v:Value} (hr:Rep I L (.tup vs) v) {i:Nat}{r:AV} (h:vs[i]?=some r) :
  ∃ u,(Instr.extract v i).run P w=.ok u w/\Rep I L r u:=by
 cases hr with
 | tup _ ws hn hR=>
   have hlt:i<ws.size:=by rw[hn];exact(List.getElem?_eq_some_iff.1 h).1
   have e:ws[i]?=some (ws.getD i undef):=by simp[getD_eq_getD_getElem?,hlt]
   exact⟨_,by unfold Instr.extract;simp only[e];rfl,hR i r h⟩
variable [VarTab]
set_option linter.unusedSectionVars false
open Go.RowKit
variable {P:Program}{B0:Nat}{w0:Base}{w:World}{I:Imm}{H:List MB}{L:List Lay}
theorem Gs {op:BinOp}{k:IntKind}{a b:Int}{r:AV} (h:evBin op k a b=some r) (T:TypeId) (w:World) (h1:op≠.shl) (h2:op≠.shr) :
  ∃ u,(binOp op T (.int k a) (.int k b)).run P w=.ok u w/\Rep I L r u:=by
 cases op<;>simp only[evBin]at h
 case add=>simp at h;subst h;exact⟨_,by rw[binOp_add];rfl,.int _ _⟩
 case sub=>simp at h;subst h;exact⟨_,by rw[binOp_sub];rfl,.int _ _⟩
 case mul=>simp at h;subst h;exact⟨_,by rw[binOp_mul];rfl,.int _ _⟩
 case quo=>
  split at h
  ·simp at h
  ·rename_i hb;simp at h;subst h;exact⟨_,by rw[binOp_quo];simp only[Op.intDiv,if_neg hb];rfl,.int _ _⟩
 case rem=>
  split at h
  ·simp at h
  ·rename_i hb;simp at h;subst h;exact⟨_,by rw[binOp_rem];simp only[Op.intDiv,if_neg hb];rfl,.int _ _⟩
 case and=>simp only[Option.some.injEq]at h;subst h;exact⟨_,by rw[binOp_and];rfl,.int _ _⟩
 case or=>simp only[Option.some.injEq]at h;subst h;exact⟨_,by rw[binOp_or];rfl,.int _ _⟩
 case xor=>simp only[Option.some.injEq]at h;subst h;exact⟨_,by rw[binOp_xor];rfl,.int _ _⟩
 case andNot=>simp only[Option.some.injEq]at h;subst h;exact⟨_,by rw[binOp_andNot];rfl,.int _ _⟩
 case shl=>exact absurd rfl h1
 case shr=>exact absurd rfl h2
 case eql=>simp only[Option.some.injEq]at h;subst h;exact⟨_,by rw[binOp_eql];rfl,.bool _⟩
 case neq=>simp only[Option.some.injEq]at h;subst h;exact⟨_,by rw[binOp_neq];rfl,.bool _⟩
 case lss=>simp only[Option.some.injEq]at h;subst h;exact⟨_,by rw[binOp_lss];rfl,.bool _⟩
 case leq=>simp only[Option.some.injEq]at h;subst h;exact⟨_,by rw[binOp_leq];rfl,.bool _⟩
 case gtr=>simp only[Option.some.injEq]at h;subst h;exact⟨_,by rw[binOp_gtr];rfl,.bool _⟩
 case geq=>simp only[Option.some.injEq]at h;subst h;exact⟨_,by rw[binOp_geq];rfl,.bool _⟩
theorem C1 {op:BinOp}{k k':IntKind}{a b:Int}{r:AV} (h:evShift op k a b=some r) (w:World) :
  ∃ u,(Op.shift op k a k' b).run P w=.ok u w/\Rep I L r u:=by
 unfold evShift at h;split at h
 ·simp at h
 ·rename_i hb;unfold Op.shift;rw[if_neg hb];cases op<;>simp only[Option.some.injEq,reduceCtorEq]at h
  case shl=>subst h;exact⟨_,rfl,.int _ _⟩
  case shr=>subst h;exact⟨_,rfl,.int _ _⟩
theorem FA {op:BinOp}{a b:ByteArray}{r:AV} (h:evStrOp op a b=some r) (w:World) :
  ∃ u,(Op.stringOp op a b).run P w=.ok u w/\Rep I L r u:=by
 cases op<;>simp only[evStrOp,Option.some.injEq,reduceCtorEq]at h
 case add=>
  split at h
  ·rename_i hle;simp at h;subst h;refine⟨_,?_,.str _⟩;unfold Op.stringOp;simp only[];rw[if_neg (by
    have:IntKind.i64.max=9223372036854775807:=by decide
    rw[this];omega)]
   rfl
  ·simp at h
 all_goals (subst h;exact⟨_,rfl,.bool _⟩)
theorem Bf (d:Nat) (xs ys:Array Value):∀(fs:List Field) (i:Nat) (l:List Bool) (as bs:List AV) (b:Bool),
  flatFields P i fs=some l->eqCells l as bs=some b ->
  (∀ j a,as[j]?=some a->xs[i+j]?≠none/\Rep I L a (xs.getD (i+j) undef))->(∀ j a,bs[j]?=some a->ys[i+j]?≠none/\Rep I L a (ys.getD (i+j) undef)) ->
  ∀ w,(Op.eqFields (d+1) xs ys fs).run P w=.ok b w
 | [],i,l,as,bs,b,hf,he,_,_,w=>by
   simp[flatFields]at hf;subst hf;cases as with
   | cons a as=>simp[eqCells]at he
   | nil=>
     cases bs with
     | nil=>simp[eqCells]at he;subst he;rfl
     | cons c bs=>simp[eqCells]at he
 | f::fs,i,l,as,bs,b,hf,he,ha,hb,w=>by
   simp only[flatFields]at hf;split at hf
   ·rename_i hfo;obtain⟨f1,f2⟩:=hfo;have hpart:∀(hagg:tyAgg P f.type=some false) (zs:Array Value) (v:Value),zs[i]?=some v->∀ w,(part f.type zs f.offset).run P w=.ok v w:=by
     intro hagg zs v hz w;unfold part;simp only[Sem.run_bind,BZ hagg,Result.andThen_ok,Sem.run_ite,f1,hz];rfl
    have hget:∀(zs:Array Value),zs[i]?≠none->zs[i]?=some (zs.getD i undef):=by
     intro zs hz;cases hh:zs[i]? with
     | none=>exact absurd hh hz
     | some v=>simp[getD_eq_getD_getElem?,hh]
    have shift:∀(zs:Array Value) (c:AV) (cs:List AV),(∀ j a,(c::cs)[j]?=some a->zs[i+j]?≠none/\Rep I L a (zs.getD (i+j) undef)) ->
      ∀ j a,cs[j]?=some a->zs[i+1+j]?≠none/\Rep I L a (zs.getD (i+1+j) undef):=by
     intro zs c cs h j z hz;have:=h (j+1) z (by simpa using hz)
     rwa [show i+(j+1)=i+1+j by omega]at this
    split at hf
    ·rename_i k l' hu hl;simp at hf;subst hf;have hagg:tyAgg P f.type=some false:=by simp[tyAgg,hu]
     cases as with
     | nil=>simp[eqCells]at he
     | cons a as=>
        cases bs with
        | nil=>cases a<;>simp[eqCells]at he
        | cons c bs=>
          cases a<;>cases c<;>simp only[eqCells,reduceCtorEq]at he
          case int.int k1 n k2 n'=>
           split at he
           ·rename_i hk;subst hk;cases hq:eqCells l' as bs with
            | none=>rw[hq]at he;simp at he
            | some b'=>
              rw[hq]at he;simp at he;subst he;have h1:xs[i]?≠none/\Rep I L (.int k1 n) (xs.getD i undef):=ha 0 _ rfl;have h2:ys[i]?≠none/\Rep I L (.int k1 n') (ys.getD i undef):=hb 0 _ rfl;simp only[Op.eqFields,if_pos f2,Sem.run_bind,hpart hagg xs _ (hget xs h1.1),hpart hagg ys _ (hget ys h2.1),Result.andThen_ok];have g1:=h1.2;have g2:=h2.2;generalize xs.getD i undef=va at *;generalize ys.getD i undef=vb at *;cases g1;cases g2;rw[run_equalIn_int w d f.type k1 k n n' hu];simp only[Result.andThen_ok,Sem.run_ite];by_cases hn:n=n'
              ·subst hn;simp[Bf d xs ys fs (i+1) l' as bs b' hl hq (shift xs _ as ha) (shift ys _ bs hb) w]
              ·have:(n==n')=false:=by simp[hn]
               simp[this]
           ·simp at he
    ·rename_i l' hu hl;simp at hf;subst hf;have hagg:tyAgg P f.type=some false:=by simp[tyAgg,hu]
     cases as with
     | nil=>simp[eqCells]at he
     | cons a as=>
        cases bs with
        | nil=>cases a<;>simp[eqCells]at he
        | cons c bs=>
          cases a<;>cases c<;>simp only[eqCells,reduceCtorEq]at he
          case bool.bool n n'=>
           cases hq:eqCells l' as bs with
           | none=>rw[hq]at he;simp at he
           | some b'=>
             rw[hq]at he;simp at he;subst he;have h1:xs[i]?≠none/\Rep I L (.bool n) (xs.getD i undef):=ha 0 _ rfl;have h2:ys[i]?≠none/\Rep I L (.bool n') (ys.getD i undef):=hb 0 _ rfl;simp only[Op.eqFields,if_pos f2,Sem.run_bind,hpart hagg xs _ (hget xs h1.1),hpart hagg ys _ (hget ys h2.1),Result.andThen_ok];have g1:=h1.2;have g2:=h2.2;generalize xs.getD i undef=va at *;generalize ys.getD i undef=vb at *;cases g1;cases g2;rw[run_equalIn_bool' w d f.type n n' hu];simp only[Result.andThen_ok,Sem.run_ite];by_cases hn:n=n'
             ·subst hn;simp[Bf d xs ys fs (i+1) l' as bs b' hl hq (shift xs _ as ha) (shift ys _ bs hb) w]
             ·have:(n==n')=false:=by simp[hn]
              simp[this]
    ·simp at hf
   ·simp at hf
theorem CE (d:Nat) (e:TypeId) {k:IntKind} (hu:P.underlying e=some (.int k)) (xs ys:Array Value):∀(n i:Nat) (as bs:List AV) (b:Bool),
  eqCells (List.replicate n true) as bs=some b ->
  (∀ j a,as[j]?=some a->xs[i+j]?≠none/\Rep I L a (xs.getD (i+j) undef))->(∀ j a,bs[j]?=some a->ys[i+j]?≠none/\Rep I L a (ys.getD (i+j) undef)) ->
  ∀ w,(Op.eqItems (d+1) e 1 xs ys (List.range' i n)).run P w=.ok b w
 | 0,i,as,bs,b,he,_,_,w=>by
   cases as with
   | cons a as=>simp[eqCells]at he
   | nil=>
     cases bs with
     | nil=>simp[eqCells]at he;subst he;rfl
     | cons c bs=>simp[eqCells]at he
 | n+1,i,as,bs,b,he,ha,hb,w=>by
   have hagg:tyAgg P e=some false:=by simp[tyAgg,hu]
   have hpart:∀(zs:Array Value) (v:Value),zs[i]?=some v->∀ w,(part e zs (i*1)).run P w=.ok v w:=by
    intro zs v hz w;unfold part;simp only[Sem.run_bind,BZ hagg,Result.andThen_ok,Sem.run_ite,Nat.mul_one,hz];rfl
   have hget:∀(zs:Array Value),zs[i]?≠none->zs[i]?=some (zs.getD i undef):=by
    intro zs hz;cases hh:zs[i]? with
    | none=>exact absurd hh hz
    | some v=>simp[getD_eq_getD_getElem?,hh]
   have shift:∀(zs:Array Value) (c:AV) (cs:List AV),(∀ j a,(c::cs)[j]?=some a->zs[i+j]?≠none/\Rep I L a (zs.getD (i+j) undef)) ->
     ∀ j a,cs[j]?=some a->zs[i+1+j]?≠none/\Rep I L a (zs.getD (i+1+j) undef):=by
    intro zs c cs h j z hz;have:=h (j+1) z (by simpa using hz)
    rwa [show i+(j+1)=i+1+j by omega]at this
   rw[List.replicate_succ]at he;cases as with
   | nil=>simp[eqCells]at he
   | cons a as=>
     cases bs with
     | nil=>cases a<;>simp[eqCells]at he
     | cons c bs=>
       cases a<;>cases c<;>simp only[eqCells,reduceCtorEq]at he
       case int.int k1 n1 k2 n2=>
        split at he
        ·rename_i hk;subst hk;cases hq:eqCells (List.replicate n true) as bs with
         | none=>rw[hq]at he;simp at he
         | some b'=>
           rw[hq]at he;simp at he;subst he;have h1:xs[i]?≠none/\Rep I L (.int k1 n1) (xs.getD i undef):=ha 0 _ rfl;have h2:ys[i]?≠none/\Rep I L (.int k1 n2) (ys.getD i undef):=hb 0 _ rfl;rw[List.range'_succ];simp only[Op.eqItems,Sem.run_bind,hpart xs _ (hget xs h1.1),hpart ys _ (hget ys h2.1),Result.andThen_ok];have g1:=h1.2;have g2:=h2.2;generalize xs.getD i undef=va at *;generalize ys.getD i undef=vb at *;cases g1;cases g2;rw[run_equalIn_int w d e k1 k n1 n2 hu];simp only[Result.andThen_ok,Sem.run_ite];by_cases hn:n1=n2
           ·subst hn;simp[CE d e hu xs ys n (i+1) as bs b' hq (shift xs _ as ha) (shift ys _ bs hb) w]
           ·have:(n1==n2)=false:=by simp[hn]
            simp[this]
        ·simp at he
def EqRun (P:Program) (T:TypeId) (ox oy:Operand) (a b:Value) (r:Bool) (w:World):Prop:=
 (do eqGuard .eql T ox oy a b;binOp .eql T a b:Sem Value).run P w=.ok (.bool r) w/\(do eqGuard .neq T ox oy a b;binOp .neq T a b:Sem Value).run P w=.ok (.bool (!r)) w
theorem EqRun.of {T:TypeId}{ox oy:Operand}{a b:Value}{r:Bool}{w:World} (h1:eqGuard .eql T ox oy a b=pure ()) (h2:eqGuard .neq T ox oy a b=pure ())
  (h3:binOp .eql T a b=(do pure (.bool (<- Op.equal T a b)))) (h4:binOp .neq T a b=(do pure (.bool (!(<- Op.equal T a b))))) (h5:(Op.equal T a b).run P w=.ok r w) :
  EqRun P T ox oy a b r w:=by
 constructor
 ·rw[h1,h3];simp only[Sem.run_bind,Sem.run_pure,Result.andThen_ok,h5]
 ·rw[h2,h4];simp only[Sem.run_bind,Sem.run_pure,Result.andThen_ok,h5]
theorem Br (d:Nat) {T e:TypeId} (hu:P.underlying T=some (.pointer e)) (w:World) :
  (Op.equalIn (d+1) T (.pointer none) (.pointer none)).run P w=.ok true w /\
  (∀ a,(Op.equalIn (d+1) T (.pointer none) (.pointer (some a))).run P w=.ok false w)/\(∀ a,(Op.equalIn (d+1) T (.pointer (some a)) (.pointer none)).run P w=.ok false w):=by
 refine⟨?_,fun a=>?_,fun a=>?_⟩<;>simp[Op.equalIn,run_underlying hu]
theorem DG (d:Nat) {T:TypeId}{p q:Array TypeId}{v:Bool} (hu:P.underlying T=some (.func p q v)) (w:World) :
  (Op.equalIn (d+1) T .nilFunc .nilFunc).run P w=.ok true w /\
  (∀ f x y,(Op.equalIn (d+1) T .nilFunc (.func f x y)).run P w=.ok false w)/\(∀ f x y,(Op.equalIn (d+1) T (.func f x y) .nilFunc).run P w=.ok false w):=by
 refine⟨?_,fun f x y=>?_,fun f x y=>?_⟩<;>simp[Op.equalIn,run_underlying hu]
theorem Em {T:TypeId}{x y:AV}{a b:Value} (hx:Rep I L x a) (hy:Rep I L y b) {r:Bool} (h:evEq P T x y=some r) (ox oy:Operand) (w:World) :
  EqRun P T ox oy a b r w:=by
 unfold evEq at h;split at h
 ·rename_i n n';split at h
  ·rename_i hu;cases hx;cases hy;simp at h;subst h;exact .of rfl rfl rfl rfl (run_equalIn_bool' w 9999 T n n' hu)
  ·simp at h
 ·rename_i xs ys;cases hx with
  | agg _ ws hn hs hR=>
    cases hy with
    | agg _ ws' hn' hs' hR'=>
      split at h
      ·rename_i l hl;unfold flatKinds at hl;split at hl
       ·rename_i fs hu;split at hl
        ·rename_i hst;obtain⟨s1,s2⟩:=hst;have hu':P.underlying T=some (.struct (P.fieldsOf T)):=by simp[Program.fieldsOf,hu]
         have hfs:P.fieldsOf T=fs:=by simp[Program.fieldsOf,hu]
         have key:(Op.equalIn 10000 T (.agg ws) (.agg ws')).run P w=.ok r w:=by
          rw[run_equalIn_struct w 9999 T ws ws' hu' s1,hfs];refine Bf (I:=I) (L:=L) 9998 ws ws' fs.toList 0 l xs ys r hl h (fun j c hj=>?_) (fun j c hj=>?_) w
          ·have hlt:j<ws.size:=by rw[hn];exact(List.getElem?_eq_some_iff.1 hj).1
           exact⟨by simp[hlt],by simpa using hR j c hj⟩
          ·have hlt:j<ws'.size:=by rw[hn'];exact(List.getElem?_eq_some_iff.1 hj).1
           exact⟨by simp[hlt],by simpa using hR' j c hj⟩
         constructor
         ·simp only[Sem.run_bind,run_eqGuard_agg w _ T ox oy ws ws' s2,Result.andThen_ok,run_eql_struct,key]
         ·simp only[Sem.run_bind,run_eqGuard_agg w _ T ox oy ws ws' s2,Result.andThen_ok,run_neq_struct,key]
        ·simp at hl
       ·rename_i n e hu;split at hl
        ·rename_i s2;split at hl
         ·rename_i k hue hse;simp at hl;subst hl;obtain⟨inf,hinf,hsz⟩:∃ inf,P.info? e=some inf/\inf.size=1:=by
           unfold tySz at hse;cases hi:P.info? e with
           | none=>rw[hi]at hse;simp at hse
           | some inf=>rw[hi]at hse;simp at hse;exact⟨inf,rfl,hse⟩
          have hc1:P.cellsOf e=1:=by simp[Program.cellsOf,hinf,hsz]
          have key:(Op.equalIn 10000 T (.agg ws) (.agg ws')).run P w=.ok r w:=by
           rw[run_equalIn_array w 9999 ws ws' hu hinf,hc1,List.range_eq_range'];refine CE (I:=I) (L:=L) 9998 e hue ws ws' n 0 xs ys r h (fun j c hj=>?_) (fun j c hj=>?_) w
           ·have hlt:j<ws.size:=by rw[hn];exact(List.getElem?_eq_some_iff.1 hj).1
            exact⟨by simp[hlt],by simpa using hR j c hj⟩
           ·have hlt:j<ws'.size:=by rw[hn'];exact(List.getElem?_eq_some_iff.1 hj).1
            exact⟨by simp[hlt],by simpa using hR' j c hj⟩
          constructor
          ·simp only[Sem.run_bind,run_eqGuard_agg w _ T ox oy ws ws' s2,Result.andThen_ok,run_eql_struct,key]
          ·simp only[Sem.run_bind,run_eqGuard_agg w _ T ox oy ws ws' s2,Result.andThen_ok,run_neq_struct,key]
         ·simp at hl
        ·simp at hl
       ·simp at hl
      ·simp at h
 ·split at h
  ·rename_i hu;simp at h;subst h;cases hx;cases hy;exact .of rfl rfl rfl rfl (Br 9999 hu w).1
  ·simp at h
 ·split at h
  ·rename_i hu;simp at h;subst h;cases hx;cases hy;exact .of rfl rfl rfl rfl ((Br 9999 hu w).2.1 _)
  ·simp at h
 ·split at h
  ·rename_i hu;simp at h;subst h;cases hx;cases hy;exact .of rfl rfl rfl rfl ((Br 9999 hu w).2.1 _)
  ·simp at h
 ·split at h
  ·rename_i hu;simp at h;subst h;cases hx;cases hy;exact .of rfl rfl rfl rfl ((Br 9999 hu w).2.2 _)
  ·simp at h
 ·split at h
  ·rename_i hu;simp at h;subst h;cases hx;cases hy;exact .of rfl rfl rfl rfl ((Br 9999 hu w).2.2 _)
  ·simp at h
 ·split at h
  ·rename_i hu;simp at h;subst h;cases hx;cases hy;exact .of rfl rfl rfl rfl (DG 9999 hu w).1
  ·simp at h
 ·split at h
  ·rename_i hu;simp at h;subst h;cases hx;cases hy;exact .of rfl rfl rfl rfl ((DG 9999 hu w).2.1 _ _ _)
  ·simp at h
 ·split at h
  ·rename_i hu;simp at h;subst h;cases hx;cases hy;exact .of rfl rfl rfl rfl ((DG 9999 hu w).2.2 _ _ _)
  ·simp at h
 ·simp at h
theorem G3 {op:BinOp}{T:TypeId}{x y:AV}{a b:Value} (hx:Rep I L x a) (hy:Rep I L y b) {r:AV} (h:evBinOp P op T x y=some r) (ox oy:Operand) (w:World) :
  ∃ u,(do eqGuard op T ox oy a b;binOp op T a b:Sem Value).run P w=.ok u w/\Rep I L r u:=by
 unfold evBinOp at h;split at h
 ·rename_i k n k' n';cases hx;cases hy;simp only[eqGuard_at_int,Sem.run_bind,Sem.run_pure,Result.andThen_ok];split at h
  ·obtain⟨u,e1,e2⟩:=C1 (P:=P) (I:=I) (L:=L) (k':=k') h w;exact⟨u,by rw[binOp_shl];exact e1,e2⟩
  ·obtain⟨u,e1,e2⟩:=C1 (P:=P) (I:=I) (L:=L) (k':=k') h w;exact⟨u,by rw[binOp_shr];exact e1,e2⟩
  ·rename_i h1 h2;split at h
   ·rename_i hk;subst hk;exact Gs h T w h1 h2
   ·simp at h
 ·rename_i s s';cases hx;cases hy;obtain⟨u,e1,e2⟩:=FA (P:=P) (I:=I) (L:=L) h w;refine⟨u,?_,e2⟩;simp only[eqGuard_at_string,Sem.run_bind,Sem.run_pure,Result.andThen_ok];rw[<- e1];cases op<;>rfl
 ·split at h
  ·cases he:evEq P T x y with
   | none=>rw[he]at h;simp at h
   | some q=>
     rw[he]at h;simp at h;subst h;exact⟨.bool q,(Em hx hy he ox oy w).1,.bool _⟩
  ·cases he:evEq P T x y with
   | none=>rw[he]at h;simp at h
   | some q=>
     rw[he]at h;simp at h;subst h;exact⟨.bool (!q),(Em hx hy he ox oy w).2,.bool _⟩
  ·simp at h
end Go.Ev
