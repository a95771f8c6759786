/- Bytes that a string shares (unsafe.String): what is kept when they are frozen. -/
import Derived.Test.YtoocnmcbfkpdbaaGreatDoorP08
import Derived.Lib.Builder
import Derived.Laws.Tables
import Derived.Lib.UnsafeStr
set_option linter.unusedVariables false
set_option linter.unusedSimpArgs false
open Nat (add_zero le_refl sub_zero zero_add zero_mul)
namespace Go.Ev
variable [VarTab]
set_option linter.unusedSectionVars false
open Go.RowKit
variable {P:Program}{B0:Nat}{w0:Base}{w:World}{I:Imm}{H:List MB}{L:List Lay}
theorem Gj {b o n:Nat} (hn:n≠0) {cs:Array Value}{T:TypeId}{fr:Nat×Nat} (h:w.heap[b]?=some (.cells cs T fr)) :
  ∃ fr':Nat×Nat,(w.freeze ⟨b,o,none⟩ n).heap[b]?=some (.cells cs T fr')/\fr'.2<=max fr.2 (o+n):=by
 obtain⟨lo,hi⟩:=fr;refine⟨if lo==hi then(o,o+n) else(min lo o,max hi (o+n)),?_,?_⟩
 ·unfold World.freeze;rw[if_neg hn];simp[Array.getElem?_modify,h]
 ·split
  ·exact Nat.le_max_right _ _
  ·exact le_refl _
theorem Be {b b' o n:Nat} (h:b'≠b):(w.freeze ⟨b,o,none⟩ n).heap[b']?=w.heap[b']?:=by
 unfold World.freeze;split
 ·rfl
 ·simp only[Array.getElem?_modify];rw[if_neg fun e=>h e.symm]
theorem Gn {b o n:Nat}:(w.freeze ⟨b,o,none⟩ n).heap.size=w.heap.size:=by
 unfold World.freeze;split
 ·rfl
 ·simp
theorem F4 {b o n:Nat}:(w.freeze ⟨b,o,none⟩ n).drawn=w.drawn:=by
 unfold World.freeze;split<;>rfl
theorem Inv.frozen (hi:Inv B0 w0 I H L w) {id k:Nat}{els:List AV}{z:Nat}{l:Lay} (hr:getRow H id=some (k,els,z)) (hl:L[id]?=some l) (hn:l.n≠0) {o n:Nat} (hle:o+n<=l.o+(z-l.sh)*k) :
  Inv B0 w0 I H L (w.freeze ⟨l.b,o,none⟩ n):=by
 by_cases h0:n=0
 ·subst h0;have:w.freeze ⟨l.b,o,none⟩ 0=w:=by unfold World.freeze;rw[if_pos rfl]
  rw[this];exact hi
 obtain⟨t,hm⟩:=BR hr;have hb:=hi.blk id _ l hm hl;obtain⟨cs,T,fr,e1,e2,e3,e4,e5⟩:=hb.blk.blk hn;obtain⟨fr',g1,g2⟩:=Gj (o:=o) h0 e1;refine⟨hi.below.step (Lib.below_freeze (Below.refl B0 w) (hb.blk.hB hn) n) (by rw[F4];exact le_refl _),by rw[Gn];exact hi.base,hi.len,fun id2 m2 l2 hm2 hl2=>?_,hi.inj,⟨fun b c v h=>?_,fun D hD=>?_⟩,hi.old⟩
 ·by_cases e:id=id2
  ·subst e;rw[hm]at hm2;obtain rfl:=Option.some.inj hm2;rw[hl]at hl2;obtain rfl:=Option.some.inj hl2;have hb1:=hb.blk;refine MbOk.mk_of ⟨hb1.hk,hb1.ht,hb1.hsh,hb1.hz,hb1.hB,hb1.wid,hb1.fit,fun _=>⟨cs,T,fr',g1,e2,e3,e4,by omega⟩,hb1.free⟩ fun T' hT=>?_;subst hT;have hy:=And.right hb;obtain⟨cs2,fr2,y2⟩:=hy.ty;rw[e1]at y2;simp only[Option.some.injEq,Obj.cells.injEq]at y2;exact⟨hy.n,hy.o,hy.sh,cs,fr',by rw[g1,y2.2.1]⟩
  ·exact(hi.blk id2 m2 l2 hm2 hl2).heap fun hn2=>Be fun h=>e (hi.inj id id2 l l2 hl hl2 hn hn2 h.symm)
 ·have h1:=hi.imm.c b c v h;by_cases e:b=l.b
  ·subst e;rw[World.cell_of_heap e1]at h1;rw[World.cell_of_heap g1];exact h1
  ·exact Bj h1 (Be e)
 ·have h1:=hi.imm.g D hD;have hne:D≠l.b:=fun e=>by rw[e,e1]at h1;cases h1
  rw[Be hne];exact h1
theorem FS {w:World}:∀(ns:List Int) (a:Addr) (acc:ByteArray),(∀ j n,ns[j]?=some n->w.cell? (a.add j)=some (.int .u8 n)) ->
  (loadBytes a acc ns.length).run P w=.ok (ns.foldl (fun r n=>r.push (UInt8.ofNat n.toNat)) acc) w
 | [],a,acc,_=>by simp[loadBytes]
 | n::ns,a,acc,h=>by
   have h0:w.cell? a=some (.int .u8 n):=by
    have:=h 0 n rfl
    simpa [Addr.add] using this
   have ih:=FS ns (a.add 1) (acc.push n.toNat.toUInt8) (fun j m hm=>by
    have:=h (j+1) m (by simpa using hm);have e:(a.add 1).add j=a.add (j+1):=by
     unfold Addr.add;by_cases hj:j=0
     ·subst hj;simp
     ·simp[hj];omega
    rw[e];exact this)
   simp only[List.length_cons,loadBytes,Sem.run_bind,run_load,h0,Result.andThen,List.foldl_cons];rw[ih]
theorem LF {w:World}{pt it ty e:TypeId} (hp:P.underlying pt=some (.pointer e)) (hc:P.cellsOf e=1) {g cells:Nat} (hsh:w.shape? g=some (e,cells)) {ns:List Int} (h0:ns≠[]) (hn:ns.length<=cells) (h63:ns.length<=9223372036854775807)
  (hcell:∀ j n,ns[j]?=some n->w.cell? ((⟨g,0,none⟩:Addr).add j)=some (.int .u8 n)) :
  (Builtin.unsafeString_ #[pt,it] ty #[.pointer (some ⟨g,0,none⟩),.int .i64 ns.length]).run P w=.ok (.string (strB ns)) (w.freeze ⟨g,0,none⟩ ns.length):=by
 have hl:ns.length≠0:=by simpa using h0
 have hlb:=FS (P:=P) (w:=w) ns ⟨g,0,none⟩ .empty hcell;rw[EK]at hlb;have hlies:=Lib.liesAt_bytes (P:=P) hc (cells / P.cellsOf e) ns.length (by rw[hc];simpa using hn);have h63':¬ (9223372036854775807:Int)<(ns.length:Int):=by omega
 have hdef:Builtin.unsafeString_ #[pt,it] ty #[.pointer (some ⟨g,0,none⟩),.int .i64 ns.length] =
  (do
    let n <- asInt (.int .i64 ns.length)
    if n<0 then runtimePanic (.error "unsafe.String: len out of range")
    if n > IntKind.i64.max then unsupported (.unsafePointer "String: a length above the largest int")
    if n=0 then pure (.string .empty)
    else if <- variablesAt ⟨g,0,none⟩ (<- elemOf pt) n.toNat then do
     let s <- loadBytes ⟨g,0,none⟩ .empty n.toNat
     freeze ⟨g,0,none⟩ n.toNat
     pure (.string s)
    else unsupported (.unsafePointer "String: not so many bytes at ptr")):=rfl
 rw[hdef];have hmax:IntKind.i64.max=9223372036854775807:=rfl;have hneg:¬ (ns.length:Int)<0:=by omega
 simp[asInt,asIntOf,hmax,h63',hneg,hl,variablesAt,hsh,elemOf,run_underlying hp,hlies,hlb]
def ccExt (Ts:List TypeId) (args:List AV) (H:List MB):Option (AV×List MB):=
 match args with
 | [.rf id 1 0 0]=>match H[id]? with
   | some (.tr T 2 [.agg [.nilp,b]] 0)=>if Ts.contains T=true then some (.tup [],H.set id (.row 2 [.agg [.rf id 1 0 0,b]] 0)) else none
   | some (.row 2 [.agg [.rf id' 1 0 0,b]] _)=>if id' = id then some (.tup [],H) else none
   | _=>none
 | _=>none
def bsExt (e:TypeId) (args:List AV) (H:List MB):Option (AV×List MB):=
 match args with
 | [.rf id 1 0 0]=>match getRow H id with
   | some (2,[.agg [_,.psl none 0 0]],_)=>some (.str ByteArray.empty,H)
   | some (2,[.agg [_,.ms bid 1 tot 0 len]],_)=>match H[bid]? with
     | some (.tr T 1 els _)=>if T=e/\len=tot/\els.length=tot/\0<tot/\tot<=4000000000 then(match bytesOf els with
       | some ns=>some (.str (strB ns),mark H bid tot)
       | none=>none) else none
     | _=>none
   | _=>none
 | _=>none
theorem EQ (hi:Inv B0 w0 I H L w) {id k:Nat}{els:List AV}{z:Nat} (hr:getRow H id=some (k,els,z)) (hl:els.length=1) {v:Value} (hv:Rep I L (.rf id 1 0 0) v) :
  ∃ l:Lay,L[id]?=some l/\BlkOk B0 I L w k els z l/\l.sh=0/\v=.pointer (some ⟨l.b,l.o,none⟩):=by
 obtain⟨l,h1,h2⟩:=hi.row hr;generalize ha:AV.rf id 1 0 0=a at hv;cases hv with
 | rf id' tot i j l' b o hL ht hv=>
   cases ha;rw[h1]at hL;obtain rfl:=Option.some.inj hL;obtain⟨s1,s2,s3⟩:=hv (by rw[h2.ht,hl]);have s4:l.sh=0:=by omega
   refine⟨l,h1,h2,s4,?_⟩;rw[s2,s3,s4];simp
 | _=>cases ha
theorem EC {k:Nat}{els:List AV}{z:Nat}{l:Lay} (h:BlkOk B0 I L w k els z l) (hs:l.sh=0) {x y:AV}{j:Nat} (hx:els[0]?=some x) (hy:x.cells[j]?=some y):∃ v,w.cell? ⟨l.b,l.o+j,none⟩=some v/\Rep I L y v:=by
 obtain⟨v,e1,_,e2⟩:=h.cell hx hy (by omega);refine⟨v,?_,e2⟩;rw[<- e1];simp
theorem Hw {x:AV}{vs:Array Value} (h:RepL I L [x] vs):∃ v,vs = #[v]/\Rep I L x v:=by
 obtain⟨h1,h2⟩:=h;refine⟨vs.getD 0 undef,?_,h2 0 x rfl⟩;have h3:vs.size=1:=h1;obtain⟨l⟩:=vs
 match l,h3 with
 | [v],_=>rfl
theorem Jr {f:Nat}{e pt it ty:TypeId} (run:∀(vs:Array Value) (w:World),(callFunc f vs).run P w=.ok (.enter f vs) w)
  (walkN:∀(b o:Nat) (w:World),w.cell? ⟨b,o+1,none⟩=some (.slice none 0 0)->Calls P f #[.pointer (some ⟨b,o,none⟩)] w fun r w'=>r=.returned (.string ByteArray.empty)/\w' = w.drew)
  (walkR:∀(b o g n c:Nat) (s:ByteArray) (w w2:World),w.cell? ⟨b,o+1,none⟩=some (.slice (some ⟨g,0,none⟩) n c)->c≠0 ->
    (Builtin.unsafeString_ #[pt,it] ty #[.pointer (some ⟨g,0,none⟩),.int .i64 n]).run P w.drew=.ok (.string s) w2->Calls P f #[.pointer (some ⟨b,o,none⟩)] w fun r w'=>r=.returned (.string s)/\w' = w2)
  (hp:P.underlying pt=some (.pointer e)) (hc:P.cellsOf e=1) {args:List AV}{H H':List MB}{r:AV} (h:bsExt e args H=some (r,H')):CallSound P f args H r H':=by
 refine⟨run,fun B0 w0 w I L vs hi hvs=>?_⟩;unfold bsExt at h;split at h
 ·rename_i id;obtain⟨v,rfl,hv⟩:=Hw hvs;split at h
  ·rename_i a0 z0 hr;cases h;obtain⟨l,h1,h2,h3,rfl⟩:=EQ hi hr rfl hv;obtain⟨u,u1,u2⟩:=EC h2 h3 (j:=1) (y:=.psl none 0 0) rfl rfl;cases u2;refine(walkN l.b l.o w u1).mono ?_;rintro q w' ⟨rfl,rfl⟩;exact⟨_,I,L,rfl,hi.drew,.refl I L,.str _⟩
  ·rename_i a0 bid tot len z0 hr;split at h
   ·rename_i T els z hb;split at h
    ·rename_i hcd;obtain⟨rfl,rfl,htl,htp,htb⟩:=hcd;split at h
     ·rename_i ns hns;cases h;obtain⟨l,h1,h2,h3,rfl⟩:=EQ hi hr rfl hv;obtain⟨u,u1,u2⟩:=EC h2 h3 (j:=1) (y:=.ms bid 1 len 0 len) rfl rfl;have hrb:getRow H bid=some (1,els,z):=by unfold getRow;rw[hb]
      obtain⟨l',g1,g2⟩:=hi.row hrb;have hmb:=hi.blk bid _ l' hb g1;have hty:TyOk T w l':=And.right hmb;obtain rfl:=DI hns;rw[List.length_map]at htl;generalize ha:AV.ms bid 1 len 0 len=a at u2;cases u2 with
      | ms id' k' tot' off' len' l2 b o c hL ht hk hl hcc hv2=>
        cases ha;rw[g1]at hL;obtain rfl:=Option.some.inj hL;obtain⟨s1,s2,s3,s4,s5⟩:=hv2 (by rw[g2.ht,List.length_map];exact htl.symm);have hc0:c≠0:=by omega
        have ho:=s3 hc0;rw[hty.o,hty.sh]at ho;simp only[sub_zero,zero_mul,add_zero]at ho;subst s2;subst ho;obtain⟨cs,fr,hcs⟩:=hty.ty;have hn0:=hty.n;obtain⟨cs2,T2,fr2,e1,e2,e3,e4,e5⟩:=g2.blk hn0;rw[hcs]at e1;simp only[Option.some.injEq,Obj.cells.injEq]at e1;obtain⟨rfl,rfl,rfl⟩:=e1;have hfit:=g2.fit;rw[hty.o,hty.sh,List.length_map]at hfit;simp only[sub_zero,Nat.mul_one,zero_add]at hfit;have hdrew:w.drew.heap=w.heap:=rfl;have hcell:∀ j n,ns[j]?=some n->w.drew.cell? ((⟨l'.b,0,none⟩:Addr).add j)=some (.int .u8 n):=by
         intro j n hj;obtain⟨q,q1,_,q2⟩:=g2.cell (i:=j) (j:=0) (x:=.int .u8 n) (y:=.int .u8 n) (by simp[hj]) rfl (by rw[hty.sh];omega);rw[hty.o,hty.sh]at q1;simp only[sub_zero,Nat.mul_one,zero_add,add_zero]at q1;cases q2;have ea:(⟨l'.b,0,none⟩:Addr).add j=⟨l'.b,j,none⟩:=by rw[Addr.add_lit,zero_add]
         rw[ea];exact q1
        have hus:=LF (P:=P) (w:=w.drew) (it:=it) (ty:=ty) hp hc (g:=l'.b) (cells:=cs.size) (by simp[World.shape?,hdrew,hcs]) (ns:=ns) (by intro h;subst h;simp at htl;omega) (by omega) (by omega) hcell;rw[htl]at hus;refine(walkR l.b l.o l'.b len c (strB ns) w _ u1 hc0 hus).mono ?_;rintro q w' ⟨rfl,rfl⟩;have hid:=hi.drew;obtain⟨I',i1,i2,_⟩:=hid.mark hrb (n:=len) (by rw[List.length_map];omega);refine⟨_,I',L,rfl,?_,i2.ext L,.str _⟩;have hrm:getRow (mark H bid len) bid=some (1,ns.map (AV.int .u8),max z len):=by
         unfold mark;rw[hrb];have hlt:=(List.getElem?_eq_some_iff.1 hb).1;simp[getRow,hlt]
        refine i1.frozen hrm g1 hn0 ?_;rw[hty.o,hty.sh];omega
      | msn=>cases ha;exact absurd htp (Nat.lt_irrefl 0)
      | _=>cases ha
     ·cases h
    ·cases h
   ·cases h
  ·cases h
 ·cases h
theorem Jp {f:Nat}{Ts:List TypeId}{te:TypeId} (run:∀(vs:Array Value) (w:World),(callFunc f vs).run P w=.ok (.enter f vs) w)
  (walkU:∀(b o:Nat) (w:World),w.cell? ⟨b,o,none⟩=some (.pointer (some ⟨b,o,none⟩))->Calls P f #[.pointer (some ⟨b,o,none⟩)] w fun r w'=>r=.returned (.tuple #[])/\w' = w)
  (walkF:∀(b n:Nat) (T:TypeId) (w:World),Ts.contains T=true->w.cell? ⟨b,0,none⟩=some (.pointer none)->w.shape? b=some (T,n)->2<=n->w.frozen? ⟨b,0,none⟩=false ->
    Calls P f #[.pointer (some ⟨b,0,none⟩)] w fun r w'=>r=.returned (.tuple #[])/\w' = w.setCell ⟨b,0,none⟩ (.pointer (some ⟨b,0,none⟩)))
  {args:List AV}{H H':List MB}{r:AV} (h:ccExt Ts args H=some (r,H')):CallSound P f args H r H':=by
 refine⟨run,fun B0 w0 w I L vs hi hvs=>?_⟩;unfold ccExt at h;split at h
 ·rename_i id;obtain⟨v,rfl,hv⟩:=Hw hvs;split at h
  ·rename_i T b hb;split at h
   ·rename_i hT;cases h;have hr:getRow H id=some (2,[.agg [.nilp,b]],0):=by unfold getRow;rw[hb]
    obtain⟨l,h1,h2,h3,rfl⟩:=EQ hi hr rfl hv;have hty:TyOk T w l:=And.right (hi.blk id _ l hb h1);obtain⟨u,u1,u2⟩:=EC h2 h3 (j:=0) (y:=.nilp) rfl rfl;cases u2;have ho:=hty.o;obtain⟨cs,fr,hcs⟩:=hty.ty;obtain⟨cs2,T2,fr2,e1,e2,e3,e4,e5⟩:=h2.blk hty.n;rw[hcs]at e1;simp only[Option.some.injEq,Obj.cells.injEq]at e1;obtain⟨rfl,rfl,rfl⟩:=e1;have hfit:=h2.fit;rw[ho,h3]at hfit;simp only[List.length_cons,List.length_nil,sub_zero,zero_add,Nat.one_mul]at hfit;rw[ho]at u1 e5 |-;rw[add_zero]at u1;obtain⟨f1,f2⟩:=fr;simp only[Nat.zero_sub,zero_mul,add_zero,Nat.le_zero]at e5;subst e5;refine(walkF l.b cs.size T w hT u1 (by simp[World.shape?,hcs]) (by omega) (by simp[World.frozen?,hcs])).mono ?_;rintro q w' ⟨rfl,rfl⟩;rw[setCell_eq_setRow w l.b 0 cs T _ _ hcs];have hsz:(cs.setIfInBounds 0 (.pointer (some ⟨l.b,0,none⟩))).size=cs.size:=by simp
    obtain⟨k1,k2⟩:=hi.write (t:=some T) (t':=none) hb (fun _ h=>by cases h) h1 hty.n [.agg [.rf id 1 0 0,b]] l (cs.setIfInBounds 0 (.pointer (some ⟨l.b,0,none⟩))) hcs hsz h2.hk h2.ht rfl rfl rfl rfl (le_refl _)
     (fun x hx=>by rw[List.mem_singleton.1 hx];rfl) (by have:=h2.fit;simpa using this)
     (fun c hc=>by rw[ho]at hc;simp at hc)
     (fun i j x y hx hy hs=>by
       rw[ho,h3]
       match i,hx with
       | 0,hx=>
         cases hx
         match j,hy with
         | 0,hy=>
           cases hy;refine⟨_,by simp only[sub_zero,zero_mul,add_zero,Array.getElem?_setIfInBounds,if_true];rw[if_pos (show 0<cs.size by omega)],rfl,?_⟩;exact .rf id 1 0 0 l l.b 0 (List.getElem?_set_self (List.getElem?_eq_some_iff.1 h1).1) (by rw[h2.ht];exact le_refl 1) (fun _=>⟨by omega,rfl,by rw[ho,h3];simp⟩)
         | 1,hy=>
           cases hy;obtain⟨u,q1,q2,q3⟩:=e3 0 1 _ b rfl rfl (by omega);rw[ho,h3]at q1;simp only[sub_zero,zero_mul,zero_add]at q1 |-;refine⟨u,by rw[Array.getElem?_setIfInBounds];simpa using q1,q2,?_⟩;have e9:L.set id l=L:=by
            apply List.ext_getElem?;intro m;by_cases em:id=m
            ·subst em;rw[List.getElem?_set_self (List.getElem?_eq_some_iff.1 h1).1,h1]
            ·rw[List.getElem?_set_ne em]
           rw[e9];exact q3
         | j+2,hy=>simp[AV.cells]at hy
       | i+1,hx=>simp at hx)
    exact⟨_,I,_,rfl,k1,k2,.tup [] #[] rfl (fun i y h=>by simp at h)⟩
   ·cases h
  ·rename_i id' b z hb;split at h
   ·rename_i he;subst he;cases h;have hr:getRow H id' = some (2,[.agg [.rf id' 1 0 0,b]],z):=by unfold getRow;rw[hb]
    obtain⟨l,h1,h2,h3,rfl⟩:=EQ hi hr rfl hv;obtain⟨u,u1,u2⟩:=EC h2 h3 (j:=0) (y:=.rf id' 1 0 0) rfl rfl;obtain⟨l2,g1,_,_,rfl⟩:=EQ hi hr rfl u2;rw[h1]at g1;obtain rfl:=Option.some.inj g1;refine(walkU l.b l.o w (by simpa using u1)).mono ?_;rintro q w' ⟨rfl,rfl⟩;exact⟨_,I,L,rfl,hi,.refl I L,.tup [] #[] rfl (fun i y h=>by simp at h)⟩
   ·cases h
  ·cases h
 ·cases h
end Go.Ev
