/- A library's sort of a block of our own, whose elements are two integers each: what it leaves, from its contract. -/
import Derived.Test.YtkolcijbdendhaaGreatF08
import Derived.Shelf.GgSortFunc.RowK
set_option linter.unusedVariables false
set_option linter.unusedSimpArgs false
namespace Go.Ev
open Go.RowKit Go.Sort
def enc2 (x:Int×Int):List Value:=[.int .i64 x.1,.int .i64 x.2]
def el2 (x:Int×Int):AV:=.agg [.int .i64 x.1,.int .i64 x.2]
def un2:AV->Option (Int×Int)
 | .agg [.int .i64 a,.int .i64 b]=>some (a,b)
 | _=>none
theorem Rc {x:AV}{y:Int×Int} (h:un2 x=some y):x=el2 y:=by
 unfold un2 at h;split at h
 ·simp at h;subst h;rfl
 ·cases h
structure El where
 α:Type
 inh:Inhabited α
 val:α->Int×Int
 mk?:Int×Int->Option α
 ok:∀ p a,mk? p=some a->val a=p
variable (E:El)
def El.un:AV->Option E.α:=fun x=>(un2 x).bind E.mk?
def El.el (a:E.α):AV:=el2 (E.val a)
def El.enc (a:E.α):List Value:=enc2 (E.val a)
def El.unL:List AV->Option (List E.α)
 | []=>some []
 | x::xs=>match E.un x,El.unL xs with
   | some y,some ys=>some (y::ys)
   | _,_=>none
theorem El.un_eq {x:AV}{y:E.α} (h:E.un x=some y):x=E.el y:=by
 unfold El.un at h;cases hu:un2 x with
 | none=>rw[hu]at h;cases h
 | some p=>
   rw[hu]at h;have:=E.ok p y h;rw[Rc hu,El.el,this]
theorem El.unL_eq:∀ {xs:List AV}{ys:List E.α},E.unL xs=some ys->xs=ys.map E.el
 | [],ys,h=>by simp[El.unL]at h;subst h;rfl
 | x::xs,ys,h=>by
   simp only[El.unL]at h;split at h
   ·rename_i y ys' h1 h2;simp at h;subst h;rw[E.un_eq h1,El.unL_eq h2];rfl
   ·cases h
theorem El.unL_map:∀(ps:List (Int×Int)) (ys:List E.α),ps.mapM E.mk?=some ys->E.unL (ps.map el2)=some ys
 | [],ys,h=>by simpa [El.unL] using h
 | p::ps,ys,h=>by
   simp only[List.mapM_cons,Option.bind_eq_bind,Option.pure_def,Option.bind_eq_some_iff]at h;obtain⟨y,h1,ys',h2,h3⟩:=h;have h4:=El.unL_map ps ys' h2;have h5:E.un (el2 p)=some y:=by simp[El.un,un2,el2,h1]
   simp only[List.map_cons,El.unL,h5,h4];exact h3
def sort2Ext (g:Nat) (S:Array E.α->Array E.α) (args:List AV) (H:List MB):Option (AV×List MB):=
 match args with
 | [.ms id 2 tot 0 n,.clo g' []]=>if n=0/\g' = g then some (.tup [],H) else match getRow H id with
   | some (2,els,0)=>match E.unL els with
     | some ys=>if g' = g/\tot=ys.length/\n=ys.length/\0<ys.length/\ys.length<4611686018427387904 then some (.tup [],H.set id (.row 2 ((S ys.toArray).toList.map E.el) 0)) else none
     | none=>none
   | _=>none
 | [.sl _ [],.clo g' []]=>if g' = g then some (.tup [],H) else none
 | _=>none
theorem GC (w:World) (b:Nat) (f:Array Value->Array Value) {cs:Array Value}{T:TypeId}{fr:Nat×Nat} (h:w.heap[b]?=some (.cells cs T fr)):mapBlock w b f=w.setRow b (f cs):=by
 unfold mapBlock World.setRow;congr 1;apply Array.ext_getElem?;intro k;simp only[Array.getElem?_modify];by_cases hk:b=k
 ·subst hk;simp[h,onCells]
 ·simp[hk]
variable {P:Program}
instance (E:El):Inhabited E.α:=E.inh
theorem SZ (d:Array E.α) (i:Nat) (j:Nat) (hi:i<d.size) (hj:j<2):(flatK E.enc 2 d)[i*2+j]! = (E.enc d[i]!)[j]!:=by
 rw[get_flatK _ _ _ _ (by omega)];have h1:(i*2+j) / 2=i:=by omega
 have h2:(i*2+j) % 2=j:=by omega
 rw[h1,h2]
theorem Fm {f g:Nat}{S:Array E.α->Array E.α} (hS:∀ d,(S d).size=d.size)
  (hent:∀(vs:Array Value) (w:World),(callFunc f vs).run P w=.ok (.enter f vs) w)
  (hnone:∀(p:Option Addr) (cap:Nat) (fv:Value) (w:World),Calls P f #[.slice p 0 cap,fv] w fun e w'=>e=.returned (.tuple #[])/\w' = w)
  (hcon:∀(blk off cap:Nat) (d:Array E.α) (w:World),HoldsK E.enc 2 w blk off d->blk<w.heap.size->d.size<4611686018427387904 ->
    Calls P f #[.slice (some ⟨blk,off,none⟩) d.size cap,.func (.func g) #[] #[]] w fun e w'=>e=.returned (.tuple #[])/\∃(n:Nat) (os:Array Obj),w' = grow (putRowK E.enc 2 (Sort.ahead w n) blk off (S d)) os)
  {args:List AV}{H H':List MB}{r:AV} (h:sort2Ext E g S args H=some (r,H')):CallSound P f args H r H':=by
 unfold sort2Ext at h;split at h
 ·rename_i id tot n g';split at h
  ·rename_i hz;obtain⟨rfl,rfl⟩:=hz;simp at h;obtain⟨rfl,rfl⟩:=h;refine⟨hent,fun B0 w0 w I L vs hinv hargs=>?_⟩;obtain⟨hsz,hat⟩:=hargs;have r0:=hat 0 _ rfl;simp at hsz;have hvs:vs = #[vs.getD 0 undef,vs.getD 1 undef]:=by
    apply Array.ext (by simpa using hsz);intro i h1 h2
    match i with
    | 0=>simp[Array.getD,show 0<vs.size by omega]
    | 1=>simp[Array.getD,show 1<vs.size by omega]
    | k+2=>simp at h2;omega
   generalize hv0:vs.getD 0 undef=v0 at *;generalize hv1:vs.getD 1 undef=v1 at *;subst hvs;have e0:∃ p c,v0=.slice p 0 c:=by
    generalize ha:AV.ms id 2 tot 0 0=a at r0;cases r0 with
    | ms id' k tot off len l' b o c hL ht hk hl' hc hv=>
      simp at ha;obtain⟨_,_,_,_,rfl⟩:=ha;exact⟨_,_,rfl⟩
    | msn id' k l' hL hk=>exact⟨_,_,rfl⟩
    | _=>cases ha
   obtain⟨p,c,rfl⟩:=e0;refine(hnone p c v1 w).mono ?_;rintro e w' ⟨rfl,rfl⟩;exact⟨_,I,L,rfl,hinv,Ext.refl _ _,.tup [] #[] rfl (fun i y h=>by simp at h)⟩
  split at h
  ·rename_i els hr;split at h
   ·rename_i ys hys;split at h
    ·rename_i hc;obtain⟨rfl,rfl,rfl,hpos,hlt⟩:=hc;simp at h;obtain⟨rfl,rfl⟩:=h;have hels:=E.unL_eq hys;subst hels;refine⟨hent,fun B0 w0 w I L vs hinv hargs=>?_⟩;obtain⟨hsz,hat⟩:=hargs;have r0:=hat 0 _ rfl;have r1:=hat 1 _ rfl;simp at hsz;have hvs:vs = #[vs.getD 0 undef,vs.getD 1 undef]:=by
      apply Array.ext (by simpa using hsz);intro i h1 h2
      match i with
      | 0=>simp[Array.getD,show 0<vs.size by omega]
      | 1=>simp[Array.getD,show 1<vs.size by omega]
      | k+2=>simp at h2;omega
     obtain⟨l,hl,hb⟩:=hinv.row hr;have hm:=BF hr;have htot:l.tot=ys.length:=by have:=hb.ht;simpa using this
     generalize hv0:vs.getD 0 undef=v0 at *;generalize hv1:vs.getD 1 undef=v1 at *;subst hvs;have e1:v1=.func (.func g') #[] #[]:=by
      generalize ha:AV.clo g' []=a at r1;cases r1 with
      | clo f cs ws hn hR=>
        simp at ha;obtain⟨rfl,rfl⟩:=ha;have:ws = #[]:=Array.eq_empty_of_size_eq_zero (by simpa using hn);subst this;rfl
      | _=>cases ha
     have e0:∃ c,v0=.slice (some ⟨l.b,l.o,none⟩) ys.length c/\l.sh=0/\l.o+ys.length*2<=l.n:=by
      generalize ha:AV.ms id 2 ys.length 0 ys.length=a at r0;cases r0 with
      | ms id' k tot off len l' b o c hL ht hk hl' hc hv=>
        simp at ha;obtain⟨rfl,rfl,rfl,rfl,rfl⟩:=ha;rw[hl]at hL;obtain rfl:=Option.some.inj hL;obtain⟨s1,s2,s3,s4,s5⟩:=hv htot.symm;have hsh:l.sh=0:=by omega
        have s6:=s3 (by omega);refine⟨c,?_,hsh,?_⟩
        ·rw[s2,s6,hsh];simp
        ·have:=hb.fit;rw[hsh]at this;simpa using this
      | msn id' k l' hL hk=>
        simp at ha;obtain⟨_,_,h0⟩:=ha;rw[h0]at hpos;exact absurd hpos (Nat.lt_irrefl _)
      | _=>cases ha
     obtain⟨c,rfl,hsh,hfit⟩:=e0;subst e1;have hn0:l.n≠0:=by omega
     obtain⟨cs,T,hcs,hcsz,hcell,hfz⟩:=hb.blk hn0;have hcell':∀ i j,i<ys.length->j<2->cs[l.o+(i*2+j)]?=some ((E.enc ys.toArray[i]!)[j]!):=by
      intro i j hi hj;have hx:(ys.map E.el)[i]?=some (E.el ys[i]):=by rw[List.getElem?_map,List.getElem?_eq_getElem hi];rfl
      have hg:ys.toArray[i]! = ys[i]:=by simp[hi]
      rw[hg];obtain⟨v,a1,a2,a3⟩:=hcell i j _ (.int .i64 (if j=0 then(E.val ys[i]).1 else(E.val ys[i]).2)) hx (by
       match j with
       | 0=>rfl
       | 1=>rfl
       | k+2=>omega) (by omega)
      have hv:v=.int .i64 (if j=0 then(E.val ys[i]).1 else(E.val ys[i]).2):=by
       generalize hq:AV.int .i64 (if j=0 then(E.val ys[i]).1 else(E.val ys[i]).2)=q at a3;cases a3 with
       | int k n=>simp at hq;obtain⟨rfl,rfl⟩:=hq;rfl
       | _=>cases hq
      rw[hsh]at a1;rw[show l.o+(i*2+j)=l.o+(i-0)*2+j by omega,a1,hv]
      match j with
      | 0=>rfl
      | 1=>rfl
      | k+2=>omega
     have hH:HoldsK E.enc 2 w l.b l.o ys.toArray:=by
      intro t ht;simp only[size_flatK,List.size_toArray]at ht;have h3:=hcell' (t / 2) (t % 2) (by omega) (by omega);rw[show t / 2*2+t % 2=t by omega]at h3;refine⟨?_,?_⟩
      ·rw[World.cell_of_heap hcs,h3,get_flatK _ _ _ _ (by simpa using ht)];rfl
      ·simp[World.frozen?,hcs]
     have hcall:=hcon l.b l.o c ys.toArray w hH (Array.getElem?_eq_some_iff.1 hcs).1 (by simpa using hlt);simp only[List.size_toArray]at hcall;refine hcall.mono ?_;rintro e w' ⟨rfl,n,os,rfl⟩;have hSs:(S ys.toArray).size=ys.length:=by rw[hS];simp
     have hrow:putRowK E.enc 2 (Sort.ahead w n) l.b l.o (S ys.toArray)=Sort.ahead (w.setRow l.b (putCells (fun v:Value=>v) l.o (flatK E.enc 2 (S ys.toArray)) cs)) n:=by
      unfold putRowK putRow;rw[GC (Sort.ahead w n) l.b _ (cs:=cs) (T:=T) (fr:=(0,0)) hcs];rfl
     rw[hrow]
     obtain⟨hi2,hx⟩:=hinv.write hm hl hn0 ((S ys.toArray).toList.map E.el) l (putCells (fun v:Value=>v) l.o (flatK E.enc 2 (S ys.toArray)) cs) hcs (by simp[putCells])
      hb.hk (by rw[htot];simp[hSs]) rfl rfl rfl rfl (by simp[hSs]) (fun x hx=>by
       obtain⟨y,_,rfl⟩:=List.mem_map.1 hx;rfl) (by simp[hSs,hsh];exact hfit) (fun c hc=>by
       simp only[putCells,Array.getElem?_mapIdx];cases cs[c]? with
       | none=>rfl
       | some y=>rw[Option.map_some,if_neg (by omega)]) (fun i j x y h1 h2 h3=>by
       have hi:i<ys.length:=by
        have:=(List.getElem?_eq_some_iff.1 h1).1
        simpa [hSs] using this
       have hx:x=E.el (S ys.toArray)[i]!:=by
        rw[List.getElem?_map,Option.map_eq_some_iff]at h1;obtain⟨a,e1,e2⟩:=h1;rw[Array.getElem?_toList]at e1;rw[<- e2,getElem!_pos _ i (by omega)];rw[Array.getElem?_eq_getElem (by omega)]at e1;rw[Option.some.inj e1]
       subst hx;have hj:j<2:=by
        have:=(List.getElem?_eq_some_iff.1 h2).1
        simpa [El.el,el2,AV.cells] using this
       have hlt2:l.o+(i*2+j)<cs.size:=by omega
       refine⟨(E.enc (S ys.toArray)[i]!)[j]!,?_,?_,?_⟩
       ·rw[hsh,show l.o+(i-0)*2+j=l.o+(i*2+j) by omega];simp only[putCells,Array.getElem?_mapIdx,Array.getElem?_eq_getElem hlt2,Option.map_some];rw[if_pos ⟨by omega,by simp[hSs];omega⟩,show l.o+(i*2+j)-l.o=i*2+j by omega];rw[SZ E _ _ _ (by omega) hj]
       ·match j with
        | 0=>rfl
        | 1=>rfl
        | k+2=>omega
       ·match j with
        | 0=>simp[El.el,el2,AV.cells]at h2;subst h2;exact .int _ _
        | 1=>simp[El.el,el2,AV.cells]at h2;subst h2;exact .int _ _
        | k+2=>omega)
     have hself:L.set id l=L:=by
      apply List.ext_getElem?;intro k;by_cases hk:id=k
      ·subst hk;rw[List.getElem?_set_self (List.getElem?_eq_some_iff.1 hl).1,hl]
      ·rw[List.getElem?_set_ne hk]
     rw[hself]at hi2;refine⟨_,I,L,rfl,hi2.same ?_ ?_ ?_,Ext.refl _ _,.tup [] #[] rfl (fun i y h=>by simp at h)⟩
     ·refine hi2.below.step ⟨rfl,rfl,rfl,by simp[grow],fun k hk=>?_⟩ (by simp[grow,Sort.ahead]);have:=hi2.base;simp only[grow,heap_ahead];rw[Array.getElem?_append_left (by omega)]
     ·have:=hi2.base;simp only[grow,heap_ahead,Array.size_append];omega
     ·intro b hb;simp only[grow,heap_ahead];rw[Array.getElem?_append_left hb]
    ·cases h
   ·cases h
  ·cases h
 ·rename_i tt g';split at h
  ·simp at h;obtain⟨rfl,rfl⟩:=h;refine⟨hent,fun B0 w0 w I L vs hinv hargs=>?_⟩;obtain⟨hsz,hat⟩:=hargs;have r0:=hat 0 _ rfl;simp at hsz;have hvs:vs = #[vs.getD 0 undef,vs.getD 1 undef]:=by
    apply Array.ext (by simpa using hsz);intro i h1 h2
    match i with
    | 0=>simp[Array.getD,show 0<vs.size by omega]
    | 1=>simp[Array.getD,show 1<vs.size by omega]
    | k+2=>simp at h2;omega
   generalize hv0:vs.getD 0 undef=v0 at *;generalize hv1:vs.getD 1 undef=v1 at *;subst hvs;have e0:∃ p c,v0=.slice p 0 c:=by
    generalize ha:AV.sl tt []=a at r0;cases r0 with
    | nilsl t=>exact⟨_,_,rfl⟩
    | sl t xs b o c k f hc ht hk hI hR=>simp at ha;obtain⟨rfl,rfl⟩:=ha;exact⟨_,_,rfl⟩
    | _=>cases ha
   obtain⟨p,c,rfl⟩:=e0;refine(hnone p c v1 w).mono ?_;rintro e w' ⟨rfl,rfl⟩;exact⟨_,I,L,rfl,hinv,Ext.refl _ _,.tup [] #[] rfl (fun i y h=>by simp at h)⟩
  ·cases h
 ·cases h
end Go.Ev
