/- A library's sort of a block of our own, whose elements are integers or structs of integers, by a comparison that only reads: from the kit's contract. -/
import Derived.Test.YtmfpcondongbjaaGreatM08
import Derived.Shelf.GgSortFunc.RowK
import Derived.Shelf.GgSortFunc.InsertionK
import Derived.Sort.AssemblyPlain
import Derived.Shelf.SlSortCmp.Insertion
set_option linter.unusedVariables false
set_option linter.unusedSimpArgs false
open List (all_eq_true getElem?_eq_getElem getElem_mem length_attach mem_map size_toArray)
open Nat (mul_comm zero_le)
namespace Go.Ev
open Go.RowKit Go.Sort Go.Proofs
def intC:AV->Bool
 | .int .i64 _=>true
 | _=>false
def plainE (k:Nat):AV->Bool
 | .int .i64 _=>decide (k=1)
 | .agg cs=>decide (k≠1)&&(decide (cs.length=k)&&cs.all intC)
 | _=>false
def cV:AV->Value
 | .int .i64 n=>.int .i64 n
 | _=>undef
def encE (x:AV):List Value:=x.cells.map cV
def wrapV (k:Nat) (vs:List Value):Value:=if k=1 then vs.headD undef else .agg vs.toArray
theorem Jf {x:AV} (h:intC x=true):∃ n,x=.int .i64 n:=by
 unfold intC at h;split at h
 ·exact⟨_,rfl⟩
 ·cases h
theorem CJ {k:Nat}{x:AV} (h:plainE k x=true):x.cells.length=k/\∀ c∈x.cells,intC c=true:=by
 unfold plainE at h;split at h
 ·rename_i n;simp at h;subst h;exact⟨rfl,fun c hc=>by simp[AV.cells]at hc;subst hc;rfl⟩
 ·rename_i cs;simp only[Bool.and_eq_true,decide_eq_true_eq]at h;exact⟨h.2.1,fun c hc=>all_eq_true.1 h.2.2 c hc⟩
 ·cases h
theorem G4 {k:Nat}{x:AV} (h:plainE k x=true) {I:Imm}{L:List Lay}:Rep I L x (wrapV k (encE x)):=by
 unfold plainE at h;split at h
 ·rename_i n;simp at h;subst h;exact .int _ _
 ·rename_i cs;simp only[Bool.and_eq_true,decide_eq_true_eq]at h;obtain⟨h1,h2,h3⟩:=h;have hone:∀(i:Nat) (y:AV),cs[i]?=some y->∃ n,y=.int .i64 n:=fun i y hy=>Jf (all_eq_true.1 h3 y (List.mem_of_getElem? hy));unfold wrapV;rw[if_neg h1];have hat:∀ i,i<cs.length->∃ n,cs[i]?=some (.int .i64 n)/\((encE (.agg cs)).toArray).getD i undef=.int .i64 n:=by
   intro i hi;obtain⟨n,hn⟩:=hone i _ (getElem?_eq_getElem hi);refine⟨n,by rw[getElem?_eq_getElem hi,hn],?_⟩;simp[encE,AV.cells,Array.getD_eq_getD_getElem?,hi,hn,cV]
  refine .agg cs _ (by simp[encE,AV.cells]) (fun i hi=>?_) (fun i y hy=>?_)
  ·obtain⟨n,_,e⟩:=hat i (by simpa [encE,AV.cells] using hi);rw[e];rfl
  ·have hi:=(List.getElem?_eq_some_iff.1 hy).1;obtain⟨n,e1,e2⟩:=hat i hi;rw[hy]at e1;rw[Option.some.inj e1,e2];exact .int _ _
 ·cases h
def thwR (H:List MB):AV->Option AV
 | .rf id tot i j=>match getRow H id with
   | some (_,els,_)=>if els.length=tot then
      match els[i]? with
      | some x=>if x.cells.all (AV.under 0)=true then some (.pt (x.cells.drop j)) else none
      | none=>none
     else none
   | none=>none
 | _=>none
def thwRs (H:List MB):List AV->Option (List AV)
 | []=>some []
 | x::xs=>match thwR H x,thwRs H xs with
   | some y,some ys=>some (y::ys)
   | _,_=>none
variable {P:Program}{B0:Nat}{w0:Base}{w:World}{I:Imm}{H:List MB}{L:List Lay}
theorem N1 (hi:Inv B0 w0 I H L w) {x y:AV} (h:thwR H x=some y) {v:Value} (hr:Rep I L x v):Rep (allIn w) [] y v:=by
 unfold thwR at h;split at h
 ·rename_i id tot i j;split at h
  ·rename_i k els z hrow;split at h
   ·rename_i hlen;split at h
    ·rename_i x hx;split at h
     ·rename_i hu;simp at h;subst h;obtain⟨b,o,rfl,hc⟩:=Dc hi hr (cs:=x.cells.drop j) (by simp only[cellsAt,hrow,hlen,if_true,hx]);refine .pt _ b o (fun q=>(w.cell? ⟨b,o+q,none⟩).getD undef) (fun q y hy=>?_) (fun q y hy=>?_)
      ·obtain⟨u,u1,u2,u3⟩:=hc q y hy;show w.cell? _=_/\_;rw[u1];exact⟨rfl,u2⟩
      ·obtain⟨u,u1,u2,u3⟩:=hc q y hy;show Rep _ _ y ((w.cell? _).getD undef);rw[u1];refine hi.all u3 (all_eq_true.1 hu y ?_);exact List.mem_of_mem_drop (List.mem_of_getElem? hy)
     ·cases h
    ·cases h
   ·cases h
  ·cases h
 ·cases h
theorem IX (hi:Inv B0 w0 I H L w):∀ {xs ys:List AV},thwRs H xs=some ys->ys.length=xs.length/\∀(i:Nat) (x y:AV) (v:Value),xs[i]?=some x->ys[i]?=some y->Rep I L x v->Rep (allIn w) [] y v
 | [],ys,h=>by
   simp[thwRs]at h;subst h;exact⟨rfl,fun i x y v h=>by simp at h⟩
 | x::xs,ys,h=>by
   simp only[thwRs]at h;split at h
   ·rename_i y ys' h1 h2;cases h;obtain⟨e1,e2⟩:=IX hi h2;refine⟨by simp[e1],fun i a b v ha hb hr=>?_⟩;cases i with
    | zero=>simp at ha hb;subst ha;subst hb;exact N1 hi h1 hr
    | succ i=>exact e2 i a b v (by simpa using ha) (by simpa using hb) hr
   ·cases h
theorem N0 {id k:Nat}{m:MB}{x y:AV} (h:thwR (H.set id (.row k [] 0)) x=some y):thwR (H.set id m) x=some y:=by
 unfold thwR at h |-;split at h
 ·rename_i id2 tot i j;by_cases e:id=id2
  ·subst e;split at h
   ·rename_i k' els z hrow;have:els=[]:=by
     unfold getRow at hrow;by_cases hl:id<H.length
     ·rw[List.getElem?_set_self hl]at hrow;simp at hrow;exact hrow.2.1
     ·rw[List.getElem?_eq_none (by simp;omega)]at hrow;cases hrow
    subst this;split at h
    ·simp at h
    ·cases h
   ·cases h
  ·have:∀ m:MB,getRow (H.set id m) id2=getRow H id2:=fun m=>by
    unfold getRow;rw[List.getElem?_set_ne e]
   rw[this]at h |-;exact h
 ·cases h
theorem IW {id k:Nat}{m:MB}:∀ {xs ys:List AV},thwRs (H.set id (.row k [] 0)) xs=some ys->thwRs (H.set id m) xs=some ys
 | [],ys,h=>h
 | x::xs,ys,h=>by
   simp only[thwRs]at h |-;split at h
   ·rename_i y ys' h1 h2;rw[N0 h1,IW h2];exact h
   ·cases h
theorem Ot {w w':World} (h:BelowD w.heap.size w w'):∃ q os,w' = grow (w.drewN q) os:=by
 refine⟨w'.drawn-w.drawn,w'.heap.extract w.heap.size w'.heap.size,?_⟩;have hd:=h.drawn;have hh:w'.heap=w.heap++w'.heap.extract w.heap.size w'.heap.size:=by
  have h1:w'.heap.extract 0 w.heap.size=w.heap:=by
   apply Array.ext_getElem?;intro k;rw[Array.getElem?_extract];have:=h.size;by_cases hk:k<w.heap.size
   ·rw[if_pos (by omega),Nat.zero_add];exact h.block k hk
   ·rw[if_neg (by omega),Array.getElem?_eq_none (by omega)]
  have h2:=@Array.extract_append_extract _ w'.heap 0 w.heap.size w'.heap.size;rw[h1]at h2;rw[h2];have:=h.size;simp[Nat.max_eq_right this]
 obtain⟨a1,a2,a3,a4,a5⟩:=w';obtain⟨b1,b2,b3,b4,b5⟩:=w;have e1:=h.os;have e2:=h.tape;have e3:=h.output;simp only[]at e1 e2 e3 hh hd;simp only[grow,World.drewN];congr 1;omega
def SortCon (P:Program) (f k:Nat):Prop:=
 ∀(α:Type) (_:Inhabited α) (enc:α->List Value) (_:∀ x,(enc x).length=k) (_:∀ x,∀ v∈enc x,v.oneCell' = true) (cf:α->α->Int) (_:SWO (ltOf cf)) (g:Nat) (cb:Array Value) (blk off cap:Nat) (d:Array α) (w:World)
  (_:∀ args w,(callFunc g args).run P w=.ok (.enter g args) w)
  (_:∀(m:Nat) (os:Array Obj) (dk:Array α),dk.size=d.size->∀ x y:α,Calls P g (#[wrapV k (enc x),wrapV k (enc y)]++cb) (sortWorldK enc k w blk off m dk os) fun e w'=>e=.returned (.int .i64 (cf x y))/\∃ q os',w' = grow ((sortWorldK enc k w blk off m dk os).drewN q) os')
  (_:HoldsK enc k w blk off d) (_:blk<w.heap.size) (_:d.size<4611686018427387904),
  Calls P f #[.slice (some ⟨blk,off,none⟩) d.size cap,.func (.func g) #[] cb] w fun e w'=>
   e=.returned (.tuple #[])/\∃ n os,w' = sortWorldK enc k w blk off n (pdq (ltOf cf) d 0 d.size (Lib.bitLen d.size) true true) os
theorem Fm (w:World) (b:Nat) (f:Array Value->Array Value) {cs:Array Value}{T:TypeId}{fr:Nat×Nat} (h:w.heap[b]?=some (.cells cs T fr)):mapBlock w b f=w.setRow b (f cs):=by
 unfold mapBlock World.setRow;congr 1;apply Array.ext_getElem?;intro k;simp only[Array.getElem?_modify];by_cases hk:b=k
 ·subst hk;simp[h,onCells]
 ·simp[hk]
abbrev ElT (els:List AV):Type:={ x:AV // x∈els }
def arrE (els:List AV):Array (ElT els):=els.attach.toArray
noncomputable def sortedE (els:List AV) (cf:AV->AV->Int) (hne:Inhabited (ElT els)):List AV:=
 ((@pdq (ElT els) hne (ltOf fun x y=>cf x.1 y.1) (arrE els) 0 (arrE els).size (Lib.bitLen (arrE els).size) true true).toList).map (·.1)
theorem JQ {els:List AV}{cf:AV->AV->Int} (hne:Inhabited (ElT els)) (hO:SWO (ltOf fun x y:ElT els=>cf x.1 y.1)) :
  (sortedE els cf hne).Perm els/\(sortedE els cf hne).Pairwise (fun a b=>¬ cf b a<0):=by
 obtain⟨h1,h2⟩:=pdq_sorts (ltOf fun x y:ElT els=>cf x.1 y.1) hO (arrE els) 0 (arrE els).size (Lib.bitLen (arrE els).size) true true (zero_le _) (Nat.le_refl _) (Or.inl rfl);unfold sortedE;generalize pdq (ltOf fun x y:ElT els=>cf x.1 y.1) (arrE els) 0 (arrE els).size (Lib.bitLen (arrE els).size) true true=r at h1 h2;obtain⟨p1,_,p3⟩:=h1;have e1:r.extract 0 (arrE els).size=r:=by rw[<- p1];exact Array.extract_size
 rw[e1,Array.extract_size]at p3;refine⟨?_,?_⟩
 ·have:=p3.map (·.1)
  rwa [show ((arrE els).toList.map (·.1))=els by simp[arrE]]at this
 ·rw[List.pairwise_map,List.pairwise_iff_getElem];intro i j hi hj hij;have hi':i<r.size:=by simpa using hi
  have hj':j<r.size:=by simpa using hj
  have h3:=h2 i j (zero_le _) hij (by rw[<- p1];exact hj');rw[getElem!_pos _ i hi',getElem!_pos _ j hj']at h3
  simpa [ltOf] using h3
def CmpOk (P:Program) (g:Nat) (cs:List AV) (els:List AV) (cf:AV->AV->Int):Prop:=
 ∀ x∈els,∀ y∈els,∃ K,CallSound P g (x::y::cs) [] (.int .i64 (cf x y)) K
def sortGood (P:Program) (g k:Nat) (cs els:List AV) (cf:AV->AV->Int):Prop:=
 0<k/\els.all (plainE k)=true/\SWO (ltOf fun x y:ElT els=>cf x.1 y.1)/\CmpOk P g cs els cf
open Classical in
noncomputable def sortExt3 (P:Program) (g k:Nat) (cfOf:List AV->AV->AV->Int) (args:List AV) (H:List MB):Option (AV×List MB):=
 match args with
 | [.ms id k' tot 0 n,.clo g' cs]=>if n=0 then some (.tup [],H) else match getRow H id,thwRs (H.set id (.row k [] 0)) cs with
   | some (k'',els,0),some cs'=>
     if h:(g' = g/\k' = k/\k'' = k)/\(tot=els.length/\n=els.length/\els.length<4611686018427387904)/\sortGood P g k cs' els (cfOf cs')/\Nonempty (ElT els) then
      some (.tup [],H.set id (.row k (sortedE els (cfOf cs') ⟨Classical.choice h.2.2.2⟩) 0))
     else none
   | _,_=>none
 | _=>none
theorem F7 {f g k:Nat}{cfOf:List AV->AV->AV->Int} (hent:∀(vs:Array Value) (w:World),(callFunc f vs).run P w=.ok (.enter f vs) w)
  (hentg:∀(vs:Array Value) (w:World),(callFunc g vs).run P w=.ok (.enter g vs) w)
  (hnone:∀(p:Option Addr) (cap:Nat) (fv:Value) (w:World),Calls P f #[.slice p 0 cap,fv] w fun e w'=>e=.returned (.tuple #[])/\w' = w)
  (hcon:SortCon P f k) {args:List AV}{H H':List MB}{r:AV} (h:sortExt3 P g k cfOf args H=some (r,H')):CallSound P f args H r H':=by
 unfold sortExt3 at h;split at h
 ·rename_i id k' tot n g' cs;split at h
  ·rename_i hz;subst hz;simp at h;obtain⟨rfl,rfl⟩:=h;refine⟨hent,fun B0 w0 w I L vs hinv hargs=>?_⟩;obtain⟨hsz,hat⟩:=hargs;have r0:=hat 0 _ rfl;simp at hsz;have hvs:vs = #[vs.getD 0 undef,vs.getD 1 undef]:=by
    apply Array.ext (by simpa using hsz);intro i h1 h2
    match i with
    | 0=>simp[Array.getD,show 0<vs.size by omega]
    | 1=>simp[Array.getD,show 1<vs.size by omega]
    | k+2=>simp at h2;omega
   generalize hv0:vs.getD 0 undef=v0 at *;generalize hv1:vs.getD 1 undef=v1 at *;subst hvs;have e0:∃ p c,v0=.slice p 0 c:=by
    generalize ha:AV.ms id k' tot 0 0=a at r0;cases r0 with
    | ms id' k tot off len l' b o c hL ht hk hl' hc hv=>
      simp at ha;obtain⟨_,_,_,_,rfl⟩:=ha;exact⟨_,_,rfl⟩
    | msn id' k l' hL hk=>exact⟨_,_,rfl⟩
    | _=>cases ha
   obtain⟨p,c,rfl⟩:=e0;refine(hnone p c v1 w).mono ?_;rintro e w' ⟨rfl,rfl⟩;exact⟨_,I,L,rfl,hinv,Ext.refl _ _,.tup [] #[] rfl (fun i y h=>by simp at h)⟩
  rename_i hnz;split at h
  ·rename_i k'' els cs' hr hth;split at h
   ·rename_i hc;obtain⟨⟨e1,e2,e3⟩,⟨e4,e5,hlt⟩,⟨hk0,hpl,hO,hcmp⟩,hne⟩:=hc;simp only[Option.some.injEq,Prod.mk.injEq]at h;obtain⟨rfl,rfl⟩:=h;obtain rfl:g=g':=e1.symm;obtain rfl:k=k':=e2.symm;obtain rfl:k=k'':=e3.symm;subst e4;subst e5
    let inh:Inhabited (ElT els):=⟨Classical.choice hne⟩
    have hplx:∀ x∈els,plainE k x=true:=fun x hx=>all_eq_true.1 hpl x hx;refine⟨hent,fun B0 w0 w I L vs hinv hargs=>?_⟩;obtain⟨hsz,hat⟩:=hargs;have r0:=hat 0 _ rfl;have r1:=hat 1 _ rfl;simp at hsz;have hvs:vs = #[vs.getD 0 undef,vs.getD 1 undef]:=by
     apply Array.ext (by simpa using hsz);intro i h1 h2
     match i with
     | 0=>simp[Array.getD,show 0<vs.size by omega]
     | 1=>simp[Array.getD,show 1<vs.size by omega]
     | k+2=>simp at h2;omega
    obtain⟨l,hl,hb⟩:=hinv.row hr;have hm:=By hr;have htot:l.tot=els.length:=hb.ht;generalize hv0:vs.getD 0 undef=v0 at *;generalize hv1:vs.getD 1 undef=v1 at *;subst hvs;obtain⟨ws,e1,hws,hwR⟩:∃ ws:Array Value,v1=.func (.func g) #[] ws/\ws.size=cs.length/\∀ i y,cs[i]?=some y->Rep I L y (ws.getD i undef):=by
     generalize ha:AV.clo g cs=a at r1;cases r1 with
     | clo f cs ws hn hR=>
       simp at ha;obtain⟨rfl,rfl⟩:=ha;exact⟨ws,rfl,hn,hR⟩
     | _=>cases ha
    have e0:∃ c,v0=.slice (some ⟨l.b,l.o,none⟩) els.length c/\l.sh=0/\l.o+els.length*k<=l.n:=by
     generalize ha:AV.ms id k els.length 0 els.length=a at r0;cases r0 with
     | ms id' k tot off len l' b o c hL ht hk hl' hc hv=>
       simp at ha;obtain⟨rfl,rfl,rfl,rfl,rfl⟩:=ha;rw[hl]at hL;obtain rfl:=Option.some.inj hL;obtain⟨s1,s2,s3,s4,s5⟩:=hv htot.symm;have hsh:l.sh=0:=by omega
       have s6:=s3 (by omega);refine⟨c,?_,hsh,?_⟩
       ·rw[s2,s6,hsh];simp
       ·have:=hb.fit;rw[hsh]at this;simpa using this
     | msn id' k l' hL hk=>
       simp at ha;obtain⟨_,_,h0⟩:=ha;exact absurd (by rw[h0];rfl:els.length=0) hnz
     | _=>cases ha
    obtain⟨c,rfl,hsh,hfit⟩:=e0;subst e1;have hpos:0<els.length:=Nat.pos_of_ne_zero hnz;have hn0:l.n≠0:=by
     have:1*1<=els.length*k:=Nat.mul_le_mul hpos hk0;omega
    obtain⟨bs,T,hcs,hcsz,hcell,hfz⟩:=hb.blk hn0;have hencl:∀ x:ElT els,(encE x.1).length=k:=fun x=>by simp[encE,(CJ (hplx x.1 x.2)).1]
    have henc1:∀ x:ElT els,∀ v∈encE x.1,v.oneCell' = true:=fun x v hv=>by
     obtain⟨c,hc,rfl⟩:=mem_map.1 hv;obtain⟨n,rfl⟩:=Jf ((CJ (hplx x.1 x.2)).2 c hc);rfl
    have hat2:∀(x:ElT els) (j:Nat),j<k->∃ n,x.1.cells[j]?=some (.int .i64 n)/\(encE x.1)[j]! = .int .i64 n:=fun x j hj=>by
     have hl1:=(CJ (hplx x.1 x.2)).1;have hj':j<x.1.cells.length:=by omega
     obtain⟨n,hn⟩:=Jf ((CJ (hplx x.1 x.2)).2 _ (getElem_mem hj'));refine⟨n,by rw[getElem?_eq_getElem hj',hn],?_⟩;simp[encE,hj',hn,cV]
    have hrows:∀(dk:Array (ElT els)) (wq:World) (os:Array Obj) (m:Nat),dk.size=els.length ->
      Inv B0 w0 I (H.set id (.row k (dk.toList.map (·.1)) 0)) L (sortWorldK (fun x:ElT els=>encE x.1) k w l.b l.o m dk os):=by
     intro dk wq os m hdk;have hrow:putRowK (fun x:ElT els=>encE x.1) k (Sort.ahead w m) l.b l.o dk=Sort.ahead (w.setRow l.b (putCells (fun v:Value=>v) l.o (flatK (fun x:ElT els=>encE x.1) k dk) bs)) m:=by
      unfold putRowK putRow;rw[Fm (Sort.ahead w m) l.b _ (cs:=bs) (T:=T) (fr:=(0,0)) hcs];rfl
     unfold sortWorldK;rw[hrow]
     obtain⟨hi2,hx⟩:=hinv.write hm hl hn0 (dk.toList.map (·.1)) l (putCells (fun v:Value=>v) l.o (flatK (fun x:ElT els=>encE x.1) k dk) bs) hcs (by simp[putCells])
      hb.hk (by rw[htot];simp[hdk]) rfl rfl rfl rfl (by simp[hdk]) (fun x hx=>by
       obtain⟨y,_,rfl⟩:=mem_map.1 hx;exact(CJ (hplx y.1 y.2)).1) (by simp[hdk,hsh];exact hfit) (fun c hc=>by
       simp only[putCells,Array.getElem?_mapIdx];cases bs[c]? with
       | none=>rfl
       | some y=>rw[Option.map_some,if_neg (by simp at hc;omega)]) (fun i j x y h1 h2 h3=>by
       have hi:i<els.length:=by
        have:=(List.getElem?_eq_some_iff.1 h1).1
        simpa [hdk] using this
       have hx:x=(dk[i]!).1:=by
        rw[List.getElem?_map,Option.map_eq_some_iff]at h1;obtain⟨a,e1,e2⟩:=h1;rw[Array.getElem?_toList]at e1;rw[<- e2,getElem!_pos _ i (by omega)];rw[Array.getElem?_eq_getElem (by omega)]at e1;rw[Option.some.inj e1]
       subst hx;have hj:j<k:=by
        have:=(List.getElem?_eq_some_iff.1 h2).1;rw[(CJ (hplx _ (dk[i]!).2)).1]at this;exact this
       have hij:i*k+j<els.length*k:=by
        have:(i+1)*k<=els.length*k:=Nat.mul_le_mul_right k hi;rw[Nat.add_mul]at this;omega
       have hlt2:l.o+(i*k+j)<bs.size:=by omega
       obtain⟨nv,c1,c2⟩:=hat2 (dk[i]!) j hj;refine⟨(encE (dk[i]!).1)[j]!,?_,by rw[c2];rfl,?_⟩
       ·rw[hsh,show l.o+(i-0)*k+j=l.o+(i*k+j) by rw[Nat.sub_zero];omega];simp only[putCells,Array.getElem?_mapIdx,Array.getElem?_eq_getElem hlt2,Option.map_some];rw[if_pos ⟨by omega,by simp[hdk];omega⟩,show l.o+(i*k+j)-l.o=i*k+j by omega];rw[get_flatK _ _ _ _ (by rw[hdk];exact hij)];have h1:(i*k+j) / k=i:=by
         rw[mul_comm,Nat.mul_add_div hk0,Nat.div_eq_of_lt hj,Nat.add_zero]
        have h2:(i*k+j) % k=j:=by
         rw[mul_comm,Nat.mul_add_mod,Nat.mod_eq_of_lt hj]
        rw[h1,h2]
       ·rw[c1]at h2;rw[<- Option.some.inj h2,c2];exact .int _ _)
     have hself:L.set id l=L:=by
      apply List.ext_getElem?;intro k;by_cases hk:id=k
      ·subst hk;rw[List.getElem?_set_self (List.getElem?_eq_some_iff.1 hl).1,hl]
      ·rw[List.getElem?_set_ne hk]
     rw[hself]at hi2;refine hi2.same ?_ ?_ ?_
     ·refine hi2.below.step ⟨rfl,rfl,rfl,by simp[grow],fun k hk=>?_⟩ (by simp[grow,Sort.ahead]);have:=hi2.base;simp only[grow,heap_ahead];rw[Array.getElem?_append_left (by omega)]
     ·have:=hi2.base;simp only[grow,heap_ahead,Array.size_append];omega
     ·intro b hb;simp only[grow,heap_ahead];rw[Array.getElem?_append_left hb]
    have hH:HoldsK (fun x:ElT els=>encE x.1) k w l.b l.o (arrE els):=by
     intro t ht;simp only[size_flatK,arrE,size_toArray,length_attach]at ht;have hd:=Nat.div_add_mod t k;have hmod:=Nat.mod_lt t hk0;have hdiv:t / k<els.length:=Nat.div_lt_of_lt_mul (by rw[mul_comm];exact ht);have hx:els[t / k]?=some els[t / k]:=getElem?_eq_getElem hdiv;obtain⟨nv,c1,c2⟩:=hat2 ⟨els[t / k],getElem_mem hdiv⟩ (t % k) hmod;obtain⟨v,a1,a2,a3⟩:=hcell (t / k) (t % k) _ _ hx c1 (by rw[hsh];exact zero_le _);have hv:v=.int .i64 nv:=by
      generalize hq:AV.int .i64 nv=q at a3;cases a3 with
      | int k n=>simp at hq;obtain⟨rfl,rfl⟩:=hq;rfl
      | _=>cases hq
     refine⟨?_,?_⟩
     ·rw[World.cell_of_heap hcs,get_flatK _ _ _ _ (by simpa [arrE] using ht)];have hg:(arrE els)[t / k]! = ⟨els[t / k],getElem_mem hdiv⟩:=by
       rw[getElem!_pos _ _ (by simpa [arrE] using hdiv)];simp[arrE]
      rw[hg];show bs[l.o+t]?=some ((encE els[t / k])[t % k]!);rw[c2,<- hv,<- a1,hsh,Nat.sub_zero];congr 1;rw[mul_comm k]at hd;omega
     ·simp[World.frozen?,hcs]
    have hcall:=hcon (ElT els) inh (fun x=>encE x.1) hencl henc1 (fun x y=>cfOf cs' x.1 y.1) hO g ws l.b l.o c (arrE els) w hentg (fun m os dk hdk x y=>by
     have hdk':dk.size=els.length:=by rw[hdk];simp[arrE]
     have hW:=hrows dk w os m hdk';obtain⟨t1,t2⟩:=IX hW (IW hth);obtain⟨K,c1,c2⟩:=hcmp x.1 x.2 y.1 y.2;have hcap:RepL (allIn (sortWorldK (fun x:ElT els=>encE x.1) k w l.b l.o m dk os)) [] (x.1::y.1::cs') (#[wrapV k (encE x.1),wrapV k (encE y.1)]++ws):=by
      refine⟨by simp[hws,t1];omega,fun i z hz=>?_⟩
      match i,hz with
      | 0,hz=>
        simp at hz;subst hz;have e:(#[wrapV k (encE x.1),wrapV k (encE y.1)]++ws).getD 0 undef=wrapV k (encE x.1):=by
         rw[Array.getD_eq_getD_getElem?,Array.getElem?_append_left (by simp)];rfl
        rw[e];exact G4 (hplx x.1 x.2)
      | 1,hz=>
        simp at hz;subst hz;have e:(#[wrapV k (encE x.1),wrapV k (encE y.1)]++ws).getD 1 undef=wrapV k (encE y.1):=by
         rw[Array.getD_eq_getD_getElem?,Array.getElem?_append_left (by simp)];rfl
        rw[e];exact G4 (hplx y.1 y.2)
      | i+2,hz=>
        have hz':cs'[i]?=some z:=by simpa using hz
        have e:(#[wrapV k (encE x.1),wrapV k (encE y.1)]++ws).getD (i+2) undef=ws.getD i undef:=by
         rw[Array.getD_eq_getD_getElem?,Array.getD_eq_getD_getElem?,Array.getElem?_append_right (by simp)];rfl
        rw[e];have hi:i<cs.length:=by rw[<- t1];exact(List.getElem?_eq_some_iff.1 hz').1
        exact t2 i _ z _ (getElem?_eq_getElem hi) hz' (hwR i _ (getElem?_eq_getElem hi))
     refine(c2 _ _ _ _ [] _ (H5 _) hcap).mono ?_;rintro e w' ⟨v,I',L',rfl,j1,j2,j3⟩;refine⟨?_,Ot j1.below⟩;generalize hq:AV.int .i64 (cfOf cs' x.1 y.1)=q at j3;cases j3 with
     | int k n=>simp at hq;obtain⟨rfl,rfl⟩:=hq;rfl
     | _=>cases hq) hH (Array.getElem?_eq_some_iff.1 hcs).1 (by simpa [arrE] using hlt)
    simp only[arrE,size_toArray,length_attach]at hcall;refine hcall.mono ?_;rintro e w' ⟨rfl,n,os,rfl⟩;have hS:(pdq (ltOf fun x y:ElT els=>cfOf cs' x.1 y.1) (arrE els) 0 (arrE els).size (Lib.bitLen (arrE els).size) true true).size=els.length:=by
     have:=(pdq_sorts (ltOf fun x y:ElT els=>cfOf cs' x.1 y.1) hO (arrE els) 0 (arrE els).size (Lib.bitLen (arrE els).size) true true (zero_le _) (Nat.le_refl _) (Or.inl rfl)).1.1;rw[this];simp[arrE]
    have:=hrows (pdq (ltOf fun x y:ElT els=>cfOf cs' x.1 y.1) (arrE els) 0 (arrE els).size (Lib.bitLen (arrE els).size) true true) w os n hS;simp only[arrE,size_toArray,length_attach]at this;refine⟨_,I,L,rfl,?_,Ext.refl _ _,.tup [] #[] rfl (fun i y h=>by simp at h)⟩;unfold sortedE;simp only[arrE,size_toArray,length_attach];exact this
   ·cases h
  ·cases h
 ·cases h
theorem Gx {g k id n:Nat}{cfOf:List AV->AV->AV->Int}{cs cs' els:List AV}{H:List MB} (hr:getRow H id=some (k,els,0)) (hn:els.length=n) (hl:n<=4000000000) (hth:thwRs (H.set id (.row k [] 0)) cs=some cs') (hk:0<k)
  (hpl:els.all (plainE k)=true) (hO:SWO (ltOf fun x y:ElT els=>cfOf cs' x.1 y.1)) (hcmp:CmpOk P g cs' els (cfOf cs')) :
  ∃ els':List AV,els'.Perm els/\els'.Pairwise (fun a b=>¬ cfOf cs' b a<0)/\sortExt3 P g k cfOf [.ms id k n 0 n,.clo g cs] H=some (.tup [],H.set id (.row k els' 0)):=by
 subst hn;by_cases h0:els.length=0
 ·have he:els=[]:=List.length_eq_zero_iff.1 h0;subst he;refine⟨[],.refl _,.nil,?_⟩;have:H.set id (.row k [] 0)=H:=by
   apply List.ext_getElem?;intro q;by_cases e:id=q
   ·subst e;have hm:=By hr;rw[List.getElem?_set_self (List.getElem?_eq_some_iff.1 hm).1,hm]
   ·rw[List.getElem?_set_ne e]
  simp only[sortExt3,List.length_nil,if_true,this]
 ·obtain⟨x,hx⟩:=List.exists_mem_of_length_pos (Nat.pos_of_ne_zero h0);have hne:Nonempty (ElT els):=⟨⟨x,hx⟩⟩;obtain⟨h1,h2⟩:=JQ (cf:=cfOf cs') ⟨Classical.choice hne⟩ hO;refine⟨_,h1,h2,?_⟩;simp only[sortExt3,hr,hth];rw[if_neg h0,dif_pos ⟨⟨rfl,rfl,rfl⟩,⟨rfl,rfl,by omega⟩,⟨hk,hpl,hO,hcmp⟩,hne⟩]
def cmpI (a b:Int):Int:=if a<b then -1 else if a > b then 1 else 0
theorem EJ {a b:Int}:cmpI a b<0↔a<b:=by
 unfold cmpI;split
 ·simp[*]
 ·split<;>simp[*]
theorem MQ {α:Type} (key:α->Int):SWO (ltOf fun x y:α=>cmpI (key x) (key y)) where
 irrefl x:=by simp[ltOf,EJ]
 trans x y z h1 h2:=by simp only[ltOf,EJ,decide_eq_true_eq]at *;omega
 ntrans x y z h1 h2:=by simp only[ltOf,EJ,decide_eq_false_iff_not]at *;omega
end Go.Ev
