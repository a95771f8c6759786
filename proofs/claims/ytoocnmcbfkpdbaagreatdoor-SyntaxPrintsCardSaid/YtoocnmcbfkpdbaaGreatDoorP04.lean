/- What clears a map, or a slice. -/
import Derived.Test.YtoocnmcbfkpdbaaGreatDoorP03
import Derived.RangeFuncIn
import Derived.RangeFuncRecord
import Derived.OrdersIn
set_option linter.unusedVariables false
set_option linter.unusedSimpArgs false
open Nat (add_mul add_zero le_refl le_trans mul_comm not_lt_of_lt sub_self)
open Array (getD_eq_getD_getElem? getElem?_toList map_empty size_eq_zero_iff)
open Option (bind_some map_eq_some_iff map_none map_some)
open List (append_assoc getElem?_append_left getElem?_append_right getElem?_map getElem?_of_mem getElem?_take getElem?_toArray map_cons map_nil mem_cons mem_cons_of_mem mem_cons_self mem_of_getElem? pairwise_cons)
namespace Go.Ev
variable [VarTab]
set_option linter.unusedSectionVars false
open Go.RowKit
variable {P:Program}{B0:Nat}{w0:Base}{w:World}{I:Imm}{H:List MB}{L:List Lay}
theorem E2 (v:Value) (n:Nat):(Builtin.zeroCells #[v] n).toList=List.replicate n v:=by
 simp[Builtin.zeroCells];apply List.ext_getElem
 ·simp
 ·intro i h1 h2;simp[Nat.mod_one]
theorem Hd (hi:Inv B0 w0 I H L w) {T ty e:TypeId}{v:Value}{id k off len tot:Nat} (hx:Rep I L (.ms id k tot off len) v) {els:List AV} (hrow:getRow H id=some (k,els,0)) (he:tyElem P T=some e) {ze:AV} (hz:tyZero P e=some ze)
  (c1:els.length=tot) (c3:1<k) (c4:off+len=tot) (c6:ze.cells.length=k) (c7:ze.cells.all AV.ok=true) :
  ∃ w',(Builtin.clear_ #[T] ty #[v]).run P w=.ok (.tuple #[]) w'/\Inv B0 w0 I (H.set id (.row k (els.take off++List.replicate len ze) 0)) L w':=by
 subst c1;obtain⟨l,hl,hb⟩:=hi.row hrow;obtain⟨tg,hH⟩:=BR hrow;have hst:P.underlying T=some (.slice e):=BP he;by_cases h0:len=0
 ·subst h0;have hsame:els.take off++List.replicate 0 ze=els:=by
   rw[List.replicate_zero,List.append_nil,List.take_of_length_le (by omega)]
  rw[hsame];refine⟨w,?_,hi.untag hH⟩;generalize els.length=tt at hx;cases hx with
  | ms _ _ _ _ _ l2 b o c hL ht hk hl2 hlc hv=>simp[Builtin.clear_,run_underlying hst,Result.andThen]
  | msn=>simp[Builtin.clear_,run_underlying hst,Result.andThen]
 ·generalize htt:els.length=tt at hx;cases hx with
  | msn=>exact absurd rfl h0
  | ms _ _ _ _ _ l2 b o c hL ht hk hl2 hlc hv=>
    rw[hl]at hL;obtain rfl:=Option.some.inj hL;obtain⟨v1,v2,v3,v4,v5⟩:=hv (by rw[hb.ht];exact htt.symm);subst v2;have v3:=v3 (by omega);have hfit:=hb.fit;have hm1:(els.length-l.sh)*k=(off-l.sh)*k+len*k:=by
     rw[<- add_mul];congr 1;omega
    have hlk:0<len*k:=Nat.mul_pos (by omega) (by omega);rw[hm1]at hfit;have hn0:l.n≠0:=by omega
    obtain⟨cs,T0,fr,f1,f2,f3,f4,f9f4⟩:=hb.blk hn0;obtain⟨zv,z1,z2,z3⟩:=BU (I:=I) (L:=L) hz c7;have hzs:zv.cells.size=k:=by rw[z2.1,c6]
    have hvl:(Builtin.zeroCells zv.cells len).toList.length=len*k:=by simp[Builtin.zeroCells,hzs]
    have hvg:∀ i j,i<len->j<k->(Builtin.zeroCells zv.cells len).toList[i*k+j]?=some (zv.cells.getD j undef):=by
     intro i j hi' hj;have hlt:i*k+j<len*k:=by
      have:(i+1)*k<=len*k:=Nat.mul_le_mul_right k hi';rw[add_mul]at this;omega
     have hmod:(i*k+j) % k=j:=by rw[mul_comm,Nat.mul_add_mod,Nat.mod_eq_of_lt hj]
     simp only[Builtin.zeroCells,hzs,getElem?_toList,Array.getElem?_map];rw[Array.getElem?_range,if_pos hlt,map_some,hmod];congr 1;rw[getD_eq_getD_getElem?,getElem!_pos zv.cells j (by omega),Array.getElem?_eq_getElem (by omega)];rfl
    have hone:∀ v∈(Builtin.zeroCells zv.cells len).toList,v.oneCell' = true:=by
     intro v hv;obtain⟨i,hi',hv⟩:=List.getElem_of_mem hv;rw[hvl]at hi';have hkp:0<k:=by omega
     have h1:=hvg (i / k) (i % k) (Nat.div_lt_of_lt_mul (by rw[mul_comm];exact hi')) (Nat.mod_lt _ hkp);rw[show i / k*k+i % k=i by rw[mul_comm];exact Nat.div_add_mod i k]at h1;rw[List.getElem?_eq_getElem (by rw[hvl];exact hi'),hv]at h1;rw[Option.some.inj h1];exact z2.2.1 _ (by rw[hzs];exact Nat.mod_lt _ hkp)
    have hfz:=Nat.mul_le_mul_right k (show 0-l.sh<=off-l.sh by omega);have hst2:=run_storeCells_atF P l.b o T0 fr (Builtin.zeroCells zv.cells len).toList 0 cs w f1 (by omega) (by rw[hvl];omega) hone;generalize hvs:(Builtin.zeroCells zv.cells len).toList=vs at hst2 hvl hvg hone;rw[add_zero]at hst2;have hl1:(cs.toList.take o).length=o:=by simp;omega
    generalize hcs':(cs.toList.take o++vs++cs.toList.drop (o+vs.length)).toArray=cs' at hst2;have hcsz:cs'.size=cs.size:=by
     rw[<- hcs'];simp;omega
    have hlo:∀ c,c<o->cs'[c]?=cs[c]?:=fun c hc=>by
     rw[<- hcs'];simp only[getElem?_toArray];rw[append_assoc,getElem?_append_left (by rw[hl1];exact hc),getElem?_take,if_pos hc];simp
    have hmid:∀ c,c<len*k->cs'[o+c]?=vs[c]?:=fun c hc=>by
     rw[<- hcs'];simp only[getElem?_toArray];rw[append_assoc,getElem?_append_right (by rw[hl1];omega),hl1,getElem?_append_left (by omega)];congr 1;omega
    have hlset:L.set id l=L:=by
     apply List.ext_getElem?;intro q;by_cases e:id=q
     ·subst e;rw[List.getElem?_set_self (List.getElem?_eq_some_iff.1 hl).1,hl]
     ·rw[List.getElem?_set_ne e]
    have htl:(els.take off).length=off:=by rw[List.length_take];omega
    have hnl:(els.take off++List.replicate len ze).length=els.length:=by rw[List.length_append,htl,List.length_replicate];omega
    have hw:=hi.write (t':=none) hH (fun _ h=>by cases h) hl hn0 (els.take off++List.replicate len ze) l cs' f1 hcsz hb.hk (by rw[hnl];exact hb.ht) rfl rfl rfl rfl (by omega) (fun q hq=>by
      rcases List.mem_append.1 hq with h|h
      ·exact hb.wid q (List.mem_of_mem_take h)
      ·rw[List.eq_of_mem_replicate h];exact c6) (by rw[hnl,hm1];omega)
     (fun c hc=>hlo c (by simp at hc;omega))
     (fun i' j' q r g1 g2 g3=>by
       rw[hlset];by_cases hio:i'<off
       ·rw[getElem?_append_left (by omega),getElem?_take,if_pos hio]at g1;obtain⟨u,u1,u2,u3⟩:=f3 i' j' q r g1 g2 g3;refine⟨u,?_,u2,u3⟩;have hj:j'<k:=by rw[<- hb.wid q (mem_of_getElem? g1)];exact(List.getElem?_eq_some_iff.1 g2).1
        have hmm:(i'-l.sh+1)*k<=(off-l.sh)*k:=Nat.mul_le_mul_right k (by omega);rw[add_mul]at hmm;rw[hlo _ (by omega)];exact u1
       ·rw[getElem?_append_right (by omega),htl]at g1;have hlt:i'-off<len:=by have:=(List.getElem?_eq_some_iff.1 g1).1;simpa using this
        rw[List.getElem?_replicate,if_pos hlt]at g1;obtain rfl:=Option.some.inj g1;have hj:j'<k:=by rw[<- c6];exact(List.getElem?_eq_some_iff.1 g2).1
        have hmm:(i'-l.sh)*k=(off-l.sh)*k+(i'-off)*k:=by rw[<- add_mul];congr 1;omega
        have hlt2:(i'-off)*k+j'<len*k:=by
         have:(i'-off+1)*k<=len*k:=Nat.mul_le_mul_right k hlt;rw[add_mul]at this;omega
        refine⟨zv.cells.getD j' undef,?_,z2.2.1 _ (by omega),z2.2.2 j' r g2⟩;rw[hmm,show l.o+((off-l.sh)*k+(i'-off)*k)+j' = o+((i'-off)*k+j') by omega,hmid _ hlt2];exact hvg _ _ hlt hj)
    rw[hlset]at hw;refine⟨_,?_,hw.1⟩;obtain⟨m,rfl⟩:∃ m,len=m+1:=⟨len-1,by omega⟩;simp[Builtin.clear_,run_underlying hst,z1,hvs,hst2,Result.andThen]
theorem Gx (hi:Inv B0 w0 I H L w) {T ty:TypeId}{x:AV}{v:Value} (hx:Rep I L x v) {H':List MB} (h:evClear P H T x=some H') :
  ∃ w',(Builtin.clear_ #[T] ty #[v]).run P w=.ok (.tuple #[]) w'/\Inv B0 w0 I H' L w':=by
 unfold evClear at h;split at h
 ·rename_i id;split at h
  ·rename_i q0 q es hk hg;simp only[Option.some.injEq]at h;subst h;obtain⟨q1,e⟩:=q0;obtain⟨kt,h1,h2⟩:=Cd hk;obtain⟨l,ents,clock,e1,rfl,e3,e4,e5⟩:=D7 hi hg hx;exact⟨_,by simp[Builtin.clear_,run_underlying h1,MapKept.run_getObj_map e3,MapKept.run_setObj_map _ e3,Result.andThen],hi.setMap e5 e1 (ents:=#[]) clock ⟨rfl,fun i k v h=>by simp at h⟩⟩
  ·cases h
 ·rename_i id k tot off len;split at h
  ·rename_i k' els z e hrow he;split at h
   ·rename_i ze hz;split at h
    ·rename_i hc;obtain⟨⟨c1,rfl,rfl⟩,⟨rfl,rfl,rfl⟩,c7⟩:=hc;simp only[Option.some.injEq]at h;subst h;obtain⟨l,hl,hb⟩:=hi.row hrow;obtain⟨tg,hH⟩:=BR hrow;have hst:P.underlying T=some (.slice e):=BP he;by_cases h0:len=0
     ·subst h0;have hels:els=[]:=List.length_eq_zero_iff.1 c1;subst hels;refine⟨w,?_,hi.untag hH⟩;cases hx with
      | ms _ _ _ _ _ l2 b o c hL ht hk hl2 hlc hv=>simp[Builtin.clear_,run_underlying hst,Result.andThen]
      | msn=>simp[Builtin.clear_,run_underlying hst,Result.andThen]
     ·cases hx with
      | msn=>exact absurd rfl h0
      | ms _ _ _ _ _ l2 b o c hL ht hk hl2 hlc hv=>
        rw[hl]at hL;obtain rfl:=Option.some.inj hL;obtain⟨v1,v2,v3,v4,v5⟩:=hv (by rw[hb.ht];exact c1.symm);subst v2;have v3:=v3 (by omega);have hsh:l.sh=0:=by omega
        have hfit:=hb.fit;have hn0:l.n≠0:=by rw[hsh]at hfit;omega
        obtain⟨cs,T0,fr,f1,f2,f3,f4,f9f4⟩:=hb.blk hn0;obtain⟨zv,z1,z2,z3⟩:=BU (I:=I) (L:=L) hz (by
         cases ze<;>simp[AV.cells]<;>first|exact c7|(simp[AV.ok]at c7))
        have hscal:scal zv=true:=z3.scal c7;have hzc:=HL hscal;have ho:o=l.o:=by rw[v3,hsh];simp
        subst ho;have hst2:=run_storeCells_atF P l.b l.o T0 fr (List.replicate len zv) 0 cs w f1 (by simpa using f9f4) (by rw[hsh]at hfit;simp;omega) (fun v hv=>by rw[List.eq_of_mem_replicate hv];exact hscal);generalize hcs':(cs.toList.take (l.o+0)++List.replicate len zv++cs.toList.drop (l.o+0+(List.replicate len zv).length)).toArray=cs' at hst2;have hcsz:cs'.size=cs.size:=by
         rw[<- hcs'];rw[hsh]at hfit;simp;omega
        have hget:∀ c,l.o<=c->c<l.o+len->cs'[c]?=some zv:=by
         intro c g1 g2;rw[<- hcs'];simp only[getElem?_toArray,add_zero];have hl1:(cs.toList.take l.o).length=l.o:=by rw[hsh]at hfit;simp;omega
         rw[append_assoc,getElem?_append_right (by rw[hl1];exact g1),hl1,getElem?_append_left (by simp;omega),List.getElem?_replicate,if_pos (by omega)]
        have hlset:L.set id l=L:=by
         apply List.ext_getElem?;intro q;by_cases e:id=q
         ·subst e;rw[List.getElem?_set_self (List.getElem?_eq_some_iff.1 hl).1,hl]
         ·rw[List.getElem?_set_ne e]
        have hzl:ze.cells=[ze]:=by cases ze<;>first|rfl|(simp[AV.ok]at c7)
        have hw:=hi.write (t':=none) hH (fun _ h=>by cases h) hl hn0 (List.replicate len ze) l cs' f1 hcsz hb.hk (by simp[hb.ht,c1]) rfl rfl rfl rfl (by simp[c1]) (fun q hq=>by rw[List.eq_of_mem_replicate hq,hzl];rfl) (by simpa [c1] using hfit)
         (fun c hc=>by
           simp only[Nat.zero_sub,Nat.zero_mul,add_zero]at hc;rw[<- hcs'];have hl1:(cs.toList.take l.o).length=l.o:=by rw[hsh]at hfit;simp;omega
           simp only[getElem?_toArray,add_zero];rw[append_assoc,getElem?_append_left (by rw[hl1];exact hc),getElem?_take,if_pos hc];simp)
         (fun i' j' q r g1 g2 g3=>by
           rw[hlset];have hlt:=(List.getElem?_eq_some_iff.1 g1).1;simp at hlt;rw[List.getElem?_replicate,if_pos hlt]at g1;obtain rfl:=Option.some.inj g1;rw[hzl]at g2;have hj:j' = 0:=by have:=(List.getElem?_eq_some_iff.1 g2).1;simp at this;omega
           subst hj;simp at g2;subst g2;exact⟨zv,by rw[hsh];rw[hget _ (by omega) (by omega)],hscal,z3⟩)
        rw[hlset]at hw;refine⟨_,?_,hw.1⟩;obtain⟨m,rfl⟩:∃ m,len=m+1:=⟨len-1,by omega⟩;have hzz:=E2 zv (m+1);simp[Builtin.clear_,run_underlying hst,z1,hzc,hzz,hst2,Result.andThen]
    ·split at h
     ·rename_i hc;obtain⟨⟨c1,rfl,c3⟩,⟨c4,rfl,c6⟩,c7⟩:=hc;simp only[Option.some.injEq]at h;subst h;exact Hd hi hx hrow he hz c1 c3 c4 c6 c7
     ·cases h
   ·cases h
  ·cases h
 ·cases h
variable [VarTab]
set_option linter.unusedSectionVars false
open Go.RowKit
variable {P:Program}{B0:Nat}{w0:Base}{w:World}{I:Imm}{H:List MB}{L:List Lay}
def RepL (I:Imm) (L:List Lay) (xs:List AV) (vs:Array Value):Prop:=vs.size=xs.length/\∀ i y,xs[i]?=some y->Rep I L y (vs.getD i undef)
theorem RepL.mono {I':Imm}{L':List Lay} (hx:Ext I L I' L') {xs:List AV}{vs:Array Value} (h:RepL I L xs vs):RepL I' L' xs vs:=⟨h.1,fun i y hi=>(h.2 i y hi).mono hx⟩
def CallSound (P:Program) (f:Nat) (args:List AV) (H:List MB) (r:AV) (H':List MB):Prop:=
 (∀(vs:Array Value) (w:World),(callFunc f vs).run P w=.ok (.enter f vs) w) /\
 ∀(B0:Nat) (w0:Base) (w:World) (I:Imm) (L:List Lay) (vs:Array Value),Inv B0 w0 I H L w->RepL I L args vs ->
  Calls P f vs w (fun e w'=>∃ v I' L',e=.returned v/\Inv B0 w0 I' H' L' w'/\Ext I L I' L'/\Rep I' L' r v)
def wd (ro:Option Nat):Fence:={ fn:=fun _=>True,depth:=none,alive:=false,round:=ro }
def YieldSound (P:Program) (args:List AV) (H:List MB) (r:AV) (H':List MB):Prop:=
 ∀(id:Nat) (as:List AV),args=.yld id::as ->
 ∀(B0:Nat) (w0:Base) (w:World) (I:Imm) (L:List Lay) (l:Nat) (vs:Array Value),Inv B0 w0 I H L w->Rep I L (.yld id) (.func (.yield l) #[] #[])->RepL I L as vs ->
  ∃ f tmps assign body,(Instr.yield l vs).run P w=.ok (.round l f tmps assign body) w /\
    ∀ ro n,RoundIn (wd ro) n P l f tmps assign body w (fun e w'=>∃ v I' L',e=.returned v/\Inv B0 w0 I' H' L' w'/\Ext I L I' L'/\Rep I' L' r v)
def FnOk (P:Program) (cf:CF):Prop:=∀ f args H r H',f≠yldF->cf f args H=some (r,H')->CallSound P f args H r H'
def CfOk (P:Program) (cf:CF):Prop:=FnOk P cf/\∀ args H r H',cf yldF args H=some (r,H')->YieldSound P args H r H'
def nextVal:Next->Option Value
 | .value v=>some v
 | .skip=>some undef
 | _=>none
def isFnCall (o:Oper):Bool:=
 match o.op with
 | .call c=>match c.callee with
   | .builtin _=>false
   | _=>true
 | _=>false
theorem JL {x:AV}{v:Value} (h:Rep I L x v):Rep I L (nilX x) v:=by
 unfold nilX;split
 ·cases h;exact .nilsl true
 ·exact h
theorem IR {T ty:TypeId}{x:AV}{v:Value} (hx:Rep I L x v) {r:AV} (h:evLen P T x=some r) (w:World) :
  ∃ u,(Builtin.len_ #[T] ty #[v]).run P w=.ok u w/\Rep I L r u:=by
 unfold evLen at h;split at h
 ·rename_i e hu;split at h
  ·rename_i t xs;simp at h;subst h;generalize hq2:AV.sl t xs=q at hx;cases hx with
   | nilsl t'=>simp at hq2;obtain⟨_,rfl⟩:=hq2;exact⟨goInt (0:Nat),by simp[Builtin.len_,run_underlying hu],.int _ _⟩
   | sl t' xs' b o c k f hc ht hk hI hR=>
     simp at hq2;obtain⟨_,rfl⟩:=hq2;exact⟨goInt xs.length,by simp[Builtin.len_,run_underlying hu],.int _ _⟩
   | _=>cases hq2
  ·rename_i id k tot off len;simp at h;subst h;cases hx with
   | ms _ _ _ _ _ l b o c hL ht hk2 hl2 hlc hv=>exact⟨goInt len,by simp[Builtin.len_,run_underlying hu],.int _ _⟩
   | msn=>exact⟨goInt (0:Nat),by simp[Builtin.len_,run_underlying hu],.int _ _⟩
  ·rename_i a l c;simp at h;subst h;cases hx with
   | psn l c=>exact⟨goInt l,by simp[Builtin.len_,run_underlying hu],.int _ _⟩
   | pss b o l c=>exact⟨goInt l,by simp[Builtin.len_,run_underlying hu],.int _ _⟩
  ·simp at h
 ·rename_i hu;split at h
  ·rename_i s;simp at h;subst h;cases hx;exact⟨goInt s.size,by simp[Builtin.len_,run_underlying hu],.int _ _⟩
  ·simp at h
 ·rename_i n e hu;simp at h;subst h;exact⟨goInt n,by simp[Builtin.len_,run_underlying hu],.int _ _⟩
 ·rename_i a hu;split at h
  ·rename_i n e hu2;simp at h;subst h;exact⟨goInt n,by simp[Builtin.len_,run_underlying hu,run_underlying hu2],.int _ _⟩
  ·simp at h
 ·simp at h
theorem HV (hi:Inv B0 w0 I H L w) {T ty:TypeId}{x:AV}{v:Value} (hx:Rep I L x v) {r:AV} (h:evLenH P H T x=some r) :
  ∃ u,(Builtin.len_ #[T] ty #[v]).run P w=.ok u w/\Rep I L r u:=by
 unfold evLenH at h;split at h
 ·rename_i id;unfold lenMp at h;split at h
  ·rename_i q q' es hk hg;simp only[Option.some.injEq]at h;subst h;obtain⟨q0,e⟩:=q;obtain⟨kt,h1,h2⟩:=Cd hk;obtain⟨l,ents,clock,e1,rfl,e3,e4,e5⟩:=D7 hi hg hx;refine⟨goInt ents.size,by simp[Builtin.len_,run_underlying h1,MapKept.run_getObj_map e3,Result.andThen],?_⟩;have hs:(ents.size:Int)=es.length:=by rw[<- e4.1];simp
   show Rep I L (.int .i64 es.length) (.int .i64 ents.size);rw[hs];exact .int _ _
  ·cases h
 ·exact IR hx h w
theorem Id {T ty:TypeId}{x:AV}{v:Value} (hx:Rep I L x v) {r:AV} (h:evCap P T x=some r) (w:World) :
  ∃ u,(Builtin.cap_ #[T] ty #[v]).run P w=.ok u w/\Rep I L r u:=by
 unfold evCap at h;split at h
 ·rename_i e hu;split at h
  ·rename_i t xs;split at h
   ·rename_i ht0;simp at h;subst h;generalize hq2:AV.sl t xs=q at hx;cases hx with
    | nilsl t'=>simp at hq2;obtain⟨_,rfl⟩:=hq2;exact⟨goInt (0:Nat),by simp[Builtin.cap_,run_underlying hu],.int _ _⟩
    | sl t' xs' b o c k f hc ht hk hI hR=>
      simp at hq2;obtain⟨e1,rfl⟩:=hq2;have hc2:c=xs.length:=ht (by rw[<- e1];exact ht0);subst hc2;exact⟨goInt xs.length,by simp[Builtin.cap_,run_underlying hu],.int _ _⟩
    | _=>cases hq2
   ·cases h
  ·simp at h
 ·simp at h
theorem FI (hi:Inv B0 w0 I H L w) {ρ:Operand->AV} {ρc:Operand->Value} (hρ:∀ x,Rep I L (ρ x) (ρc x)) {b:Builtin}{ts:Array TypeId}{ty:TypeId}{cs:Array Bool}{args:Array Operand}{r:AV}{H':List MB}
  (h:evBuiltin P b ts.toList (args.toList.map ρ) H=some (r,H')) :
  ∃ u w' I' L',(builtin b ts ty cs (args.map ρc)).run P w=.ok (.value u) w'/\Inv B0 w0 I' H' L' w'/\Ext I L I' L'/\Rep I' L' r u:=by
 obtain⟨ts⟩:=ts;obtain⟨args⟩:=args;unfold evBuiltin at h;simp only[]at h
 match args with
 | []=>simp at h
 | [o]=>
   simp only[map_cons,map_nil]at h;split at h
   ·rename_i T;cases he:evLenH P H T (ρ o) with
    | none=>rw[he]at h;simp at h
    | some q=>
      rw[he]at h;simp at h;obtain⟨rfl,rfl⟩:=h;obtain⟨u,e1,e2⟩:=HV (ty:=ty) hi (hρ o) he;refine⟨u,w,I,L,?_,hi,.refl I L,e2⟩;rw[show (⟨[o]⟩:Array Operand).map ρc = #[ρc o] by simp];show (do pure (.value (<- Builtin.len_ #[T] ty #[ρc o])):Sem Next).run P w=_;simp only[Sem.run_bind,e1,Result.andThen_ok,Sem.run_pure]
   ·rename_i T;cases he:evClear P H T (ρ o) with
    | none=>rw[he]at h;simp at h
    | some H1=>
      rw[he]at h;simp at h;obtain⟨rfl,rfl⟩:=h;obtain⟨w',e1,e2⟩:=Gx (ty:=ty) hi (hρ o) he;refine⟨.tuple #[],w',I,L,?_,e2,.refl I L,.tup [] #[] rfl (fun i y h=>by simp at h)⟩;rw[show (⟨[o]⟩:Array Operand).map ρc = #[ρc o] by simp];show (do pure (.value (<- Builtin.clear_ #[T] ty #[ρc o])):Sem Next).run P w=_;simp only[Sem.run_bind,e1,Result.andThen_ok,Sem.run_pure]
   ·rename_i T;cases he:evCap P T (ρ o) with
    | none=>rw[he]at h;simp at h
    | some q=>
      rw[he]at h;simp at h;obtain⟨rfl,rfl⟩:=h;obtain⟨u,e1,e2⟩:=Id (ty:=ty) (hρ o) he w;refine⟨u,w,I,L,?_,hi,.refl I L,e2⟩;rw[show (⟨[o]⟩:Array Operand).map ρc = #[ρc o] by simp];show (do pure (.value (<- Builtin.cap_ #[T] ty #[ρc o])):Sem Next).run P w=_;simp only[Sem.run_bind,e1,Result.andThen_ok,Sem.run_pure]
   ·simp at h
 | [o,o']=>
   simp only[map_cons,map_nil]at h;split at h
   ·split at h
    ·rename_i sT xT;obtain⟨u,w',I',L',e1,e2,e3,e4⟩:∃ u w' I' L',(Builtin.append_ #[sT,xT] ty #[ρc o,ρc o']).run P w=.ok u w'/\Inv B0 w0 I' _ L' w'/\Ext I L I' L'/\Rep I' L' _ u:=by
      split at h
      ·exact GF (ty:=ty) hi (JL (hρ o)) (hρ o') h
      ·exact FJ (ty:=ty) hi (hρ o) (hρ o') h
     refine⟨u,w',I',L',?_,e2,e3,e4⟩;rw[show (⟨[o,o']⟩:Array Operand).map ρc = #[ρc o,ρc o'] by simp];show (do pure (.value (<- Builtin.append_ #[sT,xT] ty #[ρc o,ρc o'])):Sem Next).run P w=_;simp only[Sem.run_bind,e1,Result.andThen_ok,Sem.run_pure]
    ·simp at h
   ·have hx:=hρ o;have hy:=hρ o';have run2:∀(x y:Value),(builtin .min ⟨ts⟩ ty cs #[x,y]).run P w=((Builtin.min2 x y).run P w).andThen fun v w=>.ok (.value v) w:=by
     intro x y;show (do pure (.value (<- Builtin.min_ ⟨ts⟩ ty #[x,y])):Sem Next).run P w=_;simp only[Builtin.min_,List.foldlM_cons,List.foldlM_nil,bind_pure,Sem.run_bind,Sem.run_pure]
    unfold evMin at h;generalize ρ o=a at *;generalize ρ o' = b at *;cases a<;>cases b<;>simp only[map_none,reduceCtorEq,map_some,Option.some.injEq,Prod.mk.injEq]at h;obtain⟨rfl,rfl⟩:=h;have e1:=run2 (ρc o) (ρc o');rw[show (⟨[o,o']⟩:Array Operand).map ρc = #[ρc o,ρc o'] by simp];generalize ρc o=va at *;generalize ρc o' = vb at *;cases hx;cases hy;exact⟨_,w,I,L,e1,hi,.refl I L,.int _ _⟩
   ·have hx:=hρ o;have hy:=hρ o';have run2:∀(x y:Value),(builtin .max ⟨ts⟩ ty cs #[x,y]).run P w=((Builtin.max2 x y).run P w).andThen fun v w=>.ok (.value v) w:=by
     intro x y;show (do pure (.value (<- Builtin.max_ ⟨ts⟩ ty #[x,y])):Sem Next).run P w=_;simp only[Builtin.max_,List.foldlM_cons,List.foldlM_nil,bind_pure,Sem.run_bind,Sem.run_pure]
    unfold evMax at h;generalize ρ o=a at *;generalize ρ o' = b at *;cases a<;>cases b<;>simp only[map_none,reduceCtorEq,map_some,Option.some.injEq,Prod.mk.injEq]at h;obtain⟨rfl,rfl⟩:=h;have e1:=run2 (ρc o) (ρc o');rw[show (⟨[o,o']⟩:Array Operand).map ρc = #[ρc o,ρc o'] by simp];generalize ρc o=va at *;generalize ρc o' = vb at *;cases hx;cases hy;exact⟨_,w,I,L,e1,hi,.refl I L,.int _ _⟩
   ·simp at h
 | _::_::_::_=>simp at h
theorem Hc (hi:Inv B0 w0 I H L w) {cf:CF}{mu:List Nat} {ρ:Operand->AV} {ρc:Operand->Value} (hρ:∀ x,Rep I L (ρ x) (ρc x)) {o:Oper} (hn:isFnCall o=false) {r:AV}{H':List MB}
  (h:evOp P cf mu ρ H o=some (r,H')) :
  ∃ n u w' I' L',(execOp ρc o).run P w=.ok n w'/\nextVal n=some u/\Inv B0 w0 I' H' L' w'/\Ext I L I' L'/\Rep I' L' r u:=by
 obtain⟨dst,op,type,pos,after,guard⟩:=o;have ofV:∀(s:Sem Value) (u:Value) (w':World),s.run P w=.ok u w'->(do pure (.value (<- s)):Sem Next).run P w=.ok (.value u) w':=by
  intro s u w' hs;simp only[Sem.run_bind,hs,Result.andThen_ok,Sem.run_pure]
 have pureOp:∀(q:Option AV) (s:Sem Value),q.map (fun v=>(v,H))=some (r,H')->(∀ v,q=some v->∃ u,s.run P w=.ok u w/\Rep I L v u) ->
   ∃ n u w' I' L',(do pure (.value (<- s)):Sem Next).run P w=.ok n w'/\nextVal n=some u/\Inv B0 w0 I' H' L' w'/\Ext I L I' L'/\Rep I' L' r u:=by
  intro q s hq hs;cases hqq:q with
  | none=>rw[hqq]at hq;simp at hq
  | some v=>
    rw[hqq]at hq;simp at hq;obtain⟨rfl,rfl⟩:=hq;obtain⟨u,e1,e2⟩:=hs v hqq;exact⟨_,u,w,I,L,ofV s u w e1,rfl,hi,.refl I L,e2⟩
 cases op<;>simp only[evOp]at h
 case move x=>
  simp at h;obtain⟨rfl,rfl⟩:=h;exact⟨_,_,w,I,L,rfl,rfl,hi,.refl I L,hρ x⟩
 case assign x=>
  simp at h;obtain⟨rfl,rfl⟩:=h;exact⟨_,_,w,I,L,rfl,rfl,hi,.refl I L,hρ x⟩
 case pick c a b=>
  split at h
  ·rename_i t hc;simp at h;obtain⟨rfl,rfl⟩:=h;have hcr:=hρ c;rw[hc]at hcr;generalize hvc:ρc c=vc at hcr;cases hcr;refine⟨.value (if t then ρc a else ρc b),if t then ρc a else ρc b,w,I,L,?_,rfl,hi,.refl I L,?_⟩
   ·simp only[execOp,hvc,asBool,Sem.run_bind,Sem.run_pure,Result.andThen_ok]
   ·cases t
    ·exact hρ b
    ·exact hρ a
  ·simp at h
 case alloc e=>
  split at h
  ·rename_i z hz;split at h
   ·rename_i hok;split at h
    ·split at h
     ·rename_i h0;simp at h;obtain⟨rfl,rfl⟩:=h;obtain⟨u,w',L',e1,e2,e3,e4⟩:=GI hi hz hok h0;exact⟨_,u,w',I,L',ofV _ u w' e1,rfl,e2,e3,e4⟩
     ·cases h
    ·simp at h;obtain⟨rfl,rfl⟩:=h;obtain⟨u,w',L',e1,e2,e3,e4⟩:=G7 hi hz hok;exact⟨_,u,w',I,L',ofV _ u w' e1,rfl,e2,e3,e4⟩
   ·simp at h
  ·simp at h
 case box e x=>
  split at h
  ·rename_i hok;split at h
   ·simp at h;obtain⟨rfl,rfl⟩:=h;obtain⟨u,w',I',e1,e2,e3,e4⟩:=D1 (P:=P) hi (hρ x) hok e;exact⟨_,u,w',I',L,ofV _ u w' e1,rfl,e2,e3,e4⟩
   ·simp at h;obtain⟨rfl,rfl⟩:=h;obtain⟨u,w',L',e1,e2,e3,e4⟩:=DR (P:=P) hi (hρ x) hok e;exact⟨_,u,w',I,L',ofV _ u w' e1,rfl,e2,e3,e4⟩
  ·simp at h
 case build t parts=>
  refine pureOp _ _ h (fun v hv=>?_);obtain⟨parts⟩:=parts;have:=G0 (P:=P) hρ hv w
  simpa using this
 case buildSlice t n parts=>
  obtain⟨parts⟩:=parts;split at h
  ·rename_i es hes;split at h
   ·cases hk:tySzE P t with
    | none=>rw[hk]at h;simp at h
    | some k=>
      rw[hk]at h;simp at h;obtain⟨rfl,rfl⟩:=h;obtain⟨u,w',L',e1,e2,e3,e4⟩:=Ct hi hρ hes hk;refine⟨_,u,w',I,L',ofV _ u w' ?_,rfl,e2,e3,e4⟩
      simpa using e1
   ·simp at h;obtain⟨rfl,rfl⟩:=h;obtain⟨u,w',I',e1,e2,e3,e4⟩:=Di hi hρ hes;refine⟨_,u,w',I',L,ofV _ u w' ?_,rfl,e2,e3,e4⟩
    simpa using e1
  ·simp at h
 case load t a=>
  split at h
  ·rename_i cs hcs;exact pureOp _ _ h (fun v hv=>HU hi (hρ a) hcs hv)
  ·simp at h
 case store t a x=>
  cases hq:evStore P H t (ρ a) (ρ x) with
  | none=>rw[hq]at h;simp at h
  | some H1=>
    rw[hq]at h;simp at h;obtain⟨rfl,rfl⟩:=h;obtain⟨w',L',e1,e2,e3⟩:=GQ hi (hρ a) (hρ x) hq;refine⟨.skip,undef,w',I,L',?_,rfl,e2,e3,.tup [] #[] rfl (fun i y h=>by simp at h)⟩;simp only[execOp,Sem.run_bind,e1,Result.andThen_ok,Sem.run_pure]
 case nilCheck x=>
  have hx:=hρ x;split at h
  ·rename_i cs hq;simp at h;obtain⟨rfl,rfl⟩:=h;rw[hq]at hx;generalize hv:ρc x=v at hx;cases hx with
   | pt _ b o f hI hR=>exact⟨.value (.pointer (some ⟨b,o,none⟩)),_,w,I,L,by simp only[execOp,hv];rfl,rfl,hi,.refl I L,.pt cs b o f hI hR⟩
  ·rename_i a b c d hq;simp at h;obtain⟨rfl,rfl⟩:=h;rw[hq]at hx;generalize hv:ρc x=v at hx;cases hx with
   | rf _ _ _ _ l b' o hL ht hvv=>exact⟨.value (.pointer (some ⟨b',o,none⟩)),_,w,I,L,by simp only[execOp,hv];rfl,rfl,hi,.refl I L,.rf a b c d l b' o hL ht hvv⟩
  ·rename_i f cs hq;simp at h;obtain⟨rfl,rfl⟩:=h;rw[hq]at hx;generalize hv:ρc x=v at hx;cases hx with
   | clo _ _ ws hn' hR=>exact⟨.value (.func (.func f) #[] ws),_,w,I,L,by simp only[execOp,hv];rfl,rfl,hi,.refl I L,.clo f cs ws hn' hR⟩
  ·simp at h
 case binOp op t x y yt=>exact pureOp _ _ h (fun v hv=>G3 (hρ x) (hρ y) hv x y w)
 case unOp op t x=>exact pureOp _ _ h (fun v hv=>Iu (hρ x) hv w)
 case convert s d x=>
  split at h
  ·rename_i e he;split at h
   ·rename_i hc;cases hq:strOf H (ρ x) with
    | none=>rw[hq]at h;cases h
    | some b=>
      rw[hq]at h;simp only[map_some,Option.some.injEq,Prod.mk.injEq]at h;obtain⟨rfl,rfl⟩:=h;exact⟨_,_,w,I,L,ofV _ _ w (IH hi (hρ x) he hc.1 hc.2 hq),rfl,hi,.refl I L,.str b⟩
   ·cases h
  ·exact pureOp _ _ h (fun v hv=>FG (hρ x) hv w)
 case makeFunc fn first cap=>
  cases fn<;>simp only[reduceCtorEq]at h;rename_i f;split at h
  ·rename_i h0;simp at h;obtain⟨rfl,rfl⟩:=h;have e1:first = #[]:=size_eq_zero_iff.1 h0
   subst e1;refine⟨.value (.func (.func f) #[] (cap.map ρc)),_,w,I,L,by simp only[execOp,Instr.makeFunc,Sem.run_bind,Sem.run_pure,Result.andThen_ok,map_empty],rfl,hi,.refl I L,.clo f _ _ (by simp) (fun i y hy=>?_)⟩;simp only[getElem?_map,map_eq_some_iff,getElem?_toList]at hy;obtain⟨x,g1,g2⟩:=hy;subst g2;have:(cap.map ρc).getD i undef=ρc x:=by simp[getD_eq_getD_getElem?,g1]
   rw[this];exact hρ x
  split at h
  ·rename_i _ h0;simp at h;obtain⟨rfl,rfl⟩:=h;have e1:cap = #[]:=size_eq_zero_iff.1 h0;subst e1;refine⟨.value (.func (.func f) (first.map ρc) #[]),_,w,I,L,by simp only[execOp,Instr.makeFunc,Sem.run_bind,Sem.run_pure,Result.andThen_ok,map_empty],rfl,hi,.refl I L,.clb f _ _ (by simp) (fun i y hy=>?_)⟩;simp only[getElem?_map,map_eq_some_iff,getElem?_toList]at hy;obtain⟨x,g1,g2⟩:=hy;subst g2;have:(first.map ρc).getD i undef=ρc x:=by simp[getD_eq_getD_getElem?,g1]
   rw[this];exact hρ x
  ·simp at h
 case makeSlice t l c=>
  obtain⟨u,w',L',e1,e2,e3,e4⟩:=D2 hi (hρ l) (hρ c) h;exact⟨_,u,w',I,L',ofV _ u w' e1,rfl,e2,e3,e4⟩
 case slice t x lo hi' mx=>
  split at h
  ·rename_i n e ha;obtain⟨u,e1,rfl,e3⟩:=EM (w:=w) ha hρ h;exact⟨_,u,w,I,L,ofV _ u w e1,rfl,hi,.refl I L,e3⟩
  ·obtain⟨u,e1,rfl,e3⟩:=GR (w:=w) hρ h;exact⟨_,u,w,I,L,ofV _ u w e1,rfl,hi,.refl I L,e3⟩
 case fieldAddr t x f=>exact pureOp _ _ h (fun v hv=>D4 (hρ x) hv)
 case field t x f=>exact pureOp _ _ h (fun v hv=>Gp (hρ x) hv)
 case indexAddr t x i=>exact pureOp _ _ h (fun v hv=>D3 (hρ x) (hρ i) hv)
 case index t x i=>exact pureOp _ _ h (fun v hv=>Gg (hρ x) (hρ i) hv)
 case extract x i=>
  split at h
  ·rename_i vs hq;have hx:=hρ x;rw[hq]at hx;exact pureOp _ _ h (fun v hv=>E8 hx hv)
  ·simp at h
 case call c=>
  obtain⟨callee,args,argTypes⟩:=c;cases callee with
  | builtin b=>
    simp only at h;obtain⟨u,w',I',L',e1,e2,e3,e4⟩:=FI (ty:=type) (cs:=args.map fun | .const _=>true|_=>false) hi hρ h;refine⟨.value u,u,w',I',L',?_,rfl,e2,e3,e4⟩;simp only[execOp,resolve,Sem.run_bind,Sem.run_pure,Result.andThen_ok,invoke];exact e1
  | value f=>simp[isFnCall]at hn
  | invoke a b=>simp[isFnCall]at hn
 case makeMap t r=>
  split at h
  ·rename_i q e hk;split at h
   ·rename_i hr;simp at h;obtain⟨rfl,rfl⟩:=h;obtain⟨u,w',L',e1,e2,e3,e4⟩:=E7 hi hk (rv:=r.map ρc) hr (by cases r with
     | none=>trivial
     | some x=>exact hρ x)
    exact⟨_,u,w',I,L',ofV _ u w' e1,rfl,e2,e3,e4⟩
   ·cases h
  ·cases h
 case lookup t x i c=>exact pureOp _ _ h (fun v hv=>Fx hi (hρ x) (hρ i) hv)
 case mapUpdate t m k x=>
  cases hq:evMapUpd P H t (ρ m) (ρ k) (ρ x) with
  | none=>rw[hq]at h;simp at h
  | some H1=>
    rw[hq]at h;simp at h;obtain⟨rfl,rfl⟩:=h;obtain⟨w',e1,e2⟩:=DT hi (hρ m) (hρ k) (hρ x) hq;refine⟨.skip,undef,w',I,L,?_,rfl,e2,.refl I L,.tup [] #[] rfl (fun i y h=>by simp at h)⟩;simp only[execOp,Sem.run_bind,e1,Result.andThen_ok,Sem.run_pure]
 case insert t m k x=>
  cases hq:evMapUpd P H t (ρ m) (ρ k) (ρ x) with
  | none=>rw[hq]at h;simp at h
  | some H1=>
    rw[hq]at h;simp at h;obtain⟨rfl,rfl⟩:=h;obtain⟨w',e1,e2⟩:=DT hi (hρ m) (hρ k) (hρ x) hq;refine⟨.skip,undef,w',I,L,?_,rfl,e2,.refl I L,.tup [] #[] rfl (fun i y h=>by simp at h)⟩;simp only[execOp,Sem.run_bind,e1,Result.andThen_ok,Sem.run_pure]
 all_goals simp at h
variable [VarTab]
set_option linter.unusedSectionVars false
open Go.RowKit
variable {P:Program}{cf:CF}{B0:Nat}{w0:Base}{w w':World}{I I':Imm}{H:List MB}{L:List Lay}
theorem BT (n:Nat) (x:AV):AV.under n x=true↔∀ c∈x.cells,AV.under n c=true:=by
 have hL:∀ l:List AV,AV.underL n l=true↔∀ c∈l,AV.under n c=true:=by
  intro l
  induction l with
  | nil=>simp[AV.underL]
  | cons a l ih=>simp[AV.underL,ih]
 cases x with
 | agg cs=>simp only[AV.under,AV.cells];exact hL cs
 | _=>simp[AV.cells]
theorem AW (n:Nat) (l:List AV):AV.underL n l=true↔∀ c∈l,AV.under n c=true:=by
 induction l with
 | nil=>simp[AV.underL]
 | cons a l ih=>simp[AV.underL,ih]
theorem Rep.under {a:AV}{v:Value} (h:Rep I L a v):AV.under L.length a=true:=by
 induction h with
 | sl t xs b o c k f hc ht hk hI hR ih=>
   simp only[AV.under];rw[AW];intro x hx;rw[BT];intro y hy;obtain⟨i,hi⟩:=getElem?_of_mem hx;obtain⟨j,hj⟩:=getElem?_of_mem hy;exact ih i j x y hi hj
 | pt cs b o f hI hR ih=>
   simp only[AV.under];rw[AW];intro y hy;obtain⟨j,hj⟩:=getElem?_of_mem hy;exact ih j y hj
 | rf id tot i j l b o hL ht hv=>simp only[AV.under];simp;exact(List.getElem?_eq_some_iff.1 hL).1
 | ms id k tot off len l b o c hL ht hk hl hc hv=>simp only[AV.under];simp;exact(List.getElem?_eq_some_iff.1 hL).1
 | msn id k l hL hk=>simp only[AV.under];simp;exact(List.getElem?_eq_some_iff.1 hL).1
 | mpr id l b hL hv=>simp only[AV.under];simp;exact(List.getElem?_eq_some_iff.1 hL).1
 | yld id l b hL hv=>simp only[AV.under];simp;exact(List.getElem?_eq_some_iff.1 hL).1
 | psn l c=>rfl
 | pss b o l c=>rfl
 | clo f cs ws hn hR ih=>
   simp only[AV.under];rw[AW];intro y hy;obtain⟨j,hj⟩:=getElem?_of_mem hy;exact ih j y hj
 | clb f cs ws hn hR ih=>
   simp only[AV.under];rw[AW];intro y hy;obtain⟨j,hj⟩:=getElem?_of_mem hy;exact ih j y hj
 | agg cs ws hn hs hR ih=>
   simp only[AV.under];rw[AW];intro y hy;obtain⟨j,hj⟩:=getElem?_of_mem hy;exact ih j y hj
 | tup cs ws hn hR ih=>
   simp only[AV.under];rw[AW];intro y hy;obtain⟨j,hj⟩:=getElem?_of_mem hy;exact ih j y hj
 | _=>rfl
theorem Rep.restrict {n:Nat}{a:AV}{v:Value} (h:Rep I L a v) (hu:AV.under n a=true):Rep I (L.take n) a v:=by
 induction h with
 | top v=>exact .top v
 | int k n=>exact .int k n
 | bool b=>exact .bool b
 | str s=>exact .str s
 | nilp=>exact .nilp
 | nilf=>exact .nilf
 | nili=>exact .nili
 | nilm=>exact .nilm
 | nilsl t=>exact .nilsl t
 | sl t xs b o c k f hc ht hk hI hR ih=>
   simp only[AV.under]at hu;rw[AW]at hu;refine .sl t xs b o c k f hc ht hk hI (fun i j x y h1 h2=>ih i j x y h1 h2 ?_);exact(BT n x).1 (hu x (mem_of_getElem? h1)) y (mem_of_getElem? h2)
 | pt cs b o f hI hR ih=>
   simp only[AV.under]at hu;rw[AW]at hu;exact .pt cs b o f hI (fun j y h=>ih j y h (hu y (mem_of_getElem? h)))
 | rf id tot i j l b o hL ht hv=>
   simp only[AV.under]at hu;simp at hu;exact .rf id tot i j l b o (by rw[getElem?_take,if_pos hu];exact hL) ht hv
 | ms id k tot off len l b o c hL ht hk hl hc hv=>
   simp only[AV.under]at hu;simp at hu;exact .ms id k tot off len l b o c (by rw[getElem?_take,if_pos hu];exact hL) ht hk hl hc hv
 | mpr id l b hL hv=>
   simp only[AV.under]at hu;simp at hu;exact .mpr id l b (by rw[getElem?_take,if_pos hu];exact hL) hv
 | yld id l b hL hv=>
   simp only[AV.under]at hu;simp at hu;exact .yld id l b (by rw[getElem?_take,if_pos hu];exact hL) hv
 | psn l c=>exact .psn l c
 | pss b o l c=>exact .pss b o l c
 | msn id k l hL hk=>
   simp only[AV.under]at hu;simp at hu;exact .msn id k l (by rw[getElem?_take,if_pos hu];exact hL) hk
 | clo f cs ws hn hR ih=>
   simp only[AV.under]at hu;rw[AW]at hu;exact .clo f cs ws hn (fun j y h=>ih j y h (hu y (mem_of_getElem? h)))
 | clb f cs ws hn hR ih=>
   simp only[AV.under]at hu;rw[AW]at hu;exact .clb f cs ws hn (fun j y h=>ih j y h (hu y (mem_of_getElem? h)))
 | agg cs ws hn hs hR ih=>
   simp only[AV.under]at hu;rw[AW]at hu;exact .agg cs ws hn hs (fun j y h=>ih j y h (hu y (mem_of_getElem? h)))
 | tup cs ws hn hR ih=>
   simp only[AV.under]at hu;rw[AW]at hu;exact .tup cs ws hn (fun j y h=>ih j y h (hu y (mem_of_getElem? h)))
theorem Rep.bare {a:AV}{v:Value} (h:Rep I L a v) (hu:AV.under 0 a=true) (L2:List Lay):Rep I L2 a v:=by
 have h1:Rep I [] a v:=by simpa using h.restrict hu
 exact h1.mono ⟨.refl I,fun id l h=>by simp at h⟩
theorem Inv.behind (hi:Inv B0 w0 I H L w) {K:List MB}{L':List Lay} (hj:Inv w.heap.size ⟨w,I,true⟩ I' K L' w') (hx:Grows I I'):Inv B0 w0 I' H L w':=by
 have hx2:Ext I L I' L:=⟨hx,(Ext.refl I L).lay⟩;have hb:=hj.below;have h1:Inv B0 w0 I H L w':=hi.same (hi.below.trans (hb.mono hi.base)) (le_trans hi.base hj.base) (fun b h=>hb.block b h);refine⟨h1.below,h1.base,h1.len,fun id m l hm hl=>?_,h1.inj,hj.imm,fun b o h=>?_⟩
 ·
  exact MbOk.mono hx2 (fun hn c=>hj.old l.b c (hi.lay_lt hl hn)) (h1.blk id m l hm hl)
 ·have:=hi.base;rw[hj.old b o (by show b<w.heap.size;omega)];exact hi.old b o h
theorem Ds {f:Nat}{as:List AV}{H1 H' K:List MB}{r0 r:AV} (hu:AV.underL 0 as=true) (hs:CallSound P f as [] r0 K) (hr:rebase H1 (some (r0,K))=some (r,H')) :
  CallSound P f as H1 r H':=by
 refine⟨hs.1,fun B0 w0 w I L us hi hus=>?_⟩;have hi0:Inv w.heap.size ⟨w,I,true⟩ I [] [] w:=⟨BelowD.refl _ _,le_refl _,rfl,fun id m l h=>by simp at h,fun i j l l' h=>by simp at h,hi.imm,fun _ _ _=>rfl⟩;have hus0:RepL I [] as us:=⟨hus.1,fun i y hy=>(hus.2 i y hy).bare ((AW 0 as).1 hu y (mem_of_getElem? hy)) []⟩;refine(hs.2 _ _ w I [] us hi0 hus0).mono ?_;rintro e w' ⟨v,I',L',rfl,hj,hx,hv⟩;have hb:=hi.behind hj hx.imm;unfold rebase at hr;split at hr
 ·rename_i q r1 heq;simp at heq;obtain⟨rfl,rfl⟩:=heq;split at hr
  ·rename_i hu1;simp at hr;obtain⟨rfl,rfl⟩:=hr;exact⟨v,I',L,rfl,hb,⟨hx.imm,(Ext.refl I L).lay⟩,hv.bare hu1 L⟩
  ·simp at hr
 ·rename_i q k tot off len k' els z heq;simp at heq;obtain⟨rfl,rfl⟩:=heq;split at hr
  ·rename_i hu1;simp at hr;obtain⟨rfl,rfl⟩:=hr;have hl1:L'.length=1:=by rw[hj.len];rfl
   obtain⟨l',hl'⟩:∃ l',L' = [l']:=by
    match L',hl1 with
    | [l'],_=>exact⟨l',rfl⟩
   subst hl';have hblk:BlkOk w.heap.size I' [l'] w' k' els z l':=hj.blk 0 _ l' rfl rfl;have hlb:=hblk.hB;have hxx:Ext I' L I' (L++[l']):=CK _ _ _;refine⟨v,I',L++[l'],rfl,⟨hb.below,hb.base,by simp[hb.len],fun id m l hm hl=>?_,fun i j li lj g1 g2 n1 n2 g3=>?_,hb.imm,hb.old⟩,(⟨hx.imm,(Ext.refl I L).lay⟩:Ext I L I' L).trans hxx,?_⟩
   ·by_cases hid:id<L.length
    ·rw[getElem?_append_left hid]at hl;rw[getElem?_append_left (by rw[<- hb.len];exact hid)]at hm;exact MbOk.mono hxx (fun _ _=>rfl) (hb.blk id m l hm hl)
    ·have hie:id=L.length:=by
      have:=(List.getElem?_eq_some_iff.1 hl).1;simp at this;omega
     subst hie;rw[getElem?_append_right (le_refl _),sub_self]at hl;rw[getElem?_append_right (by rw[hb.len];exact le_refl _),hb.len,sub_self]at hm;simp at hm hl;subst hm;subst hl;refine⟨hblk.hk,hblk.ht,hblk.hsh,hblk.hz,fun hn=>le_trans hi.base (hlb hn),hblk.wid,hblk.fit,fun hn=>?_,hblk.free⟩;obtain⟨cs,T,fr,f1,f2,f3,f4,f9f4⟩:=BlkOk.blk hblk hn;refine⟨cs,T,fr,f1,f2,fun i j x y g1 g2 g3=>?_,f4,f9f4⟩;obtain⟨u,u1,u2,u3⟩:=f3 i j x y g1 g2 g3;refine⟨u,u1,u2,u3.bare ?_ _⟩;exact(BT 0 x).1 ((AW 0 els).1 hu1 x (mem_of_getElem? g1)) y (mem_of_getElem? g2)
   ·have hcase:∀(i:Nat) (li:Lay),(L++[l'])[i]?=some li->(L[i]?=some li)∨(i=L.length/\li=l'):=by
     intro i li hli;by_cases h:i<L.length
     ·rw[getElem?_append_left h]at hli;exact .inl hli
     ·rw[getElem?_append_right (by omega)]at hli;have h4:=(List.getElem?_eq_some_iff.1 hli).1;simp at h4;have hie:i-L.length=0:=by omega
      rw[hie]at hli;simp at hli;exact .inr ⟨by omega,hli.symm⟩
    have hne:∀(i:Nat) (li:Lay),L[i]?=some li->li.n≠0->l'.n≠0->li.b≠l'.b:=fun i li h hn hn' e=>by
     have:=hi.lay_lt h hn;have:=hlb hn';omega
    rcases hcase i li g1 with a|⟨a1,a2⟩<;>rcases hcase j lj g2 with b|⟨b1,b2⟩
    ·exact hb.inj i j li lj a b n1 n2 g3
    ·subst b2;exact absurd g3 (hne i li a n1 n2)
    ·subst a2;exact absurd g3.symm (hne j lj b n2 n1)
    ·omega
   ·cases hv with
    | msn _ _ l hL hk=>
      have hll:l' = l:=by simpa using hL
      subst hll;exact .msn _ k l' (by rw[<- hb.len];rw[getElem?_append_right (le_refl _),sub_self];rfl) hk
    | ms _ _ _ _ _ l b o c hL ht hk hl hc hv2=>
      have hll:l' = l:=by simpa using hL
      subst hll;exact .ms _ k tot off len l' b o c (by rw[<- hb.len];rw[getElem?_append_right (le_refl _),sub_self];rfl) ht hk hl hc hv2
  ·simp at hr
 ·simp at hr
theorem FF (hcf:CfOk P cf):FnOk P (evAlone cf):=by
 intro f args H r H' hf h;unfold evAlone at h;split at h
 ·rename_i hu;split at h
  ·rename_i r0 h0;split at h
   ·rename_i h1;simp only[Option.some.injEq,Prod.mk.injEq]at h;obtain⟨rfl,rfl⟩:=h;exact Ds hu (hcf.1 _ _ _ _ _ hf h0) (by simp only[rebase];rw[if_pos h1])
   ·cases h
  ·cases h
 ·cases h
theorem FE (hcf:CfOk P cf) {args:List AV}{H H':List MB}{r:AV} (h:evAlone cf yldF args H=some (r,H')):YieldSound P args H r H':=by
 rintro id as rfl;simp[evAlone,AV.underL,AV.under]at h
variable [VarTab]
set_option linter.unusedSectionVars false
open Go.RowKit
variable {P:Program}{B0:Nat}{w0:Base}{w:World}{I:Imm}{H:List MB}{L:List Lay}
def VarsIn (w:World):Prop:=∀(b j:Nat) (x:IntKind×Int),(VarTab.ints b)[j]?=some x->w.cell? ⟨b,j,none⟩=some (.int x.1 x.2)
theorem Inv.varsIn (hi:Inv B0 w0 I H L w):VarsIn w:=fun b j x h=>hi.imm.c b j _ (I.vars b j x h)
def allIn (w:World) (h:VarsIn w):Imm:=⟨fun b o=>w.cell? ⟨b,o,none⟩,fun _=>false,h⟩
theorem Hn (w:World) (h:VarsIn w):Inv w.heap.size ⟨w,allIn w h,true⟩ (allIn w h) [] [] w:=
 ⟨BelowD.refl _ _,le_refl _,rfl,fun id m l h=>by simp at h,fun i j l l' h=>by simp at h,⟨fun _ _ _ h=>h,fun _ h=>by cases h⟩,fun _ _ _=>rfl⟩
theorem Inv.all (hi:Inv B0 w0 I H L w) {y:AV}{v:Value} (h:Rep I L y v) (hu:AV.under 0 y=true):Rep (allIn w hi.varsIn) [] y v:=
 (h.bare hu []).monoS (fun _ _ _ _ h=>hi.cell h) (Ext.refl (allIn w hi.varsIn) []).lay
theorem Inv.thaw (hi:Inv B0 w0 I H L w) {id k n z:Nat}{els:List AV} (hr:getRow H id=some (k,els,z)) (hn:n=els.length) (hu:∀ x∈els,∀ y∈x.cells,AV.under 0 y=true) {v:Value}
  (h:Rep I L (.ms id k n 0 n) v):Rep (allIn w hi.varsIn) [] (.sl false els) v:=by
 obtain⟨l,hl,hb⟩:=hi.row hr;subst hn;generalize ha:AV.ms id k els.length 0 els.length=a at h;cases h with
 | ms id' k' tot off len l' b o c hL ht hk hl' hc hv=>
   simp at ha;obtain⟨rfl,rfl,rfl,rfl,rfl⟩:=ha;rw[hl]at hL;obtain rfl:=Option.some.inj hL;obtain⟨s1,s2,s3,s4,s5⟩:=hv hb.ht.symm;refine .sl false els b o c k (fun i j=>(w.cell? ⟨b,o+i*k+j,none⟩).getD undef) hc (fun h=>by cases h) hb.wid (fun i j x y h1 h2=>?_) (fun i j x y h1 h2=>?_)
   all_goals
    have hi1:=(List.getElem?_eq_some_iff.1 h1).1;have hn0:l.n≠0:=by
     have hj:=(List.getElem?_eq_some_iff.1 h2).1;rw[hb.wid x (mem_of_getElem? h1)]at hj;have hf:=hb.fit;have:0<(els.length-l.sh)*k:=Nat.mul_pos (by omega) (by omega);omega
    obtain⟨cs,T,fr,hcs,hcsz,hcell,hfz,f9hfz⟩:=hb.blk hn0;obtain⟨u,a1,a2,a3⟩:=hcell i j x y h1 h2 (by omega);have hsh:l.sh=0:=by omega
    have e1:=s3 (by omega);rw[hsh]at a1 e1;have e2:w.cell? ⟨b,o+i*k+j,none⟩=some u:=by
     rw[s2,World.cell_of_heap hcs,e1,<- a1];simp
   ·show w.cell? _=_/\_;rw[e2];exact⟨rfl,a2⟩
   ·show Rep _ _ y ((w.cell? _).getD undef);rw[e2];exact hi.all a3 (hu x (mem_of_getElem? h1) y (mem_of_getElem? h2))
 | msn id' k' l' hL hk=>
   simp at ha;obtain⟨_,_,h0⟩:=ha;rw[h0];exact .nilsl false
 | _=>cases ha
theorem JT {r:AV} (h:r.lone=true) {I I':Imm}{L L':List Lay}{v:Value} (hv:Rep I' L' r v):Rep I L r v:=by
 cases hv with
 | int k n=>exact .int k n
 | bool b=>exact .bool b
 | str s=>exact .str s
 | _=>simp[AV.lone]at h
theorem HF {f:Nat}{as as0:List AV}{r:AV}{K:List MB} (hl:r.lone=true) (hs:CallSound P f as0 [] r K)
  (hrel:∀(B0:Nat) (w0:Base) (w:World) (I:Imm) (L:List Lay) (us:Array Value) (hi:Inv B0 w0 I H L w),RepL I L as us->RepL (allIn w hi.varsIn) [] as0 us):CallSound P f as H r H:=by
 refine⟨hs.1,fun B0 w0 w I L us hi hus=>?_⟩;refine(hs.2 _ _ w (allIn w hi.varsIn) [] us (Hn w hi.varsIn) (hrel _ _ _ _ _ _ hi hus)).mono ?_;rintro e w' ⟨v,I',L',rfl,hj,hx,hv⟩;have hb:=hj.below;exact⟨_,I,L,rfl,hi.same (hi.below.trans (hb.mono hi.base)) (le_trans hi.base hj.base) (fun b h=>hb.block b h),Ext.refl _ _,JT hl hv⟩
theorem GO (hi:Inv B0 w0 I H L w) {x y:AV}{v:Value} (h:thw1 H x=some y) (hv:Rep I L x v):Rep (allIn w hi.varsIn) [] y v:=by
 have pl:AV.under 0 x=true->y=x->Rep (allIn w hi.varsIn) [] y v:=fun hu e=>by rw[e];exact hi.all hv hu
 cases x with
 | ms id k tot off len=>
   simp only[thw1]at h;split at h
   ·rename_i k' els z hr;split at h
    ·rename_i hc;obtain⟨h1,rfl,rfl,rfl,h2⟩:=hc;cases h;exact hi.thaw hr h1.symm (fun x hx y hy=>by
      have:=List.all_eq_true.1 h2 x hx;exact(AW 0 x.cells).1 this y hy) hv
    ·cases h
   ·cases h
 | _=>
   simp only[thw1]at h;split at h
   ·rename_i hu;exact pl hu (Option.some.inj h).symm
   ·cases h
theorem GM (hi:Inv B0 w0 I H L w):∀ {xs ys:List AV},thwL H xs=some ys->ys.length=xs.length/\∀(i:Nat) (y:AV),ys[i]?=some y->∃ x:AV,xs[i]?=some x/\thw1 H x=some y
 | [],ys,h=>by
   simp only[thwL,Option.some.injEq]at h;subst h;exact⟨rfl,fun i y h=>by simp at h⟩
 | x::xs,ys,h=>by
   simp only[thwL]at h;split at h
   ·rename_i y ys' h1 h2;cases h;obtain⟨e1,e2⟩:=GM hi h2;refine⟨by simp[e1],fun i z hz=>?_⟩;cases i with
    | zero=>exact⟨x,rfl,by simp at hz;rw[<- hz];exact h1⟩
    | succ i=>exact e2 i z (by simpa using hz)
   ·cases h
theorem KB (hi:Inv B0 w0 I H L w) {x y:AV}{v:Value} (h:thw H x=some y) (hv:Rep I L x v):Rep (allIn w hi.varsIn) [] y v:=by
 cases x with
 | agg cs=>
   simp only[thw,map_eq_some_iff]at h;obtain⟨ys,h1,rfl⟩:=h;obtain⟨e1,e2⟩:=GM hi h1;generalize ha:AV.agg cs=a at hv;cases hv with
   | agg cs' ws hn hs hR=>
     simp at ha;subst ha;refine .agg ys ws (by rw[hn,e1]) hs fun i y hy=>?_;obtain⟨x,hx,ht⟩:=e2 i y hy;exact GO hi ht (hR i x hx)
   | _=>cases ha
 | _=>exact GO hi (by simpa only[thw] using h) hv
theorem GN (hi:Inv B0 w0 I H L w):∀ {xs ys:List AV},thwA H xs=some ys->ys.length=xs.length/\∀(i:Nat) (y:AV),ys[i]?=some y->∃ x:AV,xs[i]?=some x/\thw H x=some y
 | [],ys,h=>by
   simp only[thwA,Option.some.injEq]at h;subst h;exact⟨rfl,fun i y h=>by simp at h⟩
 | x::xs,ys,h=>by
   simp only[thwA]at h;split at h
   ·rename_i y ys' h1 h2;cases h;obtain⟨e1,e2⟩:=GN hi h2;refine⟨by simp[e1],fun i z hz=>?_⟩;cases i with
    | zero=>exact⟨x,rfl,by simp at hz;rw[<- hz];exact h1⟩
    | succ i=>exact e2 i z (by simpa using hz)
   ·cases h
theorem F7 {cf:CF} (hcf:CfOk P cf):FnOk P (evThaw cf):=by
 intro f args H r H' hf h;unfold evThaw at h;split at h
 ·rename_i as ha;split at h
  ·rename_i r0 K h0;split at h
   ·rename_i hl;simp only[Option.some.injEq,Prod.mk.injEq]at h;obtain⟨rfl,rfl⟩:=h;refine HF hl (hcf.1 _ _ _ _ _ hf h0) fun B0 w0 w I L us hi hus=>?_;obtain⟨e1,e2⟩:=GN hi ha;obtain⟨hsz,hat⟩:=hus;refine⟨by rw[hsz,e1],fun i y hy=>?_⟩;obtain⟨x,hx,ht⟩:=e2 i y hy;exact KB hi ht (hat i x hx)
   ·cases h
  ·cases h
 ·cases h
theorem F6 {cf:CF} (hcf:CfOk P cf) {args:List AV}{H H':List MB}{r:AV} (h:evThaw cf yldF args H=some (r,H')):YieldSound P args H r H':=by
 rintro id as rfl;have e:thw1 H (.yld id)=none:=by simp[thw1,AV.under]
 simp[evThaw,thwA,thw,e]at h
variable [VarTab]
set_option linter.unusedSectionVars false
open Go.RowKit
variable {P:Program}{B0:Nat}{w0:Base}{w:World}{I0:Imm}{L0:List Lay}
theorem Ec:∀ {t:Tm}{d:Nat}{v:AV},look t d=some v->(d,v)∈t
 | (k,u)::t,d,v,h=>by
   simp only[look]at h;split at h
   ·rename_i e;simp at h;subst h;subst e;exact mem_cons_self
   ·exact mem_cons_of_mem _ (Ec h)
abbrev Desc (t:Tm):Prop:=t.Pairwise fun a b=>b.1<a.1
theorem Fz {d:Nat}{v:AV}:∀ {t:Tm}{q:Nat×AV},q∈ins d v t->q=(d,v)∨(q∈t/\q≠(d,v))
 | [],q,h=>by simp[ins]at h;exact .inl h
 | (k,u)::t,q,h=>by
   by_cases e:q=(d,v)
   ·exact .inl e
   ·refine .inr ⟨?_,e⟩;simp only[ins]at h;split at h
    ·rcases mem_cons.1 h with h|h
     ·exact absurd h e
     ·exact mem_cons_of_mem _ h
    ·split at h
     ·rcases mem_cons.1 h with h|h
      ·exact absurd h e
      ·exact h
     ·rcases mem_cons.1 h with h|h
      ·rw[h];exact mem_cons_self
      ·rcases Fz h with h|h
       ·exact absurd h e
       ·exact mem_cons_of_mem _ h.1
theorem Kc {d:Nat}{v:AV}{t:Tm}{q:Nat×AV} (h:q∈ins d v t):q.1=d∨q∈t:=by
 rcases Fz h with rfl|h
 ·exact .inl rfl
 ·exact .inr h.1
theorem DC (d:Nat) (v:AV):∀ t:Tm,Desc t->Desc (ins d v t)
 | [],_=>by simp[ins]
 | (k,u)::t,h=>by
   obtain⟨h1,h2⟩:=pairwise_cons.1 h;simp only[ins];split
   ·rename_i e;subst e;exact pairwise_cons.2 ⟨h1,h2⟩
   ·split
    ·rename_i e;refine pairwise_cons.2 ⟨fun q hq=>?_,h⟩;rcases mem_cons.1 hq with rfl|hq
     ·exact e
     ·have:=h1 q hq;simp only[]at this |-;omega
    ·rename_i e1 e2;refine pairwise_cons.2 ⟨fun q hq=>?_,DC d v t h2⟩;rcases Kc hq with hq|hq
     ·simp only[hq];omega
     ·exact h1 q hq
theorem JY (d:Nat) (v:AV):∀ t:Tm,(d,v)∈ins d v t
 | []=>by simp[ins]
 | (k,u)::t=>by
   simp only[ins];split
   ·exact mem_cons_self
   ·split
    ·exact mem_cons_self
    ·exact mem_cons_of_mem _ (JY d v t)
theorem Jl {t:Tm} (h:Desc t) {p q:Nat×AV} (hp:p∈t) (hq:q∈t) (e:p.1=q.1):p=q:=by
 induction t with
 | nil=>cases hp
 | cons a t ih=>
   obtain⟨h1,h2⟩:=pairwise_cons.1 h;rcases mem_cons.1 hp with hp1|hp1<;>rcases mem_cons.1 hq with hq1|hq1
   ·rw[hp1,hq1]
   ·have:=h1 q hq1;rw[hp1]at e;omega
   ·have:=h1 p hp1;rw[hq1]at e;omega
   ·exact ih h2 hp1 hq1
theorem LM {d:Nat}{v:AV}{t:Tm} (h:Desc t) {q:Nat×AV} (hq:q∈ins d v t) (hne:q≠(d,v)):d≠q.1:=fun e=>
 hne (Jl (DC d v t h) hq (JY d v t) e.symm)
theorem Cc {d e:Nat}{v:AV} (hne:d≠e):∀ t:Tm,look (ins d v t) e=look t e
 | []=>by simp[ins,look,hne]
 | (k,u)::t=>by
   simp only[ins];split
   ·rename_i h;subst h;simp[look,hne]
   ·split
    ·simp[look,hne]
    ·simp only[look,Cc hne t]
theorem Ge {d e:Nat}{v u:AV} (hne:d≠e):∀ t:Tm,ins d v (ins e u t)=ins e u (ins d v t)
 | []=>by
   simp only[ins];repeat' split
   all_goals first|rfl|omega
 | (k,x)::t=>by
   have ih:=Ge (v:=v) (u:=u) hne t;rcases Nat.lt_trichotomy k d with h1|h1|h1<;>rcases Nat.lt_trichotomy k e with h2|h2|h2<;>rcases Nat.lt_trichotomy d e with h3|h3|h3
   all_goals first
    | omega
    | (subst h1;simp[ins,Nat.ne_of_gt,Nat.ne_of_lt,not_lt_of_lt, *];done)
    | (subst h2;simp[ins,Nat.ne_of_gt,Nat.ne_of_lt,not_lt_of_lt, *];done)
    | (have a1:k≠d:=by omega
       have a2:k≠e:=by omega
       have a3:d≠e:=by omega
       have a4:e≠d:=by omega
       simp[ins,a1,a2,a3,a4,h1,h2,h3,not_lt_of_lt h1,not_lt_of_lt h2,not_lt_of_lt h3,ih])
theorem TmOk.at {I:Imm}{L:List Lay}{n:Nat}{t:Tm}{vs:Array Value} (h:TmOk I L n t vs) {d:Nat}{v:AV} (hl:look t d=some v):Rep I L v (vs.getD d undef):=
 (h.2.2 _ (Ec hl)).2
theorem TmOk.mono {I:Imm}{L:List Lay}{I':Imm}{L':List Lay} (hx:Ext I L I' L') {n:Nat}{t:Tm}{vs:Array Value} (h:TmOk I L n t vs):TmOk I' L' n t vs:=
 ⟨h.1,h.2.1,fun q hq=>⟨(h.2.2 q hq).1,(h.2.2 q hq).2.mono hx⟩⟩
theorem TmOk.sub {I:Imm}{L:List Lay}{n:Nat}{t t':Tm}{vs:Array Value} (h:TmOk I L n t vs) (hs:t'.Sublist t):TmOk I L n t' vs:=
 ⟨h.1,h.2.1.sublist hs,fun q hq=>h.2.2 q (hs.subset hq)⟩
theorem GW (d:Nat):∀ t:Tm,(rem1 d t).Sublist t
 | []=>.slnil
 | (k,v)::t=>by
   simp only[rem1];split
   ·exact List.sublist_cons_self _ _
   ·exact(GW d t).cons_cons _
theorem Fg:∀(l:List Nat) (t:Tm),(dropT l t).Sublist t
 | [],t=>List.Sublist.refl t
 | d::l,t=>(Fg l _).trans (GW d t)
theorem FX (l:Option (List Nat)) (t:Tm):(keepT l t).Sublist t:=by
 cases l with
 | none=>exact List.Sublist.refl t
 | some l=>exact List.filter_sublist
theorem Gf {I:Imm}{L:List Lay}{vs:Array Value}{n:Nat}:∀(as:List AV) (i:Nat) (acc:Tm),(∀ j y,as[j]?=some y->i+j<n/\Rep I L y (vs.getD (i+j) undef)) ->
  (∀ q∈acc,q.1<i)->TmOk I L n acc vs->TmOk I L n (initT i as acc) vs
 | [],i,acc,_,_,h=>h
 | a::as,i,acc,h1,h2,h=>by
   refine Gf as (i+1) ((i,a)::acc) (fun j y hy=>?_) (fun q hq=>?_) ⟨h.1,pairwise_cons.2 ⟨fun q hq=>h2 q hq,h.2.1⟩,fun q hq=>?_⟩
   ·have:=h1 (j+1) y (by simpa using hy)
    rwa [show i+(j+1)=i+1+j by omega]at this
   ·rcases mem_cons.1 hq with rfl|hq
    ·show i<i+1;omega
    ·have:=h2 q hq;omega
   ·rcases mem_cons.1 hq with rfl|hq
    ·simpa using h1 0 a rfl
    ·exact h.2.2 q hq
def mkD (D:Nat):Deferred:={ target:=.collected D,args:=#[] }
def DfOk (B0:Nat) (fx:Bool) (I0 I:Imm) (ds:List Deferred):Prop:=∃ l:List Nat,ds=l.map mkD/\l.Nodup/\(fx=true->l=[])/\∀ D∈l,I.g D=true/\I0.g D=false/\B0<=D
theorem DfOk.nil {B0:Nat}{fx:Bool}{I0 I:Imm}:DfOk B0 fx I0 I []:=⟨[],rfl,.nil,fun _=>rfl,fun D h=>by simp at h⟩
theorem DfOk.mono {B0:Nat}{fx:Bool}{I0 I I':Imm}{L L':List Lay}{ds:List Deferred} (h:DfOk B0 fx I0 I ds) (hx:Ext I L I' L'):DfOk B0 fx I0 I' ds:=by
 obtain⟨l,h1,h2,h4,h3⟩:=h;exact⟨l,h1,h2,h4,fun D hD=>⟨hx.imm.g _ (h3 D hD).1,(h3 D hD).2⟩⟩
def StOk (B0:Nat) (w0:Base) (I0:Imm) (L0:List Lay) (s:St) (a:Act) (w:World):Prop:=
 ∃ I L,Inv B0 w0 I s.h L w/\Ext I0 L0 I L/\DfOk B0 w0.fx I0 I a.defers/\TmOk I L s.n s.t a.tmps
theorem StOk.defers {s:St}{a:Act} (h:StOk B0 w0 I0 L0 s a w) (hf:w0.fx=true):a.defers=[]:=by
 obtain⟨I,L,_,_,⟨l,h1,_,h2,_⟩,_⟩:=h;rw[h1,h2 hf];rfl
theorem StOk.drew {s:St}{a:Act} (h:StOk B0 w0 I0 L0 s a w):StOk B0 w0 I0 L0 s a w.drew:=by
 obtain⟨I,L,h1,h2⟩:=h;exact⟨I,L,h1.drew,h2⟩
theorem KN {I:Imm}{L:List Lay} (v:Value):Rep I L (ofK v) v:=by
 cases v with
 | agg cs=>
   show Rep I L (if cs.toList.all Value.oneCell' = true then .agg (cs.toList.map ofC) else .top) _;split
   ·rename_i h;have hs:∀ i,i<cs.size->scal (cs.getD i undef)=true:=fun i hi=>by
     have hi':i<cs.toList.length:=by simpa using hi
     have:=List.all_eq_true.1 h (cs.toList[i]) (List.getElem_mem hi');have e:cs.getD i undef=cs.toList[i]:=by simp[getD_eq_getD_getElem?,hi]
     rw[e];exact this
    refine .agg _ cs (by simp) hs (fun i y hy=>?_);simp only[getElem?_map,map_eq_some_iff]at hy;obtain⟨v,hv,rfl⟩:=hy;have hi:i<cs.size:=by simpa using (List.getElem?_eq_some_iff.1 hv).1
    have e:cs.getD i undef=v:=by
     rw[getElem?_toList]at hv;simp[getD_eq_getD_getElem?,hv]
    have h2:=hs i hi;rw[e]at h2 |-;exact BB v h2
   ·exact .top _
 | tuple vs=>
   show Rep I L (if vs.size=0 then .tup [] else .top) _;split
   ·rename_i h;have e1:vs = #[]:=size_eq_zero_iff.1 h;subst e1;exact .tup [] #[] rfl (fun i y h=>by simp at h)
   ·exact .top _
 | bool b=>exact BB (.bool b) rfl
 | int k n=>exact BB (.int k n) rfl
 | string s=>exact BB (.string s) rfl
 | pointer a=>exact BB (.pointer a) rfl
 | nilFunc=>exact BB .nilFunc rfl
 | nilIface=>exact BB .nilIface rfl
 | map r=>exact BB (.map r) rfl
 | slice a n c=>exact BB (.slice a n c) rfl
 | func fn first cap=>exact BB (.func fn first cap) rfl
 | _=>exact .top _
theorem De {I:Imm}{L:List Lay}{s:St}{a:Act} (h:TmOk I L s.n s.t a.tmps) (x:Operand):Rep I L (s.ev x) (a.eval x):=by
 cases x with
 | tmp t=>
   show Rep I L (lookD s.t t) (a.tmps.getD t undef);unfold lookD;cases hq:look s.t t with
   | some y=>exact h.at hq
   | none=>exact .top _
 | const v=>exact KN v
 | global g=>
   show Rep I L (match VarTab.ints g with
    | []=>.top
    | x::l=>.pt ((x::l).map fun q=>AV.int q.1 q.2)) (.pointer (some ⟨g,0,none⟩))
   cases hg:VarTab.ints g with
   | nil=>exact .top _
   | cons x l=>
     have key:∀(j:Nat) (y:AV),((x::l).map fun q=>AV.int q.1 q.2)[j]?=some y->∃ n,(x::l)[j]?=some n/\y=.int n.1 n.2:=fun j y hy=>by
      rw[getElem?_map]at hy;obtain⟨n,h1,h2⟩:=map_eq_some_iff.1 hy;exact⟨n,h1,h2.symm⟩
     refine .pt _ g 0 (fun q=>.int ((x::l).getD q (.i64,0)).1 ((x::l).getD q (.i64,0)).2) (fun j y hy=>?_) (fun j y hy=>?_)
     ·obtain⟨n,h1,rfl⟩:=key j y hy;have e:(x::l).getD j (.i64,0)=n:=by rw[List.getD_eq_getElem?_getD,h1];rfl
      refine⟨?_,rfl⟩;simp only[e];rw[Nat.zero_add];exact I.vars g j n (by rw[hg];exact h1)
     ·obtain⟨n,h1,rfl⟩:=key j y hy;have e:(x::l).getD j (.i64,0)=n:=by rw[List.getD_eq_getElem?_getD,h1];rfl
      simp only[e];exact .int n.1 n.2
 | func f=>exact .clo f [] #[] rfl (fun i y h=>by simp at h)
theorem Cn {I:Imm}{L:List Lay}{s:St}{a:Act} (h:TmOk I L s.n s.t a.tmps) (d:Option Tmp) {x:AV}{v:Value} (hv:Rep I L x v) (H:List MB) :
  TmOk I L (({ s with h:=H }:St).put d x).n ((({ s with h:=H }:St).put d x).t) ((a.put d v).tmps):=by
 cases d with
 | none=>exact h
 | some i=>
   show TmOk I L s.n (if i<s.n then ins i x s.t else s.t) (a.tmps.setIfInBounds i v);by_cases hi:i<s.n
   ·simp only[hi,if_true];refine⟨by simp[h.1],DC i x s.t h.2.1,fun q hq=>?_⟩;rcases Fz hq with rfl|⟨h1,h2⟩
    ·have:i<a.tmps.size:=by rw[h.1];exact hi
     refine⟨hi,?_⟩
     simpa [getD_eq_getD_getElem?,this] using hv
    ·have hne:i≠q.1:=LM h.2.1 hq h2;have:(a.tmps.setIfInBounds i v).getD q.1 undef=a.tmps.getD q.1 undef:=by
      simp[getD_eq_getD_getElem?,Array.getElem?_setIfInBounds_ne hne]
     rw[this];exact h.2.2 q h1
   ·simp only[hi,if_false];have e:a.tmps.setIfInBounds i v=a.tmps:=by
     have hs:=h.1;apply Array.ext
     ·simp
     ·intro j h1 h2;have hne:i≠j:=fun e=>hi (by rw[e,<- h.1];exact h2);exact Array.getElem_setIfInBounds_ne h2 hne
    rw[e];exact h
theorem CR (s:St) (d:Option Tmp) (x:AV):(s.put d x).h=s.h:=by cases d<;>rfl
theorem put_defers (a:Act) (d:Option Tmp) (v:Value):(a.put d v).defers=a.defers:=by cases d<;>rfl
theorem DJ {I:Imm}{L:List Lay}{ops:Array Oper}{s:St}{a:Act} (h:TmOk I L s.n s.t a.tmps) {o:Oper}{b:Bool} (hw:evWanted ops.toList s o=some b) :
  Region.wanted o (yielded ops a.tmps)=b:=by
 unfold evWanted at hw;unfold Region.wanted;cases hg:o.guard with
 | none=>rw[hg]at hw;simpa using hw
 | some p=>
   obtain⟨j,wnt⟩:=p;rw[hg]at hw;simp only[getElem?_toList]at hw;simp only[yielded];cases hj:ops[j]? with
   | none=>
     rw[hj]at hw;simp at hw;simp[hw]
   | some q=>
     rw[hj]at hw;simp only[bind_some]at hw |-;cases hd:q.dst with
     | none=>rw[hd]at hw;simp at hw;simp[hw]
     | some d=>
       rw[hd]at hw;simp only[bind_some]at hw |-;cases ht:look s.t d with
       | none=>rw[ht]at hw;simp at hw
       | some y=>
         rw[ht]at hw;have hr:=h.at ht;have hlt:d<a.tmps.size:=by rw[h.1];exact(h.2.2 _ (Ec ht)).1
         have hget:a.tmps[d]?=some (a.tmps.getD d undef):=by simp[getD_eq_getD_getElem?,hlt]
         rw[hget];generalize a.tmps.getD d undef=v at *;cases y with
         | bool c=>
           cases hr;simp at hw;subst hw;simp
         | tup vs=>
           cases vs with
           | nil=>
             cases hr;simp at hw;subst hw;simp
           | cons _ _=>simp at hw
         | _=>simp at hw
theorem Et {ρ:Operand->AV} {ρc:Operand->Value}{I:Imm}{L:List Lay} (hρ:∀ x,Rep I L (ρ x) (ρc x)) {f:Operand}{g:Nat}{cs:List AV} (hf:ρ f=.clo g cs) (args:Array Operand) (ty:TypeId) (ats:Array TypeId)
  (hg:∀(vs:Array Value) (w:World),(callFunc g vs).run P w=.ok (.enter g vs) w) (w:World) :
  ∃ vs,(do let d <- resolve ρc { callee:=.value f,args:=args,argTypes:=ats } ty;invoke d.target d.args:Sem Next).run P w=.ok (.enter g vs) w/\RepL I L (args.toList.map ρ++cs) vs:=by
 have hr:=hρ f;rw[hf]at hr;generalize hv:ρc f=v at hr;cases hr with
 | clo _ _ ws hn hR=>
   refine⟨args.map ρc++ws,?_,?_,?_⟩
   ·simp only[resolve,hv,Deferred.ofValue,Sem.run_bind,Sem.run_pure,Result.andThen_ok,invoke,Array.empty_append,hg]
   ·simp[hn]
   ·intro i y hy;by_cases h:i<args.size
    ·rw[getElem?_append_left (by simpa using h)]at hy;simp only[getElem?_map,map_eq_some_iff,getElem?_toList]at hy;obtain⟨x,g1,g2⟩:=hy;subst g2;have:(args.map ρc++ws).getD i undef=ρc x:=by
      simp only[getD_eq_getD_getElem?];rw[Array.getElem?_append_left (by simpa using h)];simp[g1]
     rw[this];exact hρ x
    ·rw[getElem?_append_right (by simpa using h)]at hy;have:(args.map ρc++ws).getD i undef=ws.getD (i-args.size) undef:=by
      simp only[getD_eq_getD_getElem?];rw[Array.getElem?_append_right (by simpa using h)];simp
     rw[this];exact hR _ y (by simpa using hy)
theorem Eu {ρ:Operand->AV} {ρc:Operand->Value}{I:Imm}{L:List Lay} (hρ:∀ x,Rep I L (ρ x) (ρc x)) {f:Operand}{g:Nat}{cs:List AV} (hf:ρ f=.clb g cs) (args:Array Operand) (ty:TypeId) (ats:Array TypeId)
  (hg:∀(vs:Array Value) (w:World),(callFunc g vs).run P w=.ok (.enter g vs) w) (w:World) :
  ∃ vs,(do let d <- resolve ρc { callee:=.value f,args:=args,argTypes:=ats } ty;invoke d.target d.args:Sem Next).run P w=.ok (.enter g vs) w/\RepL I L (cs++args.toList.map ρ) vs:=by
 have hr:=hρ f;rw[hf]at hr;generalize hv:ρc f=v at hr;cases hr with
 | clb _ _ ws hn hR=>
   refine⟨ws++args.map ρc,?_,?_,?_⟩
   ·simp only[resolve,hv,Deferred.ofValue,Sem.run_bind,Sem.run_pure,Result.andThen_ok,invoke,Array.append_empty,hg]
   ·simp[hn]
   ·intro i y hy;by_cases h:i<cs.length
    ·rw[getElem?_append_left h]at hy;have:(ws++args.map ρc).getD i undef=ws.getD i undef:=by
      simp only[getD_eq_getD_getElem?];rw[Array.getElem?_append_left (by omega)]
     rw[this];exact hR _ y hy
    ·rw[getElem?_append_right (by omega)]at hy;simp only[getElem?_map,map_eq_some_iff,getElem?_toList]at hy;obtain⟨x,g1,g2⟩:=hy;subst g2;have:(ws++args.map ρc).getD i undef=ρc x:=by
      simp only[getD_eq_getD_getElem?];rw[Array.getElem?_append_right (by omega),hn];simp[g1]
     rw[this];exact hρ x
theorem Es {ρ:Operand->AV} {ρc:Operand->Value}{I:Imm}{L:List Lay} (hρ:∀ x,Rep I L (ρ x) (ρc x)) {f:Operand}{id:Nat} (hf:ρ f=.yld id) (args:Array Operand) (ty:TypeId) (ats:Array TypeId) (w:World) :
  ∃ l,Rep I L (.yld id) (.func (.yield l) #[] #[])/\(do let d <- resolve ρc { callee:=.value f,args:=args,argTypes:=ats } ty;invoke d.target d.args:Sem Next).run P w=(Instr.yield l (args.map ρc)).run P w/\RepL I L (args.toList.map ρ) (args.map ρc):=by
 have hr:=hρ f;rw[hf]at hr;generalize hv:ρc f=v at hr;cases hr with
 | yld _ l q hL hq=>
   refine⟨q,.yld _ l q hL hq,?_,by simp,fun i y hy=>?_⟩
   ·simp only[resolve,hv,Deferred.ofValue,Sem.run_bind,Sem.run_pure,Result.andThen_ok,invoke,Array.empty_append,Array.append_empty]
   ·simp only[getElem?_map,map_eq_some_iff,getElem?_toList]at hy;obtain⟨x,g1,g2⟩:=hy;subst g2;have:(args.map ρc).getD i undef=ρc x:=by simp[getD_eq_getD_getElem?,g1]
    rw[this];exact hρ x
theorem EF {ro:Option Nat}{n:Nat}{f:FuncId}{args:Array Value}{w:World}{R:Ending->World->Prop} (h:Calls P f args w R):CallsIn (wd ro) n P f args w R:=by
 have h':CallsIn Fence.wide n P f args w R:=callsIn_wide.2 h;exact h'
theorem CW {ro:Option Nat}{o:Oper}{a:Act}{w:World}:∀ f,o.about P w a.eval=some f->(wd ro).fn f:=fun _ _=>trivial
theorem Fs {ro:Option Nat}{n:Nat}:(wd ro).depth.isSome=true->1<=n:=fun h=>by simp[wd]at h
theorem B7 (ro:Option Nat) {cf:CF} (hcf:CfOk P cf) {mu:List Nat}{ops:Array Oper}{o:Oper}{s s':St}{a:Act} (h:evOne P cf mu ops.toList o s=some s') (hs:StOk B0 w0 I0 L0 s a w)
  {Q:Exit->Act->World->Prop}{K:Act->World->Prop} (hK:∀ a' w',StOk B0 w0 I0 L0 s' a' w'->K a' w') :
  if Region.wanted o (yielded ops a.tmps) then o.wpIn (wd ro) 0 P a w K Q else K (a.put o.dst undef) w:=by
 obtain⟨I,L,hi,hx,hd,hr⟩:=hs;unfold evOne at h;split at h
 ·rename_i hw;rw[DJ hr hw,if_pos rfl];split at h
  ·rename_i v H1 hop;simp at h;subst h;have hnd:∀ c,o.op≠.defer c:=fun c e=>by simp[evOp,e]at hop
   refine⟨CW,?_⟩;rw[Oper.semAt_eq _ _ _ hnd];by_cases hc:isFnCall o=true
   ·obtain⟨dst,op,type,pos,after,guard⟩:=o;cases op<;>try (simp[isFnCall]at hc;done)
    rename_i c;obtain⟨callee,args,ats⟩:=c;cases callee with
    | builtin b=>simp[isFnCall]at hc
    | invoke r m=>simp[evOp,evCall]at hop
    | value f=>
      have key:∀ cf1:CF,FnOk P cf1->(∀ args H r H',cf1 yldF args H=some (r,H')->YieldSound P args H r H')->evCall cf1 s.ev s.h type ⟨.value f,args,ats⟩=some (v,H1) ->
        Oper.uponIn (wd ro) 0 P ⟨dst,.call ⟨.value f,args,ats⟩,type,pos,after,guard⟩ a K Q ((execOp a.eval ⟨dst,.call ⟨.value f,args,ats⟩,type,pos,after,guard⟩).run P w):=by
       intro cf1 hcf1 hcy hop;simp only[evCall,cfn]at hop;split at hop
       ·rename_i g cs hf;split at hop
        ·cases hop
        rename_i hg;obtain⟨c1,c2⟩:=hcf1 _ _ _ _ _ hg hop;obtain⟨vs,e1,e2⟩:=Et (P:=P) (fun x=>De hr x) hf args type ats c1 w;simp only[execOp];rw[e1];refine⟨Fs,EF ((c2 B0 w0 w I L vs hi e2).mono ?_)⟩;rintro e w' ⟨u,I',L',rfl,i1,i2,i3⟩;refine hK _ _ ⟨I',L',by rw[CR];exact i1,hx.trans i2,by rw[put_defers];exact hd.mono i2,Cn (hr.mono i2) _ i3 _⟩
       ·rename_i g cs hf;split at hop
        ·cases hop
        rename_i hg;obtain⟨c1,c2⟩:=hcf1 _ _ _ _ _ hg hop;obtain⟨vs,e1,e2⟩:=Eu (P:=P) (fun x=>De hr x) hf args type ats c1 w;simp only[execOp];rw[e1];refine⟨Fs,EF ((c2 B0 w0 w I L vs hi e2).mono ?_)⟩;rintro e w' ⟨u,I',L',rfl,i1,i2,i3⟩;refine hK _ _ ⟨I',L',by rw[CR];exact i1,hx.trans i2,by rw[put_defers];exact hd.mono i2,Cn (hr.mono i2) _ i3 _⟩
       ·rename_i id hf;obtain⟨l,hl,e1,e2⟩:=Es (P:=P) (fun x=>De hr x) hf args type ats w;obtain⟨fn,tmps,assign,body,y1,y2⟩:=hcy _ _ _ _ hop id _ rfl B0 w0 w I L l _ hi hl e2;simp only[execOp];rw[e1,y1];refine⟨Fs,(y2 ro _).mono ?_⟩;rintro e w' ⟨u,I',L',rfl,i1,i2,i3⟩;refine hK _ _ ⟨I',L',by rw[CR];exact i1,hx.trans i2,by rw[put_defers];exact hd.mono i2,Cn (hr.mono i2) _ i3 _⟩
       ·simp at hop
      simp only[evOp]at hop;split at hop
      ·exact key _ (FF hcf) (fun args H r H' h=>FE hcf h) hop
      ·split at hop
       ·exact key _ (F7 hcf) (fun args H r H' h=>F6 hcf h) hop
       ·exact key _ hcf.1 hcf.2 hop
   ·obtain⟨n,u,w',I',L',e1,e2,e3,e4,e5⟩:=Hc hi (fun x=>De hr x) (by simpa using hc) hop;rw[e1];have fin:K (a.put o.dst u) w':=hK _ _ ⟨I',L',by rw[CR];exact e3,hx.trans e4,by rw[put_defers];exact hd.mono e4,Cn (hr.mono e4) _ e5 _⟩;cases n<;>simp only[nextVal,reduceCtorEq,Option.some.injEq]at e2
    ·subst e2;exact fin
    ·subst e2;exact fin
  ·simp at h
 ·rename_i hw;rw[DJ hr hw];simp only[Bool.false_eq_true,if_false];simp at h;subst h;refine hK _ _ ⟨I,L,by rw[CR];exact hi,hx,by rw[put_defers];exact hd,?_⟩;exact Cn hr o.dst (.tup [] #[] rfl (fun i y h=>by simp at h)) s.h
 ·simp at h
def wpL (ro:Option Nat) (P:Program) (ops:Array Oper) (Q:Exit->Act->World->Prop):List Oper->Act->World->Prop
 | [],a,w=>Q .normal a w
 | o::rest,a,w=>if Region.wanted o (yielded ops a.tmps) then o.wpIn (wd ro) 0 P a w (wpL ro P ops Q rest) Q else wpL ro P ops Q rest (a.put o.dst undef) w
theorem FK {ro:Option Nat}{ops:Array Oper}{Q:Exit->Act->World->Prop}:∀(l:List Oper) (k:Nat),(∀ j,l[j]?=ops[k+j]?)->∀ {a:Act}{w:World},wpL ro P ops Q l a w->wpOpsIn (wd ro) 0 P ops Q (List.range' k l.length) a w
 | [],k,_,a,w,h=>h
 | o::l,k,hl,a,w,h=>by
   have ho:ops[k]?=some o:=by have:=hl 0;simpa using this.symm
   have ih:=fun {a w}=>FK (ro:=ro) (ops:=ops) (Q:=Q) (a:=a) (w:=w) l (k+1) (fun j=>by have:=hl (j+1);simpa [Nat.add_assoc,Nat.add_comm 1 j] using this);simp only[List.length_cons,List.range'_succ,wpOpsIn,ho];unfold wpL at h;split at h
   ·rename_i hw;rw[if_pos hw];exact Oper.wpIn_mono (fun a w h=>ih h) h
   ·rename_i hw;rw[if_neg hw];exact⟨CW,ih h⟩
theorem E3 {ro:Option Nat}{id:Nat}{ops:Array Oper}{Q:Exit->Act->World->Prop}{a:Act} (h:wpL ro P ops Q ops.toList a w):(Code.region id ops false).wpIn (wd ro) 0 P Q a w:=
 wpIn_region (by rw[List.range_eq_range',<- Array.length_toList];exact FK ops.toList 0 (by simp) h)
theorem Du (ro:Option Nat) {cf:CF} (hcf:CfOk P cf) {mu:List Nat}{ops:Array Oper}{Q:Exit->Act->World->Prop}:∀(l:List Oper) {s s':St}{a:Act}{w:World},evOps P cf mu ops.toList l s=some s'->StOk B0 w0 I0 L0 s a w ->
  (∀ a' w',StOk B0 w0 I0 L0 s' a' w'->Q .normal a' w')->wpL ro P ops Q l a w
 | [],s,s',a,w,h,hs,hQ=>by
   simp[evOps]at h;subst h;exact hQ a w hs
 | o::l,s,s',a,w,h,hs,hQ=>by
   simp only[evOps]at h;split at h
   ·rename_i s1 h1;have:=B7 ro (Q:=Q) (K:=wpL ro P ops Q l) hcf h1 hs (fun a' w' hs'=>Du ro hcf l h hs' hQ);unfold wpL;split
    ·rename_i hw;rw[if_pos hw]at this;exact this
    ·rename_i hw;rw[if_neg hw]at this;exact this
   ·simp at h
end Go.Ev
