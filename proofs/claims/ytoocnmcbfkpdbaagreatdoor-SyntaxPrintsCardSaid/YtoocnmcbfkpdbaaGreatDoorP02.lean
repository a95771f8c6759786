/- Single operations: composites, slices, builtins that only look. -/
import Derived.Test.YtoocnmcbfkpdbaaGreatDoorP01
import Derived.Laws.Runes
import Derived.Lib.FrozenHead
set_option linter.unusedVariables false
set_option linter.unusedSimpArgs false
open Array (getD_eq_getD_getElem?)
open List (all_eq_true getElem?_append_left getElem?_append_right getElem?_drop getElem?_map getElem?_of_mem getElem?_take map_cons mem_of_getElem?)
open Nat (add_mul le_refl lt_or_ge mul_comm mul_le_mul_right zero_le zero_mul)
open Option (getD_some map_eq_some_iff map_none map_some)
namespace Go.Ev
variable [VarTab]
set_option linter.unusedSectionVars false
open Go.RowKit
variable {P:Program}{B0:Nat}{w0:Base}{w:World}{I:Imm}{H:List MB}{L:List Lay}
theorem Iu {op:UnOp}{x:AV}{a:Value} (hx:Rep I L x a) {r:AV} (h:evUn op x=some r) (w:World) :
  ∃ u,(Op.unary op a).run P w=.ok u w/\Rep I L r u:=by
 unfold evUn at h;split at h
 ·simp only[Option.some.injEq]at h;subst h;cases hx;exact⟨_,rfl,.int _ _⟩
 ·simp only[Option.some.injEq]at h;subst h;cases hx;exact⟨_,rfl,.int _ _⟩
 ·simp at h;subst h;cases hx;exact⟨_,rfl,.bool _⟩
 ·simp at h
theorem FG {s d:TypeId}{x:AV}{a:Value} (hx:Rep I L x a) {r:AV} (h:evConvert P s d x=some r) (w:World) :
  ∃ u,(convert s d a).run P w=.ok u w/\Rep I L r u:=by
 unfold evConvert at h;split at h
 ·rename_i k n;cases hx;split at h
  ·rename_i k1 k2 h1 h2;simp at h;subst h;refine⟨_,?_,.int _ _⟩;simp only[convert,Sem.run_bind,run_underlying (CX h1),run_underlying (CX h2),Result.andThen_ok,Conv.intToInt,Sem.run_pure]
  ·rename_i k1 h1 h2;split at h
   ·rename_i hs;simp at h;subst h;exact⟨_,run_convert_int_string w s d k n (by rw[CX h1];rfl) (CH hs),.str _⟩
   ·simp at h
  ·simp at h
 ·rename_i b;cases hx;split at h
  ·rename_i hc;simp at h;subst h;refine⟨_,?_,.str _⟩;simp only[convert,Sem.run_bind,run_underlying (CH hc.1),run_underlying (CH hc.2),Result.andThen_ok,Sem.run_pure]
  ·simp at h
 ·simp at h
theorem Db (off:Nat):∀(vs:List Value) (k:Nat) (cells:Array Value),off+k+vs.length<=cells.size ->
  ((vs.zipIdx k).foldl (fun(cs:Array Value) (p:Value×Nat)=>cs.setIfInBounds (off+p.2) p.1) cells).size=cells.size /\
  ∀ i,((vs.zipIdx k).foldl (fun(cs:Array Value) (p:Value×Nat)=>cs.setIfInBounds (off+p.2) p.1) cells).getD i undef =
    if off+k<=i/\i<off+k+vs.length then vs.getD (i-(off+k)) undef else cells.getD i undef
 | [],k,cells,_=>by
   refine⟨rfl,fun i=>?_⟩;rw[if_neg (by simp)];rfl
 | v::vs,k,cells,h=>by
   simp only[List.length_cons]at h;obtain⟨h1,h2⟩:=Db off vs (k+1) (cells.setIfInBounds (off+k) v) (by simp;omega);simp only[List.zipIdx_cons,List.foldl_cons];refine⟨by rw[h1];simp,fun i=>?_⟩;rw[h2 i];by_cases g:off+(k+1)<=i/\i<off+(k+1)+vs.length
   ·rw[if_pos g,if_pos (by simp;omega)];have:i-(off+k)=(i-(off+(k+1)))+1:=by omega
    rw[this];simp
   ·rw[if_neg g];by_cases e:i=off+k
    ·subst e;rw[if_pos (by simp)];have:off+k<cells.size:=by omega
     simp[getD_eq_getD_getElem?,this]
    ·rw[if_neg (by simp;omega)];have:¬ off+k=i:=fun h=>e h.symm;simp[getD_eq_getD_getElem?,this]
theorem Cw {cs vs:List AV}{j:Nat} (h:j+vs.length<=cs.length):(splice cs j vs).length=cs.length:=by
 unfold splice;simp;omega
theorem EL {cs vs:List AV}{j:Nat} (h:j+vs.length<=cs.length) (i:Nat) :
  (splice cs j vs)[i]?=if j<=i/\i<j+vs.length then vs[i-j]? else cs[i]?:=by
 unfold splice;have hl:(cs.take j).length=j:=by simp;omega
 by_cases h1:i<j
 ·rw[getElem?_append_left (by rw[hl];exact h1),getElem?_take,if_pos h1,if_neg (by omega)]
 ·rw[getElem?_append_right (by rw[hl];omega),hl];by_cases h2:i<j+vs.length
  ·rw[getElem?_append_left (by omega),if_pos (by omega)]
  ·rw[getElem?_append_right (by omega),getElem?_drop,if_neg (by omega)];congr 1;omega
def RepCells (I:Imm) (L:List Lay) (cs:List AV) (ws:Array Value):Prop:=
 ws.size=cs.length/\(∀ i,i<ws.size->scal (ws.getD i undef)=true)/\∀ i y,cs[i]?=some y->Rep I L y (ws.getD i undef)
theorem RepCells.agg {cs:List AV}{ws:Array Value} (h:RepCells I L cs ws):Rep I L (.agg cs) (.agg ws):=.agg cs ws h.1 h.2.1 h.2.2
theorem Bd {a:AV}{v:Value} (h:Rep I L a v) (ha:a.cells.all AV.ok=true):RepCells I L a.cells v.cells:=by
 obtain⟨h1,h2⟩:=h.cells_scal ha;refine⟨h1,fun i hi=>?_,fun i y hy=>(h2 i y hy).1⟩;have hi':i<a.cells.length:=by rw[<- h1];exact hi
 exact(h2 i _ (List.getElem?_eq_getElem hi')).2
theorem DD (place:Nat->Option (Nat×Nat)) (place':Nat->Option (Nat×Nat)) {ρ:Operand->AV} {ρc:Operand->Value} (hρ:∀ x,Rep I L (ρ x) (ρc x))
  (hp:∀ i q,place i=some q->place' i=some q):∀(parts:List (Nat×Operand)) (cs:List AV) (ws:Array Value) (r:List AV),
  RepCells I L cs ws->fillC place cs (parts.map fun q=>(q.1,ρ q.2))=some r->∃ ws',Instr.fill place' ws (parts.map fun q=>(q.1,ρc q.2))=some ws'/\RepCells I L r ws'
 | [],cs,ws,r,hr,h=>by
   simp[fillC]at h;subst h;exact⟨ws,rfl,hr⟩
 | (i,x)::parts,cs,ws,r,hr,h=>by
     have hv:=hρ x;simp only[map_cons]at h |-;generalize ρ x=a at *;generalize ρc x=v at *;simp only[fillC]at h;split at h
     ·simp at h
     ·rename_i off s hpl;split at h
      ·rename_i hc;obtain⟨c1,c2,c3⟩:=hc;have hcell:=Bd hv c3;have hpl':=hp _ _ hpl;have hsz:v.cells.size=s:=by rw[hcell.1];exact c1
       simp only[Instr.fill,hpl'];rw[if_neg (by
        have:=hr.1;simp[hsz];omega)]
       have hfold:(v.cells.zipIdx.foldl (fun(cs:Array Value) (p:Value×Nat)=>cs.setIfInBounds (off+p.2) p.1) ws) =
         ((v.cells.toList.zipIdx 0).foldl (fun(cs:Array Value) (p:Value×Nat)=>cs.setIfInBounds (off+p.2) p.1) ws):=by
        rw[<- Array.foldl_toList];simp
       obtain⟨f1,f2⟩:=Db off v.cells.toList 0 ws (by have:=hr.1;simp[hsz];omega);have hsp:(splice cs off a.cells).length=cs.length:=Cw (by omega);refine DD place place' hρ hp parts _ _ r ⟨?_,fun k hk=>?_,fun k y hy=>?_⟩ h
       ·show (v.cells.zipIdx.foldl (fun(cs:Array Value) (p:Value×Nat)=>cs.setIfInBounds (off+p.2) p.1) ws).size=_;rw[hfold,f1,hsp];exact hr.1
       ·show scal ((v.cells.zipIdx.foldl (fun(cs:Array Value) (p:Value×Nat)=>cs.setIfInBounds (off+p.2) p.1) ws).getD k undef)=true;have hk':k<ws.size:=by
         have:k<(v.cells.zipIdx.foldl (fun(cs:Array Value) (p:Value×Nat)=>cs.setIfInBounds (off+p.2) p.1) ws).size:=hk;rw[hfold,f1]at this;exact this
        rw[hfold,f2];by_cases g:off+0<=k/\k<off+0+v.cells.toList.length
        ·rw[if_pos g];simp at g;have:v.cells.toList.getD (k-(off+0)) undef=v.cells.getD (k-off) undef:=by simp[List.getD,getD_eq_getD_getElem?]
         rw[this];exact hcell.2.1 _ (by omega)
        ·rw[if_neg g];exact hr.2.1 k hk'
       ·show Rep I L y ((v.cells.zipIdx.foldl (fun(cs:Array Value) (p:Value×Nat)=>cs.setIfInBounds (off+p.2) p.1) ws).getD k undef);rw[hfold,f2];rw[EL (by omega)]at hy;by_cases g:off<=k/\k<off+a.cells.length
        ·rw[if_pos g]at hy;rw[if_pos (by simp[hsz];omega)];have:v.cells.toList.getD (k-(off+0)) undef=v.cells.getD (k-off) undef:=by simp[List.getD,getD_eq_getD_getElem?]
         rw[this];exact hcell.2.2 _ y hy
        ·rw[if_neg g]at hy;rw[if_neg (by simp[hsz];omega)];exact hr.2.2 k y hy
      ·simp at h
theorem Cl {T:TypeId}{z:AV} (h:tyZero P T=some z):∃ v,(∀ w,(zeroValue T).run P w=.ok v w)/\z=ofV v:=by
 unfold tyZero at h;cases hi:P.info? T with
 | none=>rw[hi]at h;simp at h
 | some i=>
   rw[hi]at h;cases hz:i.zero with
   | none=>simp[hz]at h
   | some v=>
     simp[hz]at h;exact⟨v,fun w=>by simp[zeroValue,typeInfo,hi,hz],h.symm⟩
theorem BU {T:TypeId}{z:AV} (h:tyZero P T=some z) (hk:z.cells.all AV.ok=true):∃ v,(∀ w,(zeroValue T).run P w=.ok v w)/\RepCells I L z.cells v.cells/\Rep I L z v:=by
 obtain⟨v,h1,rfl⟩:=Cl h;have hs:∀ cs,v=.agg cs->∀ i,i<cs.size->scal (cs.getD i undef)=true:=by
  intro cs e i hi;subst e;simp only[ofV,AV.cells,all_eq_true,List.mem_map]at hk;have hm:cs.getD i undef∈cs.toList:=by
   simp[getD_eq_getD_getElem?,hi]
  have:=hk _ ⟨_,hm,rfl⟩;cases hc:cs.getD i undef<;>rw[hc]at this<;>first|rfl|simp[ofC,AV.ok]at this
 have hr:Rep I L (ofV v) v:=KM v hs;exact⟨v,h1,Bd hr hk,hr⟩
theorem ER:∀(fs:List Field) (pl:List (Nat×Nat)),placesOf P fs=some pl->∀ w,(fs.mapM fun f=>(do pure (f.offset,<- sizeOf f.type):Sem (Nat×Nat))).run P w=.ok pl w
 | [],pl,h,w=>by simp[placesOf]at h;subst h;simp
 | f::fs,pl,h,w=>by
   simp only[placesOf]at h;split at h
   ·rename_i s l hs hl;simp at h;subst h;simp only[List.mapM_cons,Sem.run_bind,Aj hs,Result.andThen_ok,Sem.run_pure,ER fs l hl]
   ·simp at h
theorem G0 {T:TypeId}{ps:List (Nat×Operand)} {ρ:Operand->AV} {ρc:Operand->Value} (hρ:∀ x,Rep I L (ρ x) (ρc x)) {r:AV}
  (h:evBuild P T (ps.map fun q=>(q.1,ρ q.2))=some r) (w:World) :
  ∃ u,(Instr.build T (ps.map fun q=>(q.1,ρc q.2)).toArray).run P w=.ok u w/\Rep I L r u:=by
 unfold evBuild at h;split at h
 ·rename_i zs hzs;split at h
  ·rename_i hok;obtain⟨v,z1,z2,z3⟩:=BU (I:=I) (L:=L) hzs (by simpa [AV.cells] using hok);split at h
   ·rename_i pl hpl;cases hq:fillC (fun i=>pl[i]?) zs (ps.map fun q=>(q.1,ρ q.2)) with
    | none=>rw[hq]at h;simp at h
    | some cs=>
      rw[hq]at h;simp at h;subst h;unfold tyPlaces at hpl;split at hpl
      ·rename_i fs hu;obtain⟨ws,f1,f2⟩:=DD (fun i=>pl[i]?) (fun i=>pl.toArray[i]?) hρ (fun _ _ h=>by simpa using h) ps zs v.cells cs z2 hq;refine⟨.agg ws,?_,f2.agg⟩;have hm:(fs.mapM fun f=>(do pure (f.offset,<- sizeOf f.type):Sem (Nat×Nat))).run P w=.ok pl.toArray w:=by
        have:=ER fs.toList pl hpl w;rw[<- Array.toArray_toList (xs:=fs),List.mapM_toArray];simp only[Sem.run_map,this,Result.andThen_ok]
       unfold Instr.build;simp only[Sem.run_bind,z1,Result.andThen_ok,run_underlying hu,hm,f1,Sem.run_pure]
      ·simp at hpl
   ·split at h
    ·rename_i n e he;have hu:=DK he;split at h
     ·rename_i s hs;cases hq:fillC (fun i=>some (i*s,s)) zs (ps.map fun q=>(q.1,ρ q.2)) with
      | none=>rw[hq]at h;simp at h
      | some cs=>
        rw[hq]at h;simp at h;subst h;obtain⟨ws,f1,f2⟩:=DD (fun i=>some (i*s,s)) (fun i=>some (i*s,s)) hρ (fun _ _ h=>h) ps zs v.cells cs z2 hq;refine⟨.agg ws,?_,f2.agg⟩;unfold Instr.build;simp only[Sem.run_bind,z1,Result.andThen_ok,run_underlying hu,Aj hs,f1,Sem.run_pure]
     ·simp at h
    ·simp at h
  ·simp at h
 ·simp at h
variable [VarTab]
set_option linter.unusedSectionVars false
open Go.RowKit
variable {P:Program}{B0:Nat}{w0:Base}{w:World}{I:Imm}{H:List MB}{L:List Lay}
def RowRep (I:Imm) (L:List Lay) (s:Nat) (es:List AV) (cs:Array Value):Prop:=
 cs.size=es.length*s/\(∀ x∈es,x.cells.length=s) /\
  ∀(i j:Nat) (x y:AV),es[i]?=some x->x.cells[j]?=some y->scal (cs.getD (i*s+j) undef)=true/\Rep I L y (cs.getD (i*s+j) undef)
theorem RowRep.some {s:Nat}{es:List AV}{cs:Array Value} (h:RowRep I L s es cs) {i j:Nat}{x y:AV} (h1:es[i]?=some x) (h2:x.cells[j]?=some y) :
  ∃ v,cs[i*s+j]?=some v/\scal v=true/\Rep I L y v:=by
 obtain⟨a,b⟩:=h.2.2 i j x y h1 h2;refine⟨_,?_,a,b⟩;have hi:i<es.length:=(List.getElem?_eq_some_iff.1 h1).1;have hj:j<s:=by rw[<- h.2.1 x (mem_of_getElem? h1)];exact(List.getElem?_eq_some_iff.1 h2).1
 have h3:(i+1)*s<=es.length*s:=mul_le_mul_right s hi;rw[add_mul]at h3;have h4:i*s+j<cs.size:=by rw[h.1];omega
 simp[getD_eq_getD_getElem?,h4]
theorem Ey {s i i' j:Nat} (hj:j<s) (hne:i'≠i):¬ (i*s<=i'*s+j/\i'*s+j<i*s+s):=by
 rcases lt_or_ge i' i with h|h
 ·have:(i' + 1)*s<=i*s:=mul_le_mul_right s h;rw[add_mul]at this;omega
 ·have:(i+1)*s<=i'*s:=mul_le_mul_right s (by omega);rw[add_mul]at this;omega
theorem Dt {s:Nat} {ρ:Operand->AV} {ρc:Operand->Value} (hρ:∀ x,Rep I L (ρ x) (ρc x)):∀(ps:List (Nat×Operand)) (es:List AV) (ws:Array Value) (r:List AV),
  RowRep I L s es ws->fillE s es (ps.map fun q=>(q.1,ρ q.2))=some r ->
  ∃ ws',Instr.fill (fun i=>some (i*s,s)) ws (ps.map fun q=>(q.1,ρc q.2))=some ws'/\RowRep I L s r ws'/\r.length=es.length
 | [],es,ws,r,hr,h=>by
   simp[fillE]at h;subst h;exact⟨ws,rfl,hr,rfl⟩
 | (i,x)::ps,es,ws,r,hr,h=>by
   have hv:=hρ x;simp only[map_cons]at h |-;generalize ρ x=a at *;generalize ρc x=v at *;simp only[fillE]at h;split at h
   ·rename_i hc;obtain⟨c1,c2,c3⟩:=hc;have hcell:=Bd hv c3;have hsz:v.cells.size=s:=by rw[hcell.1];exact c1
    have hm:(i+1)*s<=es.length*s:=mul_le_mul_right s c2;rw[add_mul]at hm;have hws:=hr.1;simp only[Instr.fill];rw[if_neg (by simp[hsz];omega)]
    have hfold:(v.cells.zipIdx.foldl (fun(cs:Array Value) (p:Value×Nat)=>cs.setIfInBounds (i*s+p.2) p.1) ws) =
      ((v.cells.toList.zipIdx 0).foldl (fun(cs:Array Value) (p:Value×Nat)=>cs.setIfInBounds (i*s+p.2) p.1) ws):=by
     rw[<- Array.foldl_toList];simp
    obtain⟨f1,f2⟩:=Db (i*s) v.cells.toList 0 ws (by simp[hsz];omega);have hrr:RowRep I L s (es.set i a) (v.cells.zipIdx.foldl (fun(cs:Array Value) (p:Value×Nat)=>cs.setIfInBounds (i*s+p.2) p.1) ws):=by
     refine⟨by rw[hfold,f1,List.length_set];exact hws,fun y hy=>?_,fun i' j y z h1 h2=>?_⟩
     ·rcases List.mem_or_eq_of_mem_set hy with g|g
      ·exact hr.2.1 y g
      ·rw[g];exact c1
     ·rw[hfold,f2];by_cases e:i=i'
      ·subst e;rw[List.getElem?_set_self c2]at h1;obtain rfl:=Option.some.inj h1;have hj:j<a.cells.length:=(List.getElem?_eq_some_iff.1 h2).1;rw[if_pos (by simp[hsz];omega)];have:v.cells.toList.getD (i*s+j-(i*s+0)) undef=v.cells.getD j undef:=by
        have:i*s+j-(i*s+0)=j:=by omega
        rw[this];simp[List.getD,getD_eq_getD_getElem?]
       rw[this];exact⟨hcell.2.1 j (by omega),hcell.2.2 j z h2⟩
      ·rw[List.getElem?_set_ne e]at h1;have hj:j<s:=by rw[<- hr.2.1 y (mem_of_getElem? h1)];exact(List.getElem?_eq_some_iff.1 h2).1
       rw[if_neg (by
        have:=Ey (s:=s) (i:=i) (i':=i') hj (fun h=>e h.symm);simp[hsz];omega)]
       exact hr.2.2 i' j y z h1 h2
    obtain⟨ws',g1,g2,g3⟩:=Dt hρ ps (es.set i a) _ r hrr h;exact⟨ws',g1,g2,by rw[g3,List.length_set]⟩
   ·simp at h
theorem DX {z:AV}{v:Value} (h:RepCells I L z.cells v.cells) {s n:Nat} (hs:z.cells.length=s) (_h0:0<s) :
  RowRep I L s (List.replicate n z) ((Array.range (n*s)).map fun i=>v.cells[i % v.cells.size]!):=by
 refine⟨by simp,fun x hx=>by rw[List.eq_of_mem_replicate hx];exact hs,fun i j x y h1 h2=>?_⟩;have hi:i<n:=by
  have:=(List.getElem?_eq_some_iff.1 h1).1
  simpa using this
 have hx:x=z:=by
  have:=mem_of_getElem? h1;exact List.eq_of_mem_replicate this
 subst hx;have hj:j<s:=by rw[<- hs];exact(List.getElem?_eq_some_iff.1 h2).1
 have hm:(i+1)*s<=n*s:=mul_le_mul_right s hi;rw[add_mul]at hm;have hsz:v.cells.size=s:=by rw[h.1];exact hs
 have e1:(i*s+j) % s=j:=by
  rw[mul_comm,Nat.mul_add_mod];exact Nat.mod_eq_of_lt hj
 have e:((Array.range (n*s)).map fun i=>v.cells[i % v.cells.size]!).getD (i*s+j) undef=v.cells.getD j undef:=by
  have hlt:i*s+j<n*s:=by omega
  have hjs:j<v.cells.size:=by omega
  have e2:v.cells[j]! = v.cells[j]:=getElem!_pos v.cells j hjs;have e3:v.cells[j]?.getD undef=v.cells[j]:=by rw[Array.getElem?_eq_getElem hjs];rfl
  simp only[getD_eq_getD_getElem?,e3,Array.getElem?_map,Array.getElem?_range,hlt,if_true,map_some,getD_some,hsz,e1,e2]
 rw[e];exact⟨h.2.1 j (by omega),h.2.2 j y h2⟩
theorem Iv {T:TypeId}{k:Nat} (h:tySzE P T=some k):∃ e,tyElem P T=some e/\tySz P e=some k:=by
 unfold tySzE at h;split at h
 ·rename_i e he;exact⟨e,he,h⟩
 ·simp at h
theorem Ck {T:TypeId}{n:Nat}{ps:List (Nat×Operand)} {ρ:Operand->AV} {ρc:Operand->Value} (hρ:∀ x,Rep I L (ρ x) (ρc x)) {es:List AV}
  (h:evBuildSlice P T n (ps.map fun q=>(q.1,ρ q.2))=some es) (w:World) :
  ∃ e s ws,tyElem P T=some e/\tySz P e=some s/\RowRep I L s es ws/\es.length=n /\
    (Instr.buildSlice T n (ps.map fun q=>(q.1,ρc q.2)).toArray).run P w=.ok (.slice (some ⟨w.heap.size,0,none⟩) n n) (w.alloc (.cells ws e)):=by
 unfold evBuildSlice at h;split at h
 ·rename_i e he;split at h
  ·rename_i s z hs hz;split at h
   ·rename_i hc;obtain⟨c1,c2,c3,c4⟩:=hc;obtain⟨v,z1,z2,z3⟩:=BU (I:=I) (L:=L) hz c4;have hu:=BP he;have hrow:=DX z2 c2 c3 (n:=n);obtain⟨ws,f1,f2,f3⟩:=Dt hρ ps _ _ es hrow h;refine⟨e,s,ws,he,hs,f2,by rw[f3];simp,?_⟩;unfold Instr.buildSlice;simp only[Sem.run_bind,run_underlying hu,Result.andThen_ok,Aj hs];rw[if_neg (by omega)];by_cases h0:n*s=0
    ·have e0:((Array.range (n*s)).map fun i=>(#[]:Array Value)[i % (#[]:Array Value).size]!)=((Array.range (n*s)).map fun i=>v.cells[i % v.cells.size]!):=by
      rw[h0];simp
     simp only[if_pos h0,Sem.run_bind,Sem.run_pure,Result.andThen_ok,e0,f1,newRow,run_newObj_alloc]
    ·simp only[if_neg h0,Sem.run_bind,Sem.run_pure,Result.andThen_ok,z1,f1,newRow,run_newObj_alloc]
   ·simp at h
  ·simp at h
 ·simp at h
theorem Di (hi:Inv B0 w0 I H L w) {T:TypeId}{n:Nat}{ps:List (Nat×Operand)} {ρ:Operand->AV} {ρc:Operand->Value} (hρ:∀ x,Rep I L (ρ x) (ρc x)) {es:List AV}
  (h:evBuildSlice P T n (ps.map fun q=>(q.1,ρ q.2))=some es) :
  ∃ u w' I',(Instr.buildSlice T n (ps.map fun q=>(q.1,ρc q.2)).toArray).run P w=.ok u w'/\Inv B0 w0 I' H L w'/\Ext I L I' L/\Rep I' L (.sl true es) u:=by
 obtain⟨e,s,ws,he,hs,hr,hl,hrun⟩:=Ck hρ h w;obtain⟨h1,h2⟩:=hi.newImm ws e;refine⟨_,_,_,hrun,h1,h2,?_⟩
 have:=Rep.sl (I:=immNew I w.heap.size ws hi.fresh) (L:=L) true es w.heap.size 0 n s (fun i j=>ws.getD (i*s+j) undef) (by omega) (fun _=>hl.symm) hr.2.1
  (fun i j x y g1 g2=>by
    obtain⟨v,a,b,c⟩:=hr.some g1 g2;have e1:ws.getD (i*s+j) undef=v:=by simp[getD_eq_getD_getElem?,a]
    rw[e1];exact⟨by show (if w.heap.size=w.heap.size then ws[0+i*s+j]? else _)=_;rw[if_pos rfl];rw[<- a];congr 1;omega,b⟩)
  (fun i j x y g1 g2=>(hr.2.2 i j x y g1 g2).2.mono h2)
 rwa [hl]at this
theorem CB (t:Option TypeId) (hi:Inv B0 w0 I H L w) {s:Nat}{es:List AV}{ws:Array Value} (hr:RowRep I L s es ws) (T:TypeId) (spare:Array Value) (ht:∀ T',t=some T'->T' = T/\(ws++spare).size≠0) :
  Inv B0 w0 I (H++[MB.mk t s es 0]) (L++[⟨s,es.length,w.heap.size,(ws++spare).size,0,0⟩]) (w.alloc (.cells (ws++spare) T)) /\
   Ext I L I (L++[⟨s,es.length,w.heap.size,(ws++spare).size,0,0⟩]):=by
 refine Inv.newT t hi (ws++spare) T ht s es hr.2.1 (by rw[Array.size_append,hr.1];omega) (fun i j x y g1 g2=>?_);obtain⟨v,a,b,c⟩:=hr.some g1 g2;have hlt:i*s+j<ws.size:=by
  rcases lt_or_ge (i*s+j) ws.size with g|g
  ·exact g
  ·simp[Array.getElem?_eq_none g]at a
 exact⟨v,by rw[Array.getElem?_append_left hlt];exact a,b,c⟩
theorem DS (hi:Inv B0 w0 I H L w) {s:Nat}{es:List AV}{ws:Array Value} (hr:RowRep I L s es ws) (T:TypeId) (spare:Array Value) :
 Inv B0 w0 I (H++[.row s es 0]) (L++[⟨s,es.length,w.heap.size,(ws++spare).size,0,0⟩]) (w.alloc (.cells (ws++spare) T)) /\
  Ext I L I (L++[⟨s,es.length,w.heap.size,(ws++spare).size,0,0⟩]):=CB none hi hr T spare fun _ h=>by cases h
theorem D8 (L:List Lay) (l:Lay):(L++[l])[L.length]?=some l:=by simp
theorem Ct (hi:Inv B0 w0 I H L w) {T:TypeId}{n:Nat}{ps:List (Nat×Operand)} {ρ:Operand->AV} {ρc:Operand->Value} (hρ:∀ x,Rep I L (ρ x) (ρc x)) {es:List AV}
  (h:evBuildSlice P T n (ps.map fun q=>(q.1,ρ q.2))=some es) {k:Nat} (hk:tySzE P T=some k) :
  ∃ u w' L',(Instr.buildSlice T n (ps.map fun q=>(q.1,ρc q.2)).toArray).run P w=.ok u w'/\Inv B0 w0 I (H++[.row k es 0]) L' w'/\Ext I L I L'/\Rep I L' (.ms H.length k n 0 n) u:=by
 obtain⟨e,s,ws,he,hs,hr,hl,hrun⟩:=Ck hρ h w;obtain⟨e',he',hs'⟩:=Iv hk;rw[he]at he';obtain rfl:=Option.some.inj he';rw[hs]at hs';obtain rfl:=Option.some.inj hs';have h1:=DS hi hr e #[];simp only[Array.append_empty]at h1;refine⟨_,_,_,hrun,h1.1,h1.2,?_⟩;refine .ms H.length s n 0 n ⟨s,es.length,w.heap.size,ws.size,0,0⟩ w.heap.size 0 n (by rw[<- hi.len];exact D8 L _) (by simp;omega) rfl (by omega) (le_refl _) (fun _=>⟨le_refl _,rfl,by simp,by omega,?_⟩);simp[hr.1,hl]
theorem C0 (t:Option TypeId) (hi:Inv B0 w0 I H L w) {a:AV}{v:Value} (hr:Rep I L a v) (ha:a.cells.all AV.ok=true) (T:TypeId) (ht:∀ T',t=some T'->T' = T/\0<a.cells.length) :
  ∃ u w' L',(do pure (.pointer (some (<- newVar T v))):Sem Value).run P w=.ok u w'/\Inv B0 w0 I (H++[MB.mk t a.cells.length [a] 0]) L' w'/\Ext I L I L'/\Rep I L' (.rf H.length 1 0 0) u:=by
 have hc:=Bd hr ha;have hrow:RowRep I L a.cells.length [a] v.cells:=by
  refine⟨by simp[hc.1],fun x hx=>by simp at hx;rw[hx],fun i j x y h1 h2=>?_⟩
  match i,h1 with
  | 0,h1=>
    simp at h1;subst h1;simp only[zero_mul,Nat.zero_add];exact⟨hc.2.1 j (by rw[hc.1];exact(List.getElem?_eq_some_iff.1 h2).1),hc.2.2 j y h2⟩
  | i+1,h1=>simp at h1
 have h1:=CB t hi hrow T #[] fun T' hT=>⟨(ht T' hT).1,by have:=(ht T' hT).2;rw[Array.append_empty,hc.1];omega⟩;simp only[Array.append_empty]at h1;refine⟨.pointer (some ⟨w.heap.size,0,none⟩),_,_,?_,h1.1,h1.2,?_⟩
 ·simp only[newVar,newRow,Sem.run_bind,run_newObj_alloc,Result.andThen_ok,Sem.run_pure]
 ·exact .rf H.length 1 0 0 ⟨a.cells.length,[a].length,w.heap.size,v.cells.size,0,0⟩ w.heap.size 0 (by rw[<- hi.len];exact D8 L _) (by simp) (fun _=>⟨le_refl _,rfl,by simp⟩)
theorem DR (hi:Inv B0 w0 I H L w) {a:AV}{v:Value} (hr:Rep I L a v) (ha:a.cells.all AV.ok=true) (T:TypeId) :
 ∃ u w' L',(do pure (.pointer (some (<- newVar T v))):Sem Value).run P w=.ok u w'/\Inv B0 w0 I (H++[.row a.cells.length [a] 0]) L' w'/\Ext I L I L'/\Rep I L' (.rf H.length 1 0 0) u:=C0 none hi hr ha T fun _ h=>by cases h
theorem D1 (hi:Inv B0 w0 I H L w) {a:AV}{v:Value} (hr:Rep I L a v) (ha:a.cells.all AV.ok=true) (T:TypeId) :
  ∃ u w' I',(do pure (.pointer (some (<- newVar T v))):Sem Value).run P w=.ok u w'/\Inv B0 w0 I' H L w'/\Ext I L I' L/\Rep I' L (.pt a.cells) u:=by
 have hc:=Bd hr ha;obtain⟨h1,h2⟩:=hi.newImm v.cells T;refine⟨.pointer (some ⟨w.heap.size,0,none⟩),_,_,?_,h1,h2,?_⟩
 ·simp only[newVar,newRow,Sem.run_bind,run_newObj_alloc,Result.andThen_ok,Sem.run_pure]
 ·refine .pt a.cells w.heap.size 0 (fun j=>v.cells.getD j undef) (fun j y hy=>?_) (fun j y hy=>(hc.2.2 j y hy).mono h2);have hj:j<v.cells.size:=by rw[hc.1];exact(List.getElem?_eq_some_iff.1 hy).1
  refine⟨?_,hc.2.1 j hj⟩;show (if w.heap.size=w.heap.size then v.cells[0+j]? else _)=_;rw[if_pos rfl,Nat.zero_add];simp[getD_eq_getD_getElem?,hj]
theorem G7 (hi:Inv B0 w0 I H L w) {T:TypeId}{z:AV} (hz:tyZero P T=some z) (ha:z.cells.all AV.ok=true) :
  ∃ u w' L',(Instr.alloc T true (.tuple #[])).run P w=.ok u w'/\Inv B0 w0 I (H++[.row z.cells.length [z] 0]) L' w'/\Ext I L I L'/\Rep I L' (.rf H.length 1 0 0) u:=by
 obtain⟨v,z1,z2,z3⟩:=BU (I:=I) (L:=L) hz ha;obtain⟨u,w',L',e1,e2,e3,e4⟩:=DR (P:=P) hi z3 ha T;refine⟨u,w',L',?_,e2,e3,e4⟩;unfold Instr.alloc;simp only[Sem.run_bind,z1,Result.andThen_ok];exact e1
theorem JO (x:AV):(nil1 x).ok=x.ok:=by
 unfold nil1;split<;>rfl
theorem HR (z:AV):(nilZ z).cells.length=z.cells.length/\((nilZ z).cells.all AV.ok=z.cells.all AV.ok):=by
 unfold nilZ;split
 ·rename_i cs;refine⟨by simp[AV.cells],?_⟩;simp only[AV.cells,List.all_map];congr 1
  funext x
  exact JO x
 ·exact⟨rfl,rfl⟩
theorem JN {v:Value} (h:Rep I L (ofC v) v):Rep I L (nil1 (ofC v)) v:=by
 unfold nil1;split
 ·rename_i e;have:v=.slice none 0 0:=by
   unfold ofC at e;split at e<;>first|rfl|(cases e;done)|(split at e<;>cases e)
  subst this;exact .psn 0 0
 ·exact h
theorem JK (v:Value):nilZ (ofC v)=ofC v:=by
 unfold ofC;repeat' split
 all_goals rfl
theorem JJ (v:Value) (h:∀ cs,v≠.agg cs):nilZ (ofV v)=ofV v:=by
 unfold ofV;split
 ·exact absurd rfl (h _)
 ·split<;>rfl
 ·exact JK _
theorem JI {v:Value} (h:Rep I L (ofV v) v):Rep I L (nilZ (ofV v)) v:=by
 cases v with
 | agg cs=>
   show Rep I L (.agg ((cs.toList.map ofC).map nil1)) (.agg cs);generalize ha:ofV (.agg cs)=a at h;cases h with
   | agg cs' ws hn hs hR=>
     refine .agg _ cs (by simp) hs fun i y hy=>?_;rw[getElem?_map]at hy;obtain⟨x,hx,rfl⟩:=map_eq_some_iff.1 hy;have hx':=hx;rw[getElem?_map]at hx;obtain⟨c,hc,rfl⟩:=map_eq_some_iff.1 hx;have hcc:cs.getD i undef=c:=by
      rw[getD_eq_getD_getElem?,<- Array.getElem?_toList,hc];rfl
     have e1:cs' = cs.toList.map ofC:=by
      have:AV.agg (cs.toList.map ofC)=AV.agg cs':=ha;cases this;rfl
     have h2:=hR i (ofC c) (by rw[e1];exact hx');rw[hcc]at h2 |-;exact JN h2
   | _=>cases ha
 | _=>rw[JJ _ (fun cs e=>by cases e)];exact h
theorem GI (hi:Inv B0 w0 I H L w) {T:TypeId}{z:AV} (hz:tyZero P T=some z) (ha:z.cells.all AV.ok=true) (h0:0<z.cells.length) :
  ∃ u w' L',(Instr.alloc T true (.tuple #[])).run P w=.ok u w'/\Inv B0 w0 I (H++[.tr T z.cells.length [nilZ z] 0]) L' w'/\Ext I L I L'/\Rep I L' (.rf H.length 1 0 0) u:=by
 obtain⟨v,z1,z2,z3⟩:=BU (I:=I) (L:=L) hz ha;have z4:Rep I L (nilZ z) v:=by
  obtain⟨v',h1,rfl⟩:=Cl hz;have e:v=v':=by
   have a1:=z1 w;have a2:=h1 w;rw[a1]at a2;cases a2;rfl
  subst e;exact JI z3
 obtain⟨k1,k2⟩:=HR z;obtain⟨u,w',L',e1,e2,e3,e4⟩:=C0 (P:=P) (some T) hi z4 (by rw[k2];exact ha) T (fun T' h=>by cases h;exact⟨rfl,by rw[k1];exact h0⟩);rw[k1]at e2;refine⟨u,w',L',?_,e2,e3,e4⟩;unfold Instr.alloc;simp only[Sem.run_bind,z1,Result.andThen_ok];exact e1
theorem Fv {x:AV}{j:Nat}{vs:List AV} (h:j+vs.length<=x.cells.length) (hv:vs.all AV.ok=true) :
  (setCells x j vs).cells.length=x.cells.length/\∀ i,(setCells x j vs).cells[i]?=if j<=i/\i<j+vs.length then vs[i-j]? else x.cells[i]?:=by
 by_cases hx:∃ cs,x=.agg cs
 ·obtain⟨cs,rfl⟩:=hx;exact⟨Cw h,fun i=>EL h i⟩
 ·have hxc:x.cells=[x]:=by
   cases x<;>first|rfl|exact absurd ⟨_,rfl⟩ hx
  rw[hxc]at h |-
  match vs,h,hv with
  | [],h,_=>
    have hs:setCells x j []=x:=by cases x<;>first|rfl|exact absurd ⟨_,rfl⟩ hx
    rw[hs];refine⟨by rw[hxc],fun i=>?_⟩;rw[if_neg (by intro g;simp at g;omega),hxc]
  | [v],h,hv=>
    have hs:setCells x j [v]=v:=by cases x<;>first|rfl|exact absurd ⟨_,rfl⟩ hx
    rw[hs];have hj:j=0:=by simp at h;omega
    subst hj;have hvc:v.cells=[v]:=by
     simp at hv;cases v<;>first|rfl|simp[AV.ok]at hv
    refine⟨by simp[hvc],fun i=>?_⟩;rw[hvc]
    match i with
    | 0=>simp
    | i+1=>simp
  | a::b::rest,h,_=>simp at h;omega
theorem GQ (hi:Inv B0 w0 I H L w) {a x:AV}{va vx:Value} (ha:Rep I L a va) (hx:Rep I L x vx) {T:TypeId}{H':List MB} (h:evStore P H T a x=some H') :
  ∃ w' L',(Instr.storeAt T va vx).run P w=.ok () w'/\Inv B0 w0 I H' L' w'/\Ext I L I L':=by
 unfold evStore at h;split at h
 ·rename_i id tot i j;split at h
  ·rename_i k els z hrow;split at h
   ·rename_i hc;obtain⟨c1,c2⟩:=hc;split at h
    ·rename_i y s hy hs;split at h
     ·rename_i hd;obtain⟨d1,d2,d0,d3⟩:=hd;simp at h;subst h;obtain⟨l,hl,hb⟩:=hi.row hrow;cases ha with
      | rf _ _ _ _ l2 b o hL ht hv=>
        rw[hl]at hL;obtain rfl:=Option.some.inj hL;obtain⟨v1,v2,v3⟩:=hv (by rw[hb.ht];exact c1.symm);subst v2;subst v3;have hcell:=Bd hx d3;have hsz:vx.cells.size=s:=by rw[hcell.1];exact d1
        have hk:=hb.hk;have hi':i<els.length:=(List.getElem?_eq_some_iff.1 hy).1;have hm:(i-l.sh+1)*k<=(els.length-l.sh)*k:=mul_le_mul_right k (by omega);rw[add_mul]at hm;have hfit:=hb.fit;have hyk:=hb.wid y (mem_of_getElem? hy);have hn0:l.n≠0:=by
         have:1*k<=(els.length-l.sh)*k:=mul_le_mul_right k (by omega);omega
        obtain⟨cs,T0,fr,f1,f2,f3,f4,f9f4⟩:=hb.blk hn0;have hfz:=mul_le_mul_right k (show z-l.sh<=i-l.sh by omega)
        have hst:=run_storeCells_atF P l.b (l.o+(i-l.sh)*k+j) T0 fr vx.cells.toList 0 cs w f1 (by omega) (by simp[hsz];omega)
         (fun v hv=>by
           obtain⟨q,hq⟩:=getElem?_of_mem hv;simp at hq;have hlt:q<vx.cells.size:=by
            rcases lt_or_ge q vx.cells.size with g|g
            ·exact g
            ·simp[Array.getElem?_eq_none g]at hq
           have:=hcell.2.1 q hlt;unfold scal at this
           simpa [getD_eq_getD_getElem?,hq] using this)
        generalize hcs':(cs.toList.take (l.o+(i-l.sh)*k+j+0)++vx.cells.toList++cs.toList.drop (l.o+(i-l.sh)*k+j+0+vx.cells.toList.length)).toArray=cs' at hst;have hget:∀ c,cs'[c]?=if l.o+(i-l.sh)*k+j<=c/\c<l.o+(i-l.sh)*k+j+s then vx.cells[c-(l.o+(i-l.sh)*k+j)]? else cs[c]?:=by
         intro c;rw[<- hcs'];simp only[List.getElem?_toArray,Nat.add_zero];have hl1:(cs.toList.take (l.o+(i-l.sh)*k+j)).length=l.o+(i-l.sh)*k+j:=by simp;omega
         by_cases g1:c<l.o+(i-l.sh)*k+j
         ·rw[List.append_assoc,getElem?_append_left (by rw[hl1];exact g1),getElem?_take,if_pos g1,if_neg (by omega)];simp
         ·rw[List.append_assoc,getElem?_append_right (by rw[hl1];omega),hl1];by_cases g2:c<l.o+(i-l.sh)*k+j+s
          ·rw[getElem?_append_left (by simp[hsz];omega),if_pos (by omega)];simp
          ·rw[getElem?_append_right (by simp[hsz];omega),getElem?_drop,if_neg (by omega)];simp[hsz];congr 1;omega
        have hcsz:cs'.size=cs.size:=by
         rw[<- hcs'];simp[hsz];omega
        have hset:=Fv (x:=y) (j:=j) (vs:=x.cells) (by rw[hyk,d1];exact d2) d3;have hwid:∀ q∈els.set i (setCells y j x.cells),q.cells.length=k:=by
         intro q hq;rcases List.mem_or_eq_of_mem_set hq with g|g
         ·exact hb.wid q g
         ·rw[g,hset.1];exact hyk
        have hlset:L.set id l=L:=by
         apply List.ext_getElem?;intro q;by_cases e:id=q
         ·subst e;rw[List.getElem?_set_self (List.getElem?_eq_some_iff.1 hl).1,hl]
         ·rw[List.getElem?_set_ne e]
        obtain⟨tg,hmt⟩:=BR hrow
        have hw:=hi.write (t':=none) hmt (fun _ h=>by cases h) hl hn0 (els.set i (setCells y j x.cells)) l cs' f1 hcsz hk (by simp[hb.ht]) rfl rfl rfl rfl (by simp) hwid (by simpa using hfit)
         (fun c hc=>by
           rw[hget,if_neg];intro g;have:(z-l.sh)*k<=(i-l.sh)*k:=mul_le_mul_right k (by omega);omega)
         (fun i' j' q r g1 g2 g3=>by
           rw[hlset];rw[hget];by_cases e:i=i'
           ·subst e;rw[List.getElem?_set_self hi']at g1;obtain rfl:=Option.some.inj g1;rw[hset.2]at g2;by_cases g:j<=j'/\j'<j+x.cells.length
            ·rw[if_pos g]at g2;rw[if_pos (by omega)];have hlt:j'-j<vx.cells.size:=by omega
             have e1:l.o+(i-l.sh)*k+j'-(l.o+(i-l.sh)*k+j)=j'-j:=by omega
             have h1:=hcell.2.2 _ r g2;have h2:=hcell.2.1 _ hlt;rw[e1];refine⟨vx.cells[j'-j],by simp[hlt],?_,?_⟩
             ·simpa [getD_eq_getD_getElem?,hlt] using h2
             ·simpa [getD_eq_getD_getElem?,hlt] using h1
            ·rw[if_neg g]at g2;rw[if_neg (by omega)];exact f3 i j' y r hy g2 v1
           ·rw[List.getElem?_set_ne e]at g1;have hj':j'<k:=by rw[<- hb.wid q (mem_of_getElem? g1)];exact(List.getElem?_eq_some_iff.1 g2).1
            have hap:=Ey (s:=k) (i:=i-l.sh) (i':=i'-l.sh) hj' (by omega);rw[if_neg (by omega)];exact f3 i' j' q r g1 g2 g3)
        refine⟨_,_,?_,hw.1,hw.2⟩;unfold Instr.storeAt;simp only[Sem.run_bind,Instr.sureAddr,Sem.run_pure,Result.andThen_ok,storeVar,Aj hs,Sem.run_ite];rw[if_neg (by simp[hsz])];rw[<- hk]at hst;exact hst
     ·simp at h
    ·simp at h
   ·simp at h
  ·simp at h
 ·simp at h
variable [VarTab]
set_option linter.unusedSectionVars false
open Go.RowKit
variable {P:Program}{B0:Nat}{w0:Base}{w:World}{I:Imm}{H:List MB}{L:List Lay}
theorem C8 {n b:Nat} (h:roomFor n b=true):n*b<=35184372088832/\n<=35184372088832/\b<=1048576:=by
 simpa [roomFor] using h
theorem wrap_i64 (n:Int) (h0:0<=n) (h1:n<=35184372088832):IntKind.i64.wrap n=n:=by
 have e:n % 18446744073709551616=n:=Int.emod_eq_of_lt h0 (by omega);show (if(true&&decide (n % 18446744073709551616 >= 9223372036854775808))=true then n % 18446744073709551616-18446744073709551616 else n % 18446744073709551616)=n;simp only[e,Bool.true_and,decide_eq_true_eq];rw[if_neg (by omega)]
theorem IJ (arr:Array Value) (a b:Nat) (h:a<=b) (hb:b=arr.size):arr=arr.extract 0 a++arr.extract a b:=by
 subst hb;rw[Array.extract_append_extract,Nat.min_eq_left (zero_le _),Nat.max_eq_right h,Array.extract_size]
theorem D2 (hi:Inv B0 w0 I H L w) {T:TypeId}{l c:AV}{vl vc:Value} (hl:Rep I L l vl) (hc:Rep I L c vc) {r:AV}{H':List MB} (h:evMakeSlice P H T l c=some (r,H')) :
  ∃ u w' L',(Instr.makeSlice T vl vc).run P w=.ok u w'/\Inv B0 w0 I H' L' w'/\Ext I L I L'/\Rep I L' r u:=by
 unfold evMakeSlice at h;split at h
 ·rename_i e k1 n k2 m he;cases hl;cases hc;split at h
  ·rename_i k by_ z hk hby hz;split at h
   ·rename_i hcond;obtain⟨c1,c2,c3,c4,c5,c6⟩:=hcond;simp at h;obtain⟨rfl,rfl⟩:=h;obtain⟨r1,r2,r3⟩:=C8 c3;have hu:=BP he;obtain⟨inf,hinf,hbyt⟩:=C6 hby
    obtain⟨v,z1,z2,z3⟩:=BU (I:=I) (L:=L) hz c6;have hm:m=(m.toNat:Int):=by omega
    have hn:n=(n.toNat:Int):=by omega
    have hrow:=DX (I:=I) (L:=L) z2 c5 c4 (n:=m.toNat);have hrown:RowRep I L k (List.replicate n.toNat z) (((Array.range (m.toNat*k)).map fun i=>v.cells[i % v.cells.size]!).extract 0 (n.toNat*k)):=by
     have hnm:n.toNat*k<=m.toNat*k:=mul_le_mul_right k (by omega);have hmin:min n.toNat m.toNat=n.toNat:=Nat.min_eq_left (by omega);have hmin2:min (n.toNat*k) (m.toNat*k)=n.toNat*k:=Nat.min_eq_left hnm;refine⟨by simp[hmin2],fun x hx=>by rw[List.eq_of_mem_replicate hx];exact c5,fun i j x y h1 h2=>?_⟩;have hi':i<n.toNat:=by
      have:=(List.getElem?_eq_some_iff.1 h1).1
      simpa using this
     have hx:x=z:=List.eq_of_mem_replicate (mem_of_getElem? h1);have hj:j<k:=by rw[<- c5,<- hx];exact(List.getElem?_eq_some_iff.1 h2).1
     have hmk:(i+1)*k<=n.toNat*k:=mul_le_mul_right k hi';rw[add_mul]at hmk;have:=hrow.2.2 i j x y (by rw[hx,List.getElem?_replicate,if_pos (by omega)]) h2
     have e1:(((Array.range (m.toNat*k)).map fun i=>v.cells[i % v.cells.size]!).extract 0 (n.toNat*k)).getD (i*k+j) undef =
       ((Array.range (m.toNat*k)).map fun i=>v.cells[i % v.cells.size]!).getD (i*k+j) undef:=by
      simp only[getD_eq_getD_getElem?,Array.getElem?_extract];rw[if_pos (by simp[hmin2];omega)];simp
     rw[e1];exact this
    have hsplit:((Array.range (m.toNat*k)).map fun i=>v.cells[i % v.cells.size]!) =
      (((Array.range (m.toNat*k)).map fun i=>v.cells[i % v.cells.size]!).extract 0 (n.toNat*k))++(((Array.range (m.toNat*k)).map fun i=>v.cells[i % v.cells.size]!).extract (n.toNat*k) (m.toNat*k)):=by
     have hnm:n.toNat*k<=m.toNat*k:=mul_le_mul_right k (by omega);exact IJ _ _ _ hnm (by simp)
    have hnew:=DS hi hrown e (((Array.range (m.toNat*k)).map fun i=>v.cells[i % v.cells.size]!).extract (n.toNat*k) (m.toNat*k));rw[<- hsplit]at hnew;simp only[List.length_replicate]at hnew;refine⟨.slice (some ⟨w.heap.size,0,none⟩) n.toNat m.toNat,_,_,?_,hnew.1,hnew.2,?_⟩
    ·unfold Instr.makeSlice;have w1:IntKind.i64.wrap n=n:=wrap_i64 n c1 (by omega);have w2:IntKind.i64.wrap m=m:=wrap_i64 m (by omega) (by omega);have hti:(typeInfo e).run P w=.ok inf w:=by simp[typeInfo,hinf]
     have hbm:(inf.bytes:Int)*m<=35184372088832:=by
      rw[hbyt,hm];have h:=Int.ofNat_le.2 r1;rw[Int.natCast_mul,Int.mul_comm]at h;omega
     have t1:(decide (m<0)||decide ((inf.bytes:Int)*m > 2 ^ 48))=false:=by
      rw[Bool.or_eq_false_iff];exact⟨decide_eq_false (by omega),decide_eq_false (by
       have:(2:Int) ^ 48=281474976710656:=by decide
       rw[this];omega)⟩
     simp only[Sem.run_bind,run_underlying hu,Result.andThen_ok,asInt,asIntOf,Sem.run_pure,hti,w1,w2,t1];rw[if_neg (by
      have g1:decide (n<0)=false:=decide_eq_false (by omega);have g2:decide (n > m)=false:=decide_eq_false (by omega);simp only[Bool.false_or,g1,g2];decide)]
     simp only[Sem.run_bind,run_askRoom,Result.andThen_ok,Aj hk];by_cases h0:m.toNat*k=0
     ·have e0:((Array.range (m.toNat*k)).map fun i=>(#[]:Array Value)[i % (#[]:Array Value).size]!)=((Array.range (m.toNat*k)).map fun i=>v.cells[i % v.cells.size]!):=by
       rw[h0];simp
      simp only[if_pos h0,Sem.run_bind,Sem.run_pure,Result.andThen_ok,e0,newRow,run_newObj_alloc]
     ·simp only[if_neg h0,Sem.run_bind,Sem.run_pure,Result.andThen_ok,z1,newRow,run_newObj_alloc]
    ·refine .ms H.length k n.toNat 0 n.toNat _ w.heap.size 0 m.toNat (by rw[<- hi.len];exact D8 L _) (le_refl _) rfl (by omega) (by omega) (fun _=>⟨le_refl _,rfl,by simp,by omega,?_⟩);simp
   ·simp at h
  ·simp at h
 ·simp at h
theorem ED {x:AV}{v:Value} (hx:Rep I L x v) {y r:Nat} (h:bnd x y=some r) (c:BoundsCode) (w:World):(Instr.sliceBound v y c).run P w=.ok r w/\r<=y:=by
 unfold bnd at h;split at h
 ·rename_i k n;cases hx;split at h
  ·rename_i hc;simp at h;subst h;refine⟨?_,by omega⟩;unfold Instr.sliceBound;simp only[Sem.run_bind,asIntOf,Sem.run_pure,Result.andThen_ok];rw[if_pos hc];rfl
  ·simp at h
 ·simp at h
theorem Bk {ρ:Operand->AV} {ρc:Operand->Value} (hρ:∀ x,Rep I L (ρ x) (ρc x)) {lo hi:Option Operand}{len cap hh ll:Nat}{isS:Bool} (hlc:len<=cap)
  (h1:bndO (hi.map ρ) len len=some hh) (h2:bndO (lo.map ρ) hh 0=some ll) (w:World) :
  (Instr.sliceBounds isS len cap (lo.map ρc) (hi.map ρc) none).run P w=.ok (ll,hh,cap) w/\ll<=hh/\hh<=len:=by
 have hb:∀(x:Operand) (y y' r:Nat) (c:BoundsCode),y<=y'->bnd (ρ x) y=some r->(Instr.sliceBound (ρc x) y' c).run P w=.ok r w/\r<=y:=by
  intro x y y' r c hy hr;have h3:bnd (ρ x) y' = some r:=by
   unfold bnd at hr |-;split at hr
   ·split at hr
    ·rename_i g;rw[if_pos (by omega)];exact hr
    ·simp at hr
   ·simp at hr
  refine⟨(ED (hρ x) h3 c w).1,(ED (P:=P) (hρ x) hr c w).2⟩
 cases hi with
 | none=>
   simp[bndO]at h1;subst h1;cases lo with
   | none=>
     simp[bndO]at h2;subst h2;exact⟨by unfold Instr.sliceBounds;simp,zero_le _,le_refl _⟩
   | some x=>
     simp only[map_some,bndO]at h2;obtain⟨g1,g2⟩:=hb x _ _ _ (if(none:Option Value).isSome then .slice3C else .sliceB) (le_refl _) h2;exact⟨by unfold Instr.sliceBounds;simp at g1;simp[g1],g2,le_refl _⟩
 | some y=>
   simp only[map_some,bndO]at h1;obtain⟨f1,f2⟩:=hb y _ cap _ (if isS then .sliceAcap else .sliceAlen) hlc h1;cases lo with
   | none=>
     simp[bndO]at h2;subst h2;exact⟨by unfold Instr.sliceBounds;simp[f1],zero_le _,f2⟩
   | some x=>
     simp only[map_some,bndO]at h2;obtain⟨g1,g2⟩:=hb x _ _ _ (if(none:Option Value).isSome then .slice3C else .sliceB) (le_refl _) h2;exact⟨by unfold Instr.sliceBounds;simp at g1;simp[f1,g1],g2,f2⟩
theorem Dx {ρ:Operand->AV} {ρc:Operand->Value} (hρ:∀ x,Rep I L (ρ x) (ρc x)) {lo hi:Option Operand}{mo:Operand}{len cap mm hh ll:Nat}{isS:Bool} (hlc:len<=cap)
  (h0:bnd (ρ mo) len=some mm) (h1:bndH (hi.map ρ) mm=some hh) (h2:bndO (lo.map ρ) hh 0=some ll) (w:World) :
  (Instr.sliceBounds isS len cap (lo.map ρc) (hi.map ρc) (some (ρc mo))).run P w=.ok (ll,hh,mm) w/\ll<=hh/\hh<=mm/\mm<=len:=by
 have hb:∀(x:Operand) (y y' r:Nat) (c:BoundsCode),y<=y'->bnd (ρ x) y=some r->(Instr.sliceBound (ρc x) y' c).run P w=.ok r w/\r<=y:=by
  intro x y y' r c hy hr;have h3:bnd (ρ x) y' = some r:=by
   unfold bnd at hr |-;split at hr
   ·split at hr
    ·rename_i g;rw[if_pos (by omega)];exact hr
    ·simp at hr
   ·simp at hr
  refine⟨(ED (hρ x) h3 c w).1,(ED (P:=P) (hρ x) hr c w).2⟩
 cases hi with
 | none=>simp[bndH]at h1
 | some y=>
   simp only[map_some,bndH]at h1;obtain⟨m1,m2⟩:=hb mo _ cap _ (if isS then .slice3Acap else .slice3Alen) hlc h0;obtain⟨f1,f2⟩:=hb y _ _ _ .slice3B (le_refl _) h1;cases lo with
   | none=>
     simp[bndO]at h2;subst h2;exact⟨by unfold Instr.sliceBounds;simp[m1,f1],zero_le _,f2,m2⟩
   | some x=>
     simp only[map_some,bndO]at h2;obtain⟨g1,g2⟩:=hb x _ _ _ .slice3C (le_refl _) h2;exact⟨by unfold Instr.sliceBounds;simp[m1,f1,g1],g2,f2,m2⟩
theorem He {n s:Nat}{cs:List AV} (hc:1<=s/\cs.length=n*s/\(s=1->cs.all AV.ok=true)) {i:Nat}{x:AV} (h:(chunks n s cs)[i]?=some x):i<n/\x.cells=(cs.drop (i*s)).take s:=by
 unfold chunks at h;split at h
 ·rename_i h1;subst h1;obtain⟨h2,h3⟩:=List.getElem?_eq_some_iff.1 h;have h4:=hc.2.1;refine⟨by omega,?_⟩;have hok:=all_eq_true.1 (hc.2.2 rfl) x (mem_of_getElem? h);have h5:x.cells=[x]:=by cases x<;>first|rfl|(simp[AV.ok]at hok)
  rw[h5,Nat.mul_one,List.drop_eq_getElem_cons h2,h3];rfl
 ·rw[getElem?_map,map_eq_some_iff]at h;obtain⟨j,h1,rfl⟩:=h;obtain⟨h2,h3⟩:=List.getElem?_eq_some_iff.1 h1;simp at h2 h3;subst h3;exact⟨h2,rfl⟩
theorem FH {n s:Nat}{cs:List AV} (hc:1<=s/\cs.length=n*s/\(s=1->cs.all AV.ok=true)):(chunks n s cs).length=n:=by
 unfold chunks;split
 ·rename_i h1;rw[hc.2.1,h1,Nat.mul_one]
 ·simp
theorem EM {T:TypeId}{n:Nat}{e:TypeId} (ha:tyArr P T=some (n,e)) {xo:Operand}{lo hi mx:Option Operand} {ρ:Operand->AV} {ρc:Operand->Value} (hρ:∀ x,Rep I L (ρ x) (ρc x))
  {r:AV}{H':List MB} (h:evSliceArr P H n e (ρ xo) (lo.map ρ) (hi.map ρ) (mx.map ρ)=some (r,H')) :
  ∃ u,(Instr.sliceAt T (ρc xo) (lo.map ρc) (hi.map ρc) (mx.map ρc)).run P w=.ok u w/\H' = H/\Rep I L r u:=by
 have hx:=hρ xo;have hu:=DK ha;unfold evSliceArr at h;split at h
 ·rename_i cs hs hmx;cases mx with
  | some q=>simp at hmx
  | none=>
    rw[hs]at hx;split at h
    ·rename_i s hsz;split at h
     ·rename_i hc;split at h
      ·rename_i hh h1;split at h
       ·rename_i ll h2;simp at h;obtain⟨rfl,rfl⟩:=h;generalize hv:ρc xo=v at hx;cases hx with
        | pt cs' b o f hI hR=>
          obtain⟨b1,b2,b3⟩:=Bk (P:=P) (isS:=false) hρ (le_refl n) h1 h2 w;have hlen:(((chunks n s cs).take hh).drop ll).length=hh-ll:=by simp[FH hc];omega
          have hget:∀(i:Nat) (x:AV),(((chunks n s cs).take hh).drop ll)[i]?=some x->ll+i<n/\x.cells=(cs.drop ((ll+i)*s)).take s:=by
           intro i x hx;rw[getElem?_drop,getElem?_take]at hx;split at hx
           ·exact He hc hx
           ·simp at hx
          have hcl:∀(i:Nat) (x:AV),(((chunks n s cs).take hh).drop ll)[i]?=some x->x.cells.length=s:=by
           intro i x hx;obtain⟨g1,g2⟩:=hget i x hx;have:(ll+i+1)*s<=n*s:=mul_le_mul_right s (by omega);rw[add_mul,Nat.one_mul]at this;have:=hc.2.1;rw[g2];simp only[List.length_take,List.length_drop];omega
          have hcg:∀(i j:Nat) (x y:AV),(((chunks n s cs).take hh).drop ll)[i]?=some x->x.cells[j]?=some y->cs[(ll+i)*s+j]?=some y:=by
           intro i j x y g1 g2;obtain⟨_,g3⟩:=hget i x g1;rw[g3]at g2;simp only[getElem?_take,getElem?_drop]at g2;split at g2
           ·exact g2
           ·simp at g2
          refine⟨.slice (some ⟨b,if n=ll then o else o+ll*s,none⟩) (hh-ll) (n-ll),?_,rfl,?_⟩
          ·unfold Instr.sliceAt;simp only[Sem.run_bind,run_underlying hu,Result.andThen_ok,map_none,Instr.sureAddr,Sem.run_pure,b1,Aj hsz];have haddr:(if n=ll then(⟨b,o,none⟩:Addr) else(⟨b,o,none⟩:Addr).add (ll*s))=⟨b,if n=ll then o else o+ll*s,none⟩:=by
            split
            ·rfl
            ·rw[Addr.add_lit]
           rw[haddr]
          ·rw[<- hlen];refine .sl _ _ b _ (n-ll) s (fun i j=>f ((ll+i)*s+j)) (by rw[hlen];omega) (fun h=>by cases h) (fun x hx=>?_) (fun i j x y g1 g2=>?_) (fun i j x y g1 g2=>hR _ y (hcg i j x y g1 g2))
           ·obtain⟨i,hi'⟩:=getElem?_of_mem hx;exact hcl i x hi'
           ·have hlt:=(hget i x g1).1;rw[if_neg (by omega)];have:=hI _ y (hcg i j x y g1 g2);have e1:o+((ll+i)*s+j)=o+ll*s+i*s+j:=by rw[add_mul];omega
            rwa [e1]at this
       ·simp at h
      ·simp at h
     ·simp at h
    ·simp at h
 ·simp at h
theorem GR {T:TypeId}{xo:Operand}{lo hi mx:Option Operand} {ρ:Operand->AV} {ρc:Operand->Value} (hρ:∀ x,Rep I L (ρ x) (ρc x)) {r:AV}{H':List MB}
  (h:evSlice P H T (ρ xo) (lo.map ρ) (hi.map ρ) (mx.map ρ)=some (r,H')) :
  ∃ u,(Instr.sliceAt T (ρc xo) (lo.map ρc) (hi.map ρc) (mx.map ρc)).run P w=.ok u w/\H' = H/\Rep I L r u:=by
 have hx:=hρ xo;have hat:∀ d,P.underlying T=some d->(∀ n e,d≠.array n e)->(Instr.sliceAt T (ρc xo) (lo.map ρc) (hi.map ρc) (mx.map ρc)).run P w=(Instr.slice T (ρc xo) (lo.map ρc) (hi.map ρc) (mx.map ρc)).run P w:=by
  intro d hd hn;unfold Instr.sliceAt;simp only[Sem.run_bind,run_underlying hd,Result.andThen_ok]
 unfold evSlice at h;split at h
 ·rename_i s hs hmx;cases mx with
  | some q=>simp at hmx
  | none=>
    rw[hs]at hx;split at h
    ·rename_i hstr;have hu:=CH hstr;split at h
     ·rename_i hh h1;split at h
      ·rename_i ll h2;simp at h;obtain⟨rfl,rfl⟩:=h;rw[hat _ hu (fun _ _ h=>by cases h)];generalize hv:ρc xo=v at hx;cases hx;obtain⟨b1,_⟩:=Bk (P:=P) (isS:=false) hρ (le_refl _) h1 h2 w;refine⟨_,?_,rfl,.str _⟩;unfold Instr.slice;simp only[Sem.run_bind,run_underlying hu,Result.andThen_ok];simp[b1]
      ·simp at h
     ·simp at h
    ·simp at h
 ·rename_i t xs hs hmx;cases mx with
  | some q=>simp at hmx
  | none=>
    rw[hs]at hx;split at h
    ·rename_i e he;have hu:=BP he;split at h
     ·rename_i s hsz;split at h
      ·rename_i hw;split at h
       ·rename_i hh h1;split at h
        ·rename_i ll h2;simp at h;obtain⟨rfl,rfl⟩:=h;rw[hat _ hu (fun _ _ h=>by cases h)];generalize hv:ρc xo=v at hx;generalize hxx:AV.sl t xs=x at hx;cases hx with
         | nilsl t'=>
           simp at hxx;obtain⟨rfl,rfl⟩:=hxx;obtain⟨b1,b2,b3⟩:=Bk (P:=P) (isS:=true) hρ (le_refl _) h1 h2 w;simp at b1 b3;have e1:hh=0:=by omega
           have e2:ll=0:=by omega
           subst e1;subst e2;refine⟨.slice none 0 0,?_,rfl,by simpa using Rep.nilsl _⟩;unfold Instr.slice;simp only[Sem.run_bind,run_underlying hu,Result.andThen_ok,map_none];simp[b1,Aj hsz]
         | sl t' xs' b o c k f hc ht hk hI hR=>
           simp at hxx;obtain⟨rfl,rfl⟩:=hxx;obtain⟨b1,b2,b3⟩:=Bk (P:=P) (isS:=true) hρ hc h1 h2 w;have hlen:((xs.take hh).drop ll).length=hh-ll:=by simp;omega
           have hks:∀ x∈xs,x.cells.length=s:=by
            intro x hx;have:=all_eq_true.1 hw x hx
            simpa using this
           have hget:∀ i x,((xs.take hh).drop ll)[i]?=some x->xs[ll+i]?=some x:=by
            intro i x hx;rw[getElem?_drop,getElem?_take]at hx;split at hx
            ·exact hx
            ·simp at hx
           have haddr:(if c=ll then some (⟨b,o,none⟩:Addr) else some ((⟨b,o,none⟩:Addr).add (ll*s)))=some ⟨b,if c=ll then o else o+ll*s,none⟩:=by
            split
            ·rfl
            ·rw[Addr.add_lit]
           refine⟨.slice (some ⟨b,if c=ll then o else o+ll*s,none⟩) (hh-ll) (c-ll),?_,rfl,?_⟩
           ·unfold Instr.slice;simp only[Sem.run_bind,run_underlying hu,Result.andThen_ok,map_none,b1,Aj hsz,Sem.run_pure,map_some];rw[haddr]
           ·rw[<- hlen];refine .sl _ _ b _ (c-ll) s (fun i j=>f (ll+i) j) (by rw[hlen];omega) (fun h=>?_) (fun x hx=>?_) (fun i j x y g1 g2=>?_) (fun i j x y g1 g2=>hR _ j x y (hget i x g1) g2)
            ·simp at h;have:=ht h.1;omega
            ·obtain⟨i,hi'⟩:=getElem?_of_mem hx;exact hks x (mem_of_getElem? (hget i x hi'))
            ·have hm:=mem_of_getElem? (hget i x g1);have hkk:k=s:=by rw[<- hk x hm,hks x hm]
             have hlt:ll+i<xs.length:=(List.getElem?_eq_some_iff.1 (hget i x g1)).1;rw[if_neg (by omega)];have:=hI (ll+i) j x y (hget i x g1) g2;rw[hkk]at this;have e1:o+(ll+i)*s+j=o+ll*s+i*s+j:=by rw[add_mul];omega
             rwa [e1]at this
         | _=>cases hxx
        ·simp at h
       ·simp at h
      ·simp at h
     ·simp at h
    ·simp at h
 ·rename_i t xs mv hs hmx;cases mx with
  | none=>simp at hmx
  | some mo=>
    simp only[map_some,Option.some.injEq]at hmx;subst hmx;rw[hs]at hx;split at h
    ·rename_i e he;have hu:=BP he;split at h
     ·rename_i s hsz;split at h
      ·rename_i hw;split at h
       ·rename_i mm h0;split at h
        ·rename_i hh h1;split at h
         ·rename_i ll h2;simp at h;obtain⟨rfl,rfl⟩:=h;rw[hat _ hu (fun _ _ h=>by cases h)];generalize hv:ρc xo=v at hx;generalize hxx:AV.sl t xs=x at hx;cases hx with
          | nilsl t'=>
            simp at hxx;obtain⟨rfl,rfl⟩:=hxx;obtain⟨b1,b2,b3,b4⟩:=Dx (P:=P) (isS:=true) hρ (le_refl _) h0 h1 h2 w;simp at b1 b4;have e0:mm=0:=by omega
            have e1:hh=0:=by omega
            have e2:ll=0:=by omega
            subst e0;subst e1;subst e2;refine⟨.slice none 0 0,?_,rfl,by simpa using Rep.nilsl _⟩;unfold Instr.slice;simp only[Sem.run_bind,run_underlying hu,Result.andThen_ok,map_some];simp[b1,Aj hsz]
          | sl t' xs' b o c k f hc ht hk hI hR=>
            simp at hxx;obtain⟨rfl,rfl⟩:=hxx;obtain⟨b1,b2,b3,b4⟩:=Dx (P:=P) (isS:=true) hρ hc h0 h1 h2 w;have hlen:((xs.take hh).drop ll).length=hh-ll:=by simp;omega
            have hks:∀ x∈xs,x.cells.length=s:=by
             intro x hx;have:=all_eq_true.1 hw x hx
             simpa using this
            have hget:∀ i x,((xs.take hh).drop ll)[i]?=some x->xs[ll+i]?=some x:=by
             intro i x hx;rw[getElem?_drop,getElem?_take]at hx;split at hx
             ·exact hx
             ·simp at hx
            have haddr:(if mm=ll then some (⟨b,o,none⟩:Addr) else some ((⟨b,o,none⟩:Addr).add (ll*s)))=some ⟨b,if mm=ll then o else o+ll*s,none⟩:=by
             split
             ·rfl
             ·rw[Addr.add_lit]
            refine⟨.slice (some ⟨b,if mm=ll then o else o+ll*s,none⟩) (hh-ll) (mm-ll),?_,rfl,?_⟩
            ·unfold Instr.slice;simp only[Sem.run_bind,run_underlying hu,Result.andThen_ok,map_some,b1,Aj hsz,Sem.run_pure];rw[haddr]
            ·rw[<- hlen];refine .sl _ _ b _ (mm-ll) s (fun i j=>f (ll+i) j) (by rw[hlen];omega) (fun h=>?_) (fun x hx=>?_) (fun i j x y g1 g2=>?_) (fun i j x y g1 g2=>hR _ j x y (hget i x g1) g2)
             ·simp at h;rw[hlen];omega
             ·obtain⟨i,hi'⟩:=getElem?_of_mem hx;exact hks x (mem_of_getElem? (hget i x hi'))
             ·have hm:=mem_of_getElem? (hget i x g1);have hkk:k=s:=by rw[<- hk x hm,hks x hm]
              have hlt:ll+i<xs.length:=(List.getElem?_eq_some_iff.1 (hget i x g1)).1;have hlt2:i<((xs.take hh).drop ll).length:=(List.getElem?_eq_some_iff.1 g1).1;rw[if_neg (by omega)];have:=hI (ll+i) j x y (hget i x g1) g2;rw[hkk]at this;have e1:o+(ll+i)*s+j=o+ll*s+i*s+j:=by rw[add_mul];omega
              rwa [e1]at this
          | _=>cases hxx
         ·simp at h
        ·simp at h
       ·simp at h
      ·simp at h
     ·simp at h
    ·simp at h
 ·rename_i id k tot off len hs hmx;cases mx with
  | some q=>simp at hmx
  | none=>
    rw[hs]at hx;split at h
    ·rename_i e he;have hu:=BP he;split at h
     ·rename_i s hsz;split at h
      ·rename_i hsk;obtain⟨rfl,h0⟩:=hsk;split at h
       ·rename_i hh h1;split at h
        ·rename_i ll h2;simp at h;obtain⟨rfl,rfl⟩:=h;rw[hat _ hu (fun _ _ h=>by cases h)];generalize hv:ρc xo=v at hx;cases hx with
         | msn _ _ l hL hk=>
           obtain⟨b1,b2,b3⟩:=Bk (P:=P) (isS:=true) hρ (le_refl _) h1 h2 w;simp at b1 b3;have e1:hh=0:=by omega
           have e2:ll=0:=by omega
           subst e1;subst e2;refine⟨.slice none 0 0,?_,rfl,by simpa using Rep.msn (I:=I) id s l hL hk⟩;unfold Instr.slice;simp only[Sem.run_bind,run_underlying hu,Result.andThen_ok,map_none];simp[b1,Aj hsz]
         | ms _ _ _ _ _ l b o c hL ht hk hl2 hlc hvv=>
           obtain⟨b1,b2,b3⟩:=Bk (P:=P) (isS:=true) hρ hlc h1 h2 w;have haddr:(if c=ll then some (⟨b,o,none⟩:Addr) else some ((⟨b,o,none⟩:Addr).add (ll*s)))=some ⟨b,if c=ll then o else o+ll*s,none⟩:=by
            split
            ·rfl
            ·rw[Addr.add_lit]
           refine⟨.slice (some ⟨b,if c=ll then o else o+ll*s,none⟩) (hh-ll) (c-ll),?_,rfl,?_⟩
           ·unfold Instr.slice;simp only[Sem.run_bind,run_underlying hu,Result.andThen_ok,map_none,b1,Aj hsz,Sem.run_pure,map_some];rw[haddr]
           ·refine .ms id s tot (off+ll) (hh-ll) l b _ (c-ll) hL ht hk (by omega) (by omega) (fun e=>?_);obtain⟨v1,v2,v3,v4,v5⟩:=hvv e;have e1:off+ll-l.sh+(c-ll)=off-l.sh+c:=by omega
            refine⟨by omega,v2,fun h0=>?_,by omega,by rw[e1];exact v5⟩;rw[if_neg (by omega),v3 (by omega)];have e2:off+ll-l.sh=off-l.sh+ll:=by omega
            rw[e2,add_mul];omega
        ·simp at h
       ·simp at h
      ·simp at h
     ·simp at h
    ·simp at h
 ·simp at h
variable [VarTab]
set_option linter.unusedSectionVars false
open Go.RowKit
variable {P:Program}{B0:Nat}{w0:Base}{w:World}{I:Imm}{H:List MB}{L:List Lay}
theorem RowRep.append {k:Nat}{xs ys:List AV}{cs ds:Array Value} (h:RowRep I L k xs cs) (h':RowRep I L k ys ds):RowRep I L k (xs++ys) (cs++ds):=by
 refine⟨by rw[Array.size_append,h.1,h'.1,List.length_append,add_mul],fun x hx=>?_,fun i j x y h1 h2=>?_⟩
 ·rcases List.mem_append.1 hx with g|g
  ·exact h.2.1 x g
  ·exact h'.2.1 x g
 ·have hj:j<k:=by
   have hm:x∈xs++ys:=mem_of_getElem? h1;have:x.cells.length=k:=by
    rcases List.mem_append.1 hm with g|g
    ·exact h.2.1 x g
    ·exact h'.2.1 x g
   rw[<- this];exact(List.getElem?_eq_some_iff.1 h2).1
  by_cases g:i<xs.length
  ·rw[getElem?_append_left g]at h1;have hm:(i+1)*k<=xs.length*k:=mul_le_mul_right k g;rw[add_mul]at hm;have hlt:i*k+j<cs.size:=by rw[h.1];omega
   have e:(cs++ds).getD (i*k+j) undef=cs.getD (i*k+j) undef:=by
    simp only[getD_eq_getD_getElem?,Array.getElem?_append_left hlt]
   rw[e];exact h.2.2 i j x y h1 h2
  ·rw[getElem?_append_right (by omega)]at h1;have e1:i*k+j=cs.size+((i-xs.length)*k+j):=by
    rw[h.1];have:i*k=xs.length*k+(i-xs.length)*k:=by rw[<- add_mul];congr 1;omega
    omega
   have e:(cs++ds).getD (i*k+j) undef=ds.getD ((i-xs.length)*k+j) undef:=by
    simp only[getD_eq_getD_getElem?];rw[Array.getElem?_append_right (by omega)];congr 2;omega
   rw[e];exact h'.2.2 _ j x y h1 h2
theorem FT {k:Nat}{ys:List AV}{b o:Nat} (hk:∀ x∈ys,x.cells.length=k)
  (hc:∀ i j x y,ys[i]?=some x->x.cells[j]?=some y->∃ u,w.cell? ⟨b,o+i*k+j,none⟩=some u/\scal u=true/\Rep I L y u) :
  ∃ cs,(loadCells ⟨b,o,none⟩ (ys.length*k)).run P w=.ok cs w/\RowRep I L k ys cs:=by
 have hex:∀ c,c<ys.length*k->∃ u,w.cell? ⟨b,o+c,none⟩=some u:=by
  intro c hc';have hk0:0<k:=by
   rcases Nat.eq_zero_or_pos k with g|g
   ·subst g;simp at hc'
   ·exact g
  have h1:c / k<ys.length:=Nat.div_lt_of_lt_mul (by rw[mul_comm];exact hc');have h2:c % k<k:=Nat.mod_lt _ hk0;have hx:=List.getElem?_eq_getElem h1;have hy:(ys[c / k]).cells[c % k]?=some _:=List.getElem?_eq_getElem (by rw[hk _ (List.getElem_mem h1)];exact h2);obtain⟨u,e,_⟩:=hc _ _ _ _ hx hy;refine⟨u,?_⟩;rw[<- e];have:c=c / k*k+c % k:=by rw[mul_comm];exact(Nat.div_add_mod c k).symm
  congr 2;omega
 have hrun:=run_loadCells (P:=P) w ⟨b,o,none⟩ (ys.length*k) (fun c=>(w.cell? ⟨b,o+c,none⟩).getD undef) (fun c hc'=>by
  obtain⟨u,e⟩:=hex c hc';rw[Addr.add_lit,e];rfl)
 refine⟨_,hrun,by simp,hk,fun i j x y h1 h2=>?_⟩;obtain⟨u,e1,e2,e3⟩:=hc i j x y h1 h2;have hi:i<ys.length:=(List.getElem?_eq_some_iff.1 h1).1;have hj:j<k:=by rw[<- hk x (mem_of_getElem? h1)];exact(List.getElem?_eq_some_iff.1 h2).1
 have hm:(i+1)*k<=ys.length*k:=mul_le_mul_right k hi;rw[add_mul]at hm;have hlt:i*k+j<ys.length*k:=by omega
 have e:(((List.range (ys.length*k)).map fun c=>(w.cell? ⟨b,o+c,none⟩).getD undef).toArray).getD (i*k+j) undef=u:=by
  simp only[getD_eq_getD_getElem?,List.getElem?_toArray,getElem?_map,List.getElem?_range hlt,map_some,getD_some];rw[<- Nat.add_assoc,e1];rfl
 rw[e];exact⟨e2,e3⟩
theorem CL (hi:Inv B0 w0 I H L w) {x:AV}{v:Value} (hr:Rep I L x v) {ys:List AV} (h:elemsOf H x=some ys) {k:Nat} (hk:∀ y∈ys,y.cells.length=k) :
  ∃ cs,(Builtin.lenOf v).run P w=.ok ys.length w/\(Builtin.firstCells k ys.length v).run P w=.ok cs w/\RowRep I L k ys cs:=by
 unfold elemsOf at h;split at h
 ·rename_i t xs;simp at h;subst h;generalize hx:AV.sl t xs=x at hr;cases hr with
  | nilsl t'=>
    simp at hx;obtain⟨rfl,rfl⟩:=hx;exact⟨#[],rfl,rfl,by simp,fun y hy=>by simp at hy,fun i j x y h1=>by simp at h1⟩
  | sl t' xs' b o c k' f hc ht hk' hI hR=>
    simp at hx;obtain⟨rfl,rfl⟩:=hx;obtain⟨cs,e1,e2⟩:=FT (P:=P) (w:=w) (I:=I) (L:=L) (b:=b) (o:=o) hk (fun i j x y h1 h2=>by
     have hm:=mem_of_getElem? h1;have hkk:k' = k:=by rw[<- hk' x hm,hk x hm]
     have:=hI i j x y h1 h2;rw[hkk]at this;exact⟨_,hi.cell this.1,this.2,hR i j x y h1 h2⟩)
    exact⟨cs,rfl,e1,e2⟩
  | _=>cases hx
 ·rename_i id k2 tot off len;split at h
  ·rename_i k' els z hrow;split at h
   ·rename_i hc;obtain⟨c1,c2⟩:=hc;simp at h;subst h;obtain⟨l,hl,hb⟩:=hi.row hrow;cases hr with
    | msn _ _ l2 hL hk2=>
      have hz:(Builtin.firstCells k 0 (.slice none 0 0)).run P w=.ok #[] w:=by
       unfold Builtin.firstCells
       first|rfl|(rw[zero_mul];rfl)
      exact⟨#[],by simp;rfl,by simpa using hz,by simp,fun y hy=>by simp at hy,fun i j x y h1=>by simp at h1⟩
    | ms _ _ _ _ _ l2 b o c hL ht hk2 hl2 hlc hv=>
      rw[hl]at hL;obtain rfl:=Option.some.inj hL;obtain⟨v1,v2,v3,v4,v5⟩:=hv (by rw[hb.ht];exact c1.symm);subst v2;have hlen:((els.drop off).take len).length=len:=by simp;omega
      rw[hlen];by_cases h0:len=0
      ·subst h0;have hz:(Builtin.firstCells k 0 (.slice (some ⟨l.b,o,none⟩) 0 c)).run P w=.ok #[] w:=by
        unfold Builtin.firstCells;rw[zero_mul];rfl
       exact⟨#[],rfl,hz,by simp,fun y hy=>by simp at hy,fun i j x y h1=>by simp at h1⟩
      ·have v3:=v3 (by omega);have hget:∀ i x,((els.drop off).take len)[i]?=some x->els[off+i]?=some x:=by
        intro i x hx;rw[getElem?_take]at hx;split at hx
        ·rw[getElem?_drop]at hx;exact hx
        ·simp at hx
       obtain⟨cs,e1,e2⟩:=FT (P:=P) (w:=w) (I:=I) (L:=L) (b:=l.b) (o:=o) hk (fun i j x y h1 h2=>by
        obtain⟨u,f1,f2,f3⟩:=hb.cell (hget i x h1) h2 (by omega);have hm:=mem_of_getElem? (hget i x h1);have hkk:l.k=k:=by
         rw[hb.hk,<- hb.wid x hm];exact hk x (mem_of_getElem? h1)
        refine⟨u,?_,f2,f3⟩;have hkq:k' = k:=by rw[<- hb.hk];exact hkk
        rw[<- f1,v3,<- hk2,hkk,hkq];have:(off+i-l.sh)*k=(off-l.sh)*k+i*k:=by rw[<- add_mul];congr 1;omega
        congr 2;omega)
       rw[hlen]at e1;exact⟨cs,rfl,e1,e2⟩
   ·simp at h
  ·simp at h
 ·simp at h
theorem Hs (hi:Inv B0 w0 I H L w) {x:AV}{v:Value} (hr:Rep I L x v) {e:TypeId}{ys:List AV} (h:srcElems P H e x=some ys) {k:Nat} (hk:∀ y∈ys,y.cells.length=k) :
  ∃ cs,(Builtin.lenOf v).run P w=.ok ys.length w/\(Builtin.firstCells k ys.length v).run P w=.ok cs w/\RowRep I L k ys cs:=by
 unfold srcElems at h;split at h
 ·rename_i b;split at h
  ·simp at h;subst h;cases hr;have hlen:(bytesAV b).length=b.size:=by simp[bytesAV]
   refine⟨(b.extract 0 b.size).data.map fun c=>.int .u8 c.toNat,by rw[hlen];rfl,by rw[hlen];rfl,?_,hk,fun i j x y h1 h2=>?_⟩
   ·rw[hlen];by_cases h0:b.size=0
    ·simp[h0]
    ·have hk1:k=1:=by
      have hm:(bytesAV b)[0]?=some _:=List.getElem?_eq_getElem (by omega);have:=hk _ (mem_of_getElem? hm);rw[<- this];simp[bytesAV,AV.cells]
     subst hk1;simp
   ·have hm:=mem_of_getElem? h1;have hx:∃ c,b.data.toList[i]?=some c/\x=.int .u8 c.toNat:=by
     simp only[bytesAV,getElem?_map,map_eq_some_iff]at h1;obtain⟨c,g1,g2⟩:=h1;exact⟨c,g1,g2.symm⟩
    obtain⟨c,g1,rfl⟩:=hx;have hk1:k=1:=by rw[<- hk _ hm];rfl
    subst hk1;have hj:j=0:=by
     have:=(List.getElem?_eq_some_iff.1 h2).1;simp[AV.cells]at this;exact this
    subst hj;simp[AV.cells]at h2;subst h2;have e1:((b.extract 0 b.size).data.map fun c=>Value.int .u8 c.toNat).getD (i*1+0) undef=.int .u8 c.toNat:=by
     have:b.data[i]?=some c:=by simpa using g1
     simp[getD_eq_getD_getElem?,this]
    rw[e1];exact⟨rfl,.int _ _⟩
  ·simp at h
 ·exact CL hi hr h hk
theorem Hy (v:Value):(ofV v).cells.length=v.cells.size:=by
 cases v with
 | agg cs=>simp[ofV,AV.cells,Value.cells]
 | tuple vs=>
   show (if vs.size=0 then AV.tup [] else .top).cells.length=_;split<;>rfl
 | pointer a=>cases a<;>rfl
 | map r=>cases r<;>rfl
 | slice a n c=>
   match a,n,c with
   | none,0,0=>rfl
   | none,0,c+1=>rfl
   | none,n+1,c=>rfl
   | some a,n,c=>rfl
 | func fn x y=>
   cases fn with
   | func f=>
     show (if x.size=0/\y.size=0 then AV.clo f [] else .top).cells.length=_;split<;>rfl
   | _=>rfl
 | _=>rfl
theorem FZ (n:Nat):∀(r c:Nat),c<=2*n+192->Builtin.growBy n r c<=2*n+192
 | 0,c,h=>h
 | r+1,c,h=>by
   unfold Builtin.growBy;split
   ·exact h
   ·exact FZ n r _ (by omega)
theorem EY {n c:Nat} (h:c<n):Builtin.nextslicecap n c<=2*n+192:=by
 unfold Builtin.nextslicecap;split
 ·omega
 ·split
  ·omega
  ·exact FZ n 4 c (by omega)
end Go.Ev
