/- One operation, whichever it is, in a function's frame. -/
import Derived.Test.YtpbobopcmhpbbaaE02
set_option linter.unusedVariables false
set_option linter.unusedSimpArgs false
namespace Go.Ev
open Go.RowKit
variable {P:Program} {B0:Nat} {w0:Base} {w:World} {I:Imm} {H:List MB} {L:List Lay}
def RepL (I:Imm) (L:List Lay) (xs:List AV) (vs:Array Value):Prop:=vs.size=xs.length∧∀ i y,xs[i]?=some y→Rep I L y (vs.getD i undef)
theorem RepL.mono {I':Imm} {L':List Lay} (hx:Ext I L I' L') {xs:List AV} {vs:Array Value} (h:RepL I L xs vs):RepL I' L' xs vs:=⟨h.1,fun i y hi=>(h.2 i y hi).mono hx⟩
def CallSound (P:Program) (f:Nat) (args:List AV) (H:List MB) (r:AV) (H':List MB):Prop:=
 (∀(vs:Array Value) (w:World),(callFunc f vs).run P w=.ok (.enter f vs) w) ∧
 ∀(B0:Nat) (w0:Base) (w:World) (I:Imm) (L:List Lay) (vs:Array Value),Inv B0 w0 I H L w→RepL I L args vs →
  Calls P f vs w (fun e w'=>∃ v I' L',e=.returned v∧Inv B0 w0 I' H' L' w'∧Ext I L I' L'∧Rep I' L' r v)
def CfOk (P:Program) (cf:CF):Prop:=∀ f args H r H',cf f args H=some (r,H')→CallSound P f args H r H'
def nextVal:Next→Option Value
 | .value v=>some v
 | .skip=>some undef
 | _=>none
def isFnCall (o:Oper):Bool:=
 match o.op with
 | .call c=>match c.callee with
   | .builtin _=>false
   | _=>true
 | _=>false
theorem len_sound {T ty:TypeId} {x:AV} {v:Value} (hx:Rep I L x v) {r:AV} (h:evLen P T x=some r) (w:World) :
 ∃ u,(Builtin.len_ #[T] ty #[v]).run P w=.ok u w∧Rep I L r u:=by
 unfold evLen at h
 split at h
 ·rename_i e hu
  split at h
  ·rename_i t xs
   simp at h;subst h
   generalize hq2:AV.sl t xs=q at hx
   cases hx with
   | nilsl t'=>simp at hq2;obtain⟨_,rfl⟩:=hq2;exact⟨goInt (0:Nat),by simp[Builtin.len_,run_underlying hu],.int _ _⟩
   | sl t' xs' b o c k f hc ht hk hI hR=>
     simp at hq2;obtain⟨_,rfl⟩:=hq2
     exact⟨goInt xs.length,by simp[Builtin.len_,run_underlying hu],.int _ _⟩
   | _=>cases hq2
  ·rename_i id k tot off len
   simp at h;subst h
   cases hx with
   | ms _ _ _ _ _ l b o c hL ht hk2 hl2 hlc hv=>exact⟨goInt len,by simp[Builtin.len_,run_underlying hu],.int _ _⟩
   | msn=>exact⟨goInt (0:Nat),by simp[Builtin.len_,run_underlying hu],.int _ _⟩
  ·simp at h
 ·rename_i hu
  split at h
  ·rename_i s
   simp at h;subst h
   cases hx
   exact⟨goInt s.size,by simp[Builtin.len_,run_underlying hu],.int _ _⟩
  ·simp at h
 ·rename_i n e hu
  simp at h;subst h
  exact⟨goInt n,by simp[Builtin.len_,run_underlying hu],.int _ _⟩
 ·rename_i a hu
  split at h
  ·rename_i n e hu2
   simp at h;subst h
   exact⟨goInt n,by simp[Builtin.len_,run_underlying hu,run_underlying hu2],.int _ _⟩
  ·simp at h
 ·simp at h
theorem builtin_sound (hi:Inv B0 w0 I H L w) {ρ:Operand→AV} {ρc:Operand→Value} (hρ:∀ x,Rep I L (ρ x) (ρc x)) {b:Builtin} {ts:Array TypeId} {ty:TypeId} {cs:Array Bool} {args:Array Operand} {r:AV} {H':List MB}
 (h:evBuiltin P b ts.toList (args.toList.map ρ) H=some (r,H')) :
 ∃ u w' I' L',(builtin b ts ty cs (args.map ρc)).run P w=.ok (.value u) w'∧Inv B0 w0 I' H' L' w'∧Ext I L I' L'∧Rep I' L' r u:=by
 obtain⟨ts⟩:=ts
 obtain⟨args⟩:=args
 unfold evBuiltin at h
 simp only[]at h
 match args with
 | []=>simp at h
 | [o]=>
   simp only[List.map_cons,List.map_nil]at h
   split at h
   ·rename_i T
    cases he:evLen P T (ρ o) with
    | none=>rw[he]at h;simp at h
    | some q=>
      rw[he]at h;simp at h;obtain⟨rfl,rfl⟩:=h
      obtain⟨u,e1,e2⟩:=len_sound (ty:=ty) (hρ o) he w
      refine⟨u,w,I,L,?_,hi,.refl I L,e2⟩
      rw[show (⟨[o]⟩:Array Operand).map ρc = #[ρc o] by simp]
      show (do pure (.value (← Builtin.len_ #[T] ty #[ρc o])):Sem Next).run P w=_
      simp only[Sem.run_bind,e1,Result.andThen_ok,Sem.run_pure]
   ·simp at h
 | [o,o']=>
   simp only[List.map_cons,List.map_nil]at h
   split at h
   ·split at h
    ·rename_i sT xT
     obtain⟨u,w',I',L',e1,e2,e3,e4⟩:=append_sound (ty:=ty) hi (hρ o) (hρ o') h
     refine⟨u,w',I',L',?_,e2,e3,e4⟩
     rw[show (⟨[o,o']⟩:Array Operand).map ρc = #[ρc o,ρc o'] by simp]
     show (do pure (.value (← Builtin.append_ #[sT,xT] ty #[ρc o,ρc o'])):Sem Next).run P w=_
     simp only[Sem.run_bind,e1,Result.andThen_ok,Sem.run_pure]
    ·simp at h
   ·have hx:=hρ o
    have hy:=hρ o'
    have run2:∀(x y:Value),(builtin .min ⟨ts⟩ ty cs #[x,y]).run P w=((Builtin.min2 x y).run P w).andThen fun v w=>.ok (.value v) w:=by
     intro x y
     show (do pure (.value (← Builtin.min_ ⟨ts⟩ ty #[x,y])):Sem Next).run P w=_
     simp only[Builtin.min_,List.foldlM_cons,List.foldlM_nil,bind_pure,Sem.run_bind,Sem.run_pure]
    unfold evMin at h
    generalize ρ o=a at *
    generalize ρ o' = b at *
    cases a<;>cases b<;>simp only[Option.map_none,reduceCtorEq,Option.map_some,Option.some.injEq,Prod.mk.injEq]at h
    obtain⟨rfl,rfl⟩:=h
    have e1:=run2 (ρc o) (ρc o')
    rw[show (⟨[o,o']⟩:Array Operand).map ρc = #[ρc o,ρc o'] by simp]
    generalize ρc o=va at *
    generalize ρc o' = vb at *
    cases hx;cases hy
    exact⟨_,w,I,L,e1,hi,.refl I L,.int _ _⟩
   ·have hx:=hρ o
    have hy:=hρ o'
    have run2:∀(x y:Value),(builtin .max ⟨ts⟩ ty cs #[x,y]).run P w=((Builtin.max2 x y).run P w).andThen fun v w=>.ok (.value v) w:=by
     intro x y
     show (do pure (.value (← Builtin.max_ ⟨ts⟩ ty #[x,y])):Sem Next).run P w=_
     simp only[Builtin.max_,List.foldlM_cons,List.foldlM_nil,bind_pure,Sem.run_bind,Sem.run_pure]
    unfold evMax at h
    generalize ρ o=a at *
    generalize ρ o' = b at *
    cases a<;>cases b<;>simp only[Option.map_none,reduceCtorEq,Option.map_some,Option.some.injEq,Prod.mk.injEq]at h
    obtain⟨rfl,rfl⟩:=h
    have e1:=run2 (ρc o) (ρc o')
    rw[show (⟨[o,o']⟩:Array Operand).map ρc = #[ρc o,ρc o'] by simp]
    generalize ρc o=va at *
    generalize ρc o' = vb at *
    cases hx;cases hy
    exact⟨_,w,I,L,e1,hi,.refl I L,.int _ _⟩
   ·simp at h
 | _::_::_::_=>simp at h
theorem evOp_sound (hi:Inv B0 w0 I H L w) {cf:CF} {mu:List Nat} {ρ:Operand→AV} {ρc:Operand→Value} (hρ:∀ x,Rep I L (ρ x) (ρc x)) {o:Oper} (hn:isFnCall o=false) {r:AV} {H':List MB}
 (h:evOp P cf mu ρ H o=some (r,H')) :
 ∃ n u w' I' L',(execOp ρc o).run P w=.ok n w'∧nextVal n=some u∧Inv B0 w0 I' H' L' w'∧Ext I L I' L'∧Rep I' L' r u:=by
 obtain⟨dst,op,type,pos,after,guard⟩:=o
 have ofV:∀(s:Sem Value) (u:Value) (w':World),s.run P w=.ok u w'→(do pure (.value (← s)):Sem Next).run P w=.ok (.value u) w':=by
  intro s u w' hs
  simp only[Sem.run_bind,hs,Result.andThen_ok,Sem.run_pure]
 have pureOp:∀(q:Option AV) (s:Sem Value),q.map (fun v=>(v,H))=some (r,H')→(∀ v,q=some v→∃ u,s.run P w=.ok u w∧Rep I L v u) →
  ∃ n u w' I' L',(do pure (.value (← s)):Sem Next).run P w=.ok n w'∧nextVal n=some u∧Inv B0 w0 I' H' L' w'∧Ext I L I' L'∧Rep I' L' r u:=by
  intro q s hq hs
  cases hqq:q with
  | none=>rw[hqq]at hq;simp at hq
  | some v=>
    rw[hqq]at hq;simp at hq;obtain⟨rfl,rfl⟩:=hq
    obtain⟨u,e1,e2⟩:=hs v hqq
    exact⟨_,u,w,I,L,ofV s u w e1,rfl,hi,.refl I L,e2⟩
 cases op<;>simp only[evOp]at h
 case move x=>
  simp at h;obtain⟨rfl,rfl⟩:=h
  exact⟨_,_,w,I,L,rfl,rfl,hi,.refl I L,hρ x⟩
 case assign x=>
  simp at h;obtain⟨rfl,rfl⟩:=h
  exact⟨_,_,w,I,L,rfl,rfl,hi,.refl I L,hρ x⟩
 case pick c a b=>
  split at h
  ·rename_i t hc
   simp at h;obtain⟨rfl,rfl⟩:=h
   have hcr:=hρ c
   rw[hc]at hcr
   generalize hvc:ρc c=vc at hcr
   cases hcr
   refine⟨.value (if t then ρc a else ρc b),if t then ρc a else ρc b,w,I,L,?_,rfl,hi,.refl I L,?_⟩
   ·simp only[execOp,hvc,asBool,Sem.run_bind,Sem.run_pure,Result.andThen_ok]
   ·cases t
    ·exact hρ b
    ·exact hρ a
  ·simp at h
 case alloc e=>
  split at h
  ·rename_i z hz
   split at h
   ·rename_i hok
    simp at h;obtain⟨rfl,rfl⟩:=h
    obtain⟨u,w',L',e1,e2,e3,e4⟩:=alloc_sound hi hz hok
    exact⟨_,u,w',I,L',ofV _ u w' e1,rfl,e2,e3,e4⟩
   ·simp at h
  ·simp at h
 case box e x=>
  split at h
  ·rename_i hok
   simp at h;obtain⟨rfl,rfl⟩:=h
   obtain⟨u,w',L',e1,e2,e3,e4⟩:=newVar_sound (P:=P) hi (hρ x) hok e
   exact⟨_,u,w',I,L',ofV _ u w' e1,rfl,e2,e3,e4⟩
  ·simp at h
 case build t parts=>
  refine pureOp _ _ h (fun v hv=>?_)
  obtain⟨parts⟩:=parts
  have:=build_sound (P:=P) hρ hv w
  simpa using this
 case buildSlice t n parts=>
  obtain⟨parts⟩:=parts
  split at h
  ·rename_i es hes
   split at h
   ·cases hk:tySzE P t with
    | none=>rw[hk]at h;simp at h
    | some k=>
      rw[hk]at h;simp at h;obtain⟨rfl,rfl⟩:=h
      obtain⟨u,w',L',e1,e2,e3,e4⟩:=buildSliceMut_sound hi hρ hes hk
      refine⟨_,u,w',I,L',ofV _ u w' ?_,rfl,e2,e3,e4⟩
      simpa using e1
   ·simp at h;obtain⟨rfl,rfl⟩:=h
    obtain⟨u,w',I',e1,e2,e3,e4⟩:=buildSlice_sound hi hρ hes
    refine⟨_,u,w',I',L,ofV _ u w' ?_,rfl,e2,e3,e4⟩
    simpa using e1
  ·simp at h
 case load t a=>
  split at h
  ·rename_i cs hcs
   exact pureOp _ _ h (fun v hv=>load_sound hi (hρ a) hcs hv)
  ·simp at h
 case store t a x=>
  cases hq:evStore P H t (ρ a) (ρ x) with
  | none=>rw[hq]at h;simp at h
  | some H1=>
    rw[hq]at h;simp at h;obtain⟨rfl,rfl⟩:=h
    obtain⟨w',L',e1,e2,e3⟩:=store_sound hi (hρ a) (hρ x) hq
    refine⟨.skip,undef,w',I,L',?_,rfl,e2,e3,.tup [] #[] rfl (fun i y h=>by simp at h)⟩
    simp only[execOp,Sem.run_bind,e1,Result.andThen_ok,Sem.run_pure]
 case nilCheck x=>
  have hx:=hρ x
  split at h
  ·rename_i cs hq
   simp at h;obtain⟨rfl,rfl⟩:=h
   rw[hq]at hx
   generalize hv:ρc x=v at hx
   cases hx with
   | pt _ b o f hI hR=>exact⟨.value (.pointer (some ⟨b,o,none⟩)),_,w,I,L,by simp only[execOp,hv];rfl,rfl,hi,.refl I L,.pt cs b o f hI hR⟩
  ·rename_i a b c d hq
   simp at h;obtain⟨rfl,rfl⟩:=h
   rw[hq]at hx
   generalize hv:ρc x=v at hx
   cases hx with
   | rf _ _ _ _ l b' o hL ht hvv=>exact⟨.value (.pointer (some ⟨b',o,none⟩)),_,w,I,L,by simp only[execOp,hv];rfl,rfl,hi,.refl I L,.rf a b c d l b' o hL ht hvv⟩
  ·rename_i f cs hq
   simp at h;obtain⟨rfl,rfl⟩:=h
   rw[hq]at hx
   generalize hv:ρc x=v at hx
   cases hx with
   | clo _ _ ws hn' hR=>exact⟨.value (.func (.func f) #[] ws),_,w,I,L,by simp only[execOp,hv];rfl,rfl,hi,.refl I L,.clo f cs ws hn' hR⟩
  ·simp at h
 case binOp op t x y yt=>exact pureOp _ _ h (fun v hv=>binOp_sound (hρ x) (hρ y) hv x y w)
 case unOp op t x=>exact pureOp _ _ h (fun v hv=>un_sound (hρ x) hv w)
 case convert s d x=>exact pureOp _ _ h (fun v hv=>convert_sound (hρ x) hv w)
 case makeFunc fn first cap=>
  cases fn<;>simp only[reduceCtorEq]at h
  rename_i f
  split at h
  ·rename_i h0
   simp at h;obtain⟨rfl,rfl⟩:=h
   have e1:first = #[]:=Array.size_eq_zero_iff.1 h0
   subst e1
   refine⟨.value (.func (.func f) #[] (cap.map ρc)),_,w,I,L,by simp only[execOp,Instr.makeFunc,Sem.run_bind,Sem.run_pure,Result.andThen_ok,Array.map_empty],rfl,hi,.refl I L,.clo f _ _ (by simp) (fun i y hy=>?_)⟩
   simp only[List.getElem?_map,Option.map_eq_some_iff,Array.getElem?_toList]at hy
   obtain⟨x,g1,g2⟩:=hy
   subst g2
   have:(cap.map ρc).getD i undef=ρc x:=by simp[Array.getD_eq_getD_getElem?,g1]
   rw[this];exact hρ x
  split at h
  ·rename_i _ h0
   simp at h;obtain⟨rfl,rfl⟩:=h
   have e1:cap = #[]:=Array.size_eq_zero_iff.1 h0
   subst e1
   refine⟨.value (.func (.func f) (first.map ρc) #[]),_,w,I,L,by simp only[execOp,Instr.makeFunc,Sem.run_bind,Sem.run_pure,Result.andThen_ok,Array.map_empty],rfl,hi,.refl I L,.clb f _ _ (by simp) (fun i y hy=>?_)⟩
   simp only[List.getElem?_map,Option.map_eq_some_iff,Array.getElem?_toList]at hy
   obtain⟨x,g1,g2⟩:=hy
   subst g2
   have:(first.map ρc).getD i undef=ρc x:=by simp[Array.getD_eq_getD_getElem?,g1]
   rw[this];exact hρ x
  ·simp at h
 case makeSlice t l c=>
  obtain⟨u,w',L',e1,e2,e3,e4⟩:=makeSlice_sound hi (hρ l) (hρ c) h
  exact⟨_,u,w',I,L',ofV _ u w' e1,rfl,e2,e3,e4⟩
 case slice t x lo hi' mx=>
  split at h
  ·simp at h
  ·obtain⟨u,e1,rfl,e3⟩:=slice_sound (w:=w) hρ h
   exact⟨_,u,w,I,L,ofV _ u w e1,rfl,hi,.refl I L,e3⟩
 case fieldAddr t x f=>exact pureOp _ _ h (fun v hv=>fieldAddr_sound (hρ x) hv)
 case field t x f=>exact pureOp _ _ h (fun v hv=>field_sound (hρ x) hv)
 case indexAddr t x i=>exact pureOp _ _ h (fun v hv=>indexAddr_sound (hρ x) (hρ i) hv)
 case index t x i=>exact pureOp _ _ h (fun v hv=>index_sound (hρ x) (hρ i) hv)
 case extract x i=>
  split at h
  ·rename_i vs hq
   have hx:=hρ x
   rw[hq]at hx
   exact pureOp _ _ h (fun v hv=>extract_sound hx hv)
  ·simp at h
 case call c=>
  obtain⟨callee,args,argTypes⟩:=c
  cases callee with
  | builtin b=>
    simp only at h
    obtain⟨u,w',I',L',e1,e2,e3,e4⟩:=builtin_sound (ty:=type) (cs:=args.map fun | .const _=>true|_=>false) hi hρ h
    refine⟨.value u,u,w',I',L',?_,rfl,e2,e3,e4⟩
    simp only[execOp,resolve,Sem.run_bind,Sem.run_pure,Result.andThen_ok,invoke]
    exact e1
  | value f=>simp[isFnCall]at hn
  | invoke a b=>simp[isFnCall]at hn
 all_goals simp at h
end Go.Ev
namespace Go.Ev
open Go.RowKit
variable {P:Program} {cf:CF} {B0:Nat} {w0:Base} {w w':World} {I I':Imm} {H:List MB} {L:List Lay}
theorem under_cells (n:Nat) (x:AV):AV.under n x=true↔∀ c∈x.cells,AV.under n c=true:=by
 have hL:∀ l:List AV,AV.underL n l=true↔∀ c∈l,AV.under n c=true:=by
  intro l
  induction l with
  | nil=>simp[AV.underL]
  | cons a l ih=>simp[AV.underL,ih]
 cases x with
 | agg cs=>simp only[AV.under,AV.cells];exact hL cs
 | _=>simp[AV.cells]
theorem underL_iff (n:Nat) (l:List AV):AV.underL n l=true↔∀ c∈l,AV.under n c=true:=by
 induction l with
 | nil=>simp[AV.underL]
 | cons a l ih=>simp[AV.underL,ih]
theorem Rep.under {a:AV} {v:Value} (h:Rep I L a v):AV.under L.length a=true:=by
 induction h with
 | sl t xs b o c k f hc ht hk hI hR ih=>
   simp only[AV.under]
   rw[underL_iff]
   intro x hx
   rw[under_cells]
   intro y hy
   obtain⟨i,hi⟩:=List.getElem?_of_mem hx
   obtain⟨j,hj⟩:=List.getElem?_of_mem hy
   exact ih i j x y hi hj
 | pt cs b o f hI hR ih=>
   simp only[AV.under]
   rw[underL_iff]
   intro y hy
   obtain⟨j,hj⟩:=List.getElem?_of_mem hy
   exact ih j y hj
 | rf id tot i j l b o hL ht hv=>simp only[AV.under];simp;exact(List.getElem?_eq_some_iff.1 hL).1
 | ms id k tot off len l b o c hL ht hk hl hc hv=>simp only[AV.under];simp;exact(List.getElem?_eq_some_iff.1 hL).1
 | msn id k l hL hk=>simp only[AV.under];simp;exact(List.getElem?_eq_some_iff.1 hL).1
 | psn l c=>rfl
 | pss b o l c=>rfl
 | clo f cs ws hn hR ih=>
   simp only[AV.under]
   rw[underL_iff]
   intro y hy
   obtain⟨j,hj⟩:=List.getElem?_of_mem hy
   exact ih j y hj
 | clb f cs ws hn hR ih=>
   simp only[AV.under]
   rw[underL_iff]
   intro y hy
   obtain⟨j,hj⟩:=List.getElem?_of_mem hy
   exact ih j y hj
 | agg cs ws hn hs hR ih=>
   simp only[AV.under]
   rw[underL_iff]
   intro y hy
   obtain⟨j,hj⟩:=List.getElem?_of_mem hy
   exact ih j y hj
 | tup cs ws hn hR ih=>
   simp only[AV.under]
   rw[underL_iff]
   intro y hy
   obtain⟨j,hj⟩:=List.getElem?_of_mem hy
   exact ih j y hj
 | _=>rfl
theorem Rep.restrict {n:Nat} {a:AV} {v:Value} (h:Rep I L a v) (hu:AV.under n a=true):Rep I (L.take n) a v:=by
 induction h with
 | top v=>exact .top v
 | int k n=>exact .int k n
 | bool b=>exact .bool b
 | str s=>exact .str s
 | nilp=>exact .nilp
 | nilf=>exact .nilf
 | nili=>exact .nili
 | nilm=>exact .nilm
 | nilsl t=>exact .nilsl t
 | sl t xs b o c k f hc ht hk hI hR ih=>
   simp only[AV.under]at hu
   rw[underL_iff]at hu
   refine .sl t xs b o c k f hc ht hk hI (fun i j x y h1 h2=>ih i j x y h1 h2 ?_)
   exact(under_cells n x).1 (hu x (List.mem_of_getElem? h1)) y (List.mem_of_getElem? h2)
 | pt cs b o f hI hR ih=>
   simp only[AV.under]at hu
   rw[underL_iff]at hu
   exact .pt cs b o f hI (fun j y h=>ih j y h (hu y (List.mem_of_getElem? h)))
 | rf id tot i j l b o hL ht hv=>
   simp only[AV.under]at hu
   simp at hu
   exact .rf id tot i j l b o (by rw[List.getElem?_take,if_pos hu];exact hL) ht hv
 | ms id k tot off len l b o c hL ht hk hl hc hv=>
   simp only[AV.under]at hu
   simp at hu
   exact .ms id k tot off len l b o c (by rw[List.getElem?_take,if_pos hu];exact hL) ht hk hl hc hv
 | psn l c=>exact .psn l c
 | pss b o l c=>exact .pss b o l c
 | msn id k l hL hk=>
   simp only[AV.under]at hu
   simp at hu
   exact .msn id k l (by rw[List.getElem?_take,if_pos hu];exact hL) hk
 | clo f cs ws hn hR ih=>
   simp only[AV.under]at hu
   rw[underL_iff]at hu
   exact .clo f cs ws hn (fun j y h=>ih j y h (hu y (List.mem_of_getElem? h)))
 | clb f cs ws hn hR ih=>
   simp only[AV.under]at hu
   rw[underL_iff]at hu
   exact .clb f cs ws hn (fun j y h=>ih j y h (hu y (List.mem_of_getElem? h)))
 | agg cs ws hn hs hR ih=>
   simp only[AV.under]at hu
   rw[underL_iff]at hu
   exact .agg cs ws hn hs (fun j y h=>ih j y h (hu y (List.mem_of_getElem? h)))
 | tup cs ws hn hR ih=>
   simp only[AV.under]at hu
   rw[underL_iff]at hu
   exact .tup cs ws hn (fun j y h=>ih j y h (hu y (List.mem_of_getElem? h)))
theorem Rep.bare {a:AV} {v:Value} (h:Rep I L a v) (hu:AV.under 0 a=true) (L2:List Lay):Rep I L2 a v:=by
 have h1:Rep I [] a v:=by simpa using h.restrict hu
 exact h1.mono ⟨fun _ _ _ h=>h,fun id l h=>by simp at h⟩
theorem Inv.behind (hi:Inv B0 w0 I H L w) {K:List MB} {L':List Lay} (hj:Inv w.heap.size ⟨w,I⟩ I' K L' w') (hx:∀ b o v,I b o=some v→I' b o=some v):Inv B0 w0 I' H L w':=by
 have hx2:Ext I L I' L:=⟨hx,(Ext.refl I L).lay⟩
 have hb:=hj.below
 have h1:Inv B0 w0 I H L w':=hi.same (hi.below.trans (hb.mono hi.base)) (Nat.le_trans hi.base hj.base) (fun b h=>hb.block b h)
 refine⟨h1.below,h1.base,h1.len,fun id m l hm hl=>?_,h1.inj,hj.imm,fun b o h=>?_⟩
 ·
  exact MbOk.mono hx2 (fun hn c=>hj.old l.b c (hi.lay_lt hl hn)) (h1.blk id m l hm hl)
 ·have:=hi.base
  rw[hj.old b o (by show b < w.heap.size;omega)]
  exact hi.old b o h
theorem frame_sound {f:Nat} {as:List AV} {H1 H' K:List MB} {r0 r:AV} (hu:AV.underL 0 as=true) (hs:CallSound P f as [] r0 K) (hr:rebase H1 (some (r0,K))=some (r,H')) :
 CallSound P f as H1 r H':=by
 refine⟨hs.1,fun B0 w0 w I L us hi hus=>?_⟩
 have hi0:Inv w.heap.size ⟨w,I⟩ I [] [] w:=⟨Below.refl _ _,Nat.le_refl _,rfl,fun id m l h=>by simp at h,fun i j l l' h=>by simp at h,hi.imm,fun _ _ _=>rfl⟩
 have hus0:RepL I [] as us:=⟨hus.1,fun i y hy=>(hus.2 i y hy).bare ((underL_iff 0 as).1 hu y (List.mem_of_getElem? hy)) []⟩
 refine(hs.2 _ _ w I [] us hi0 hus0).mono ?_
 rintro e w' ⟨v,I',L',rfl,hj,hx,hv⟩
 have hb:=hi.behind hj hx.imm
 unfold rebase at hr
 split at hr
 ·rename_i q r1 heq
  simp at heq;obtain⟨rfl,rfl⟩:=heq
  split at hr
  ·rename_i hu1
   simp at hr;obtain⟨rfl,rfl⟩:=hr
   exact⟨v,I',L,rfl,hb,⟨hx.imm,(Ext.refl I L).lay⟩,hv.bare hu1 L⟩
  ·simp at hr
 ·rename_i q k tot off len k' els z heq
  simp at heq;obtain⟨rfl,rfl⟩:=heq
  split at hr
  ·rename_i hu1
   simp at hr;obtain⟨rfl,rfl⟩:=hr
   have hl1:L'.length=1:=by rw[hj.len];rfl
   obtain⟨l',hl'⟩:∃ l',L' = [l']:=by
    match L',hl1 with
    | [l'],_=>exact⟨l',rfl⟩
   subst hl'
   have hblk:BlkOk w.heap.size I' [l'] w' k' els z l':=hj.blk 0 _ l' rfl rfl
   have hlb:=hblk.hB
   have hxx:Ext I' L I' (L++[l']):=ext_push _ _ _
   refine⟨v,I',L++[l'],rfl,⟨hb.below,hb.base,by simp[hb.len],fun id m l hm hl=>?_,fun i j li lj g1 g2 n1 n2 g3=>?_,hb.imm,hb.old⟩,(⟨hx.imm,(Ext.refl I L).lay⟩:Ext I L I' L).trans hxx,?_⟩
   ·by_cases hid:id < L.length
    ·rw[List.getElem?_append_left hid]at hl
     rw[List.getElem?_append_left (by rw[← hb.len];exact hid)]at hm
     exact MbOk.mono hxx (fun _ _=>rfl) (hb.blk id m l hm hl)
    ·have hie:id=L.length:=by
      have:=(List.getElem?_eq_some_iff.1 hl).1
      simp at this;omega
     subst hie
     rw[List.getElem?_append_right (Nat.le_refl _),Nat.sub_self]at hl
     rw[List.getElem?_append_right (by rw[hb.len];exact Nat.le_refl _),hb.len,Nat.sub_self]at hm
     simp at hm hl
     subst hm;subst hl
     refine⟨hblk.hk,hblk.ht,hblk.hsh,hblk.hz,fun hn=>Nat.le_trans hi.base (hlb hn),hblk.wid,hblk.fit,fun hn=>?_,hblk.free⟩
     obtain⟨cs,T,f1,f2,f3,f4⟩:=BlkOk.blk hblk hn
     refine⟨cs,T,f1,f2,fun i j x y g1 g2 g3=>?_,f4⟩
     obtain⟨u,u1,u2,u3⟩:=f3 i j x y g1 g2 g3
     refine⟨u,u1,u2,u3.bare ?_ _⟩
     exact(under_cells 0 x).1 ((underL_iff 0 els).1 hu1 x (List.mem_of_getElem? g1)) y (List.mem_of_getElem? g2)
   ·have hcase:∀(i:Nat) (li:Lay),(L++[l'])[i]?=some li→(L[i]?=some li)∨(i=L.length∧li=l'):=by
     intro i li hli
     by_cases h:i < L.length
     ·rw[List.getElem?_append_left h]at hli;exact .inl hli
     ·rw[List.getElem?_append_right (by omega)]at hli
      have h4:=(List.getElem?_eq_some_iff.1 hli).1
      simp at h4
      have hie:i - L.length=0:=by omega
      rw[hie]at hli
      simp at hli
      exact .inr ⟨by omega,hli.symm⟩
    have hne:∀(i:Nat) (li:Lay),L[i]?=some li→li.n≠0→l'.n≠0→li.b≠l'.b:=fun i li h hn hn' e=>by
     have:=hi.lay_lt h hn
     have:=hlb hn'
     omega
    rcases hcase i li g1 with a|⟨a1,a2⟩<;>rcases hcase j lj g2 with b|⟨b1,b2⟩
    ·exact hb.inj i j li lj a b n1 n2 g3
    ·subst b2;exact absurd g3 (hne i li a n1 n2)
    ·subst a2;exact absurd g3.symm (hne j lj b n2 n1)
    ·omega
   ·cases hv with
    | msn _ _ l hL hk=>
      have hll:l' = l:=by simpa using hL
      subst hll
      exact .msn _ k l' (by rw[← hb.len];rw[List.getElem?_append_right (Nat.le_refl _),Nat.sub_self];rfl) hk
    | ms _ _ _ _ _ l b o c hL ht hk hl hc hv2=>
      have hll:l' = l:=by simpa using hL
      subst hll
      exact .ms _ k tot off len l' b o c (by rw[← hb.len];rw[List.getElem?_append_right (Nat.le_refl _),Nat.sub_self];rfl) ht hk hl hc hv2
  ·simp at hr
 ·simp at hr
theorem evAlone_sound (hcf:CfOk P cf):CfOk P (evAlone cf):=by
 intro f args H r H' h
 unfold evAlone at h
 split at h
 ·rename_i hu
  split at h
  ·rename_i r0 h0
   split at h
   ·rename_i h1
    simp only[Option.some.injEq,Prod.mk.injEq]at h
    obtain⟨rfl,rfl⟩:=h
    exact frame_sound hu (hcf _ _ _ _ _ h0) (by simp only[rebase];rw[if_pos h1])
   ·cases h
  ·cases h
 ·cases h
theorem evAlone_of {f:Nat} {args:List AV} {v:AV} (h:∀ H,cf f args H=some (v,H)) (ha:AV.underL 0 args=true) (hv:AV.under 0 v=true) (H:List MB):evAlone cf f args H=some (v,H):=by
 unfold evAlone
 rw[if_pos ha,h]
 simp only[]
 rw[if_pos hv]
end Go.Ev
namespace Go.Ev
open Go.RowKit
variable {P:Program} {B0:Nat} {w0:Base} {w:World} {I0:Imm} {L0:List Lay}
theorem look_mem:∀ {t:Tm} {d:Nat} {v:AV},look t d=some v→(d,v)∈t
 | (k,u)::t,d,v,h=>by
   simp only[look]at h
   split at h
   ·rename_i e
    simp at h;subst h;subst e
    exact List.mem_cons_self
   ·exact List.mem_cons_of_mem _ (look_mem h)
abbrev Desc (t:Tm):Prop:=t.Pairwise fun a b=>b.1 < a.1
theorem ins_mem {d:Nat} {v:AV}:∀ {t:Tm} {q:Nat×AV},q∈ins d v t→q=(d,v)∨(q∈t∧q≠(d,v))
 | [],q,h=>by simp[ins]at h;exact .inl h
 | (k,u)::t,q,h=>by
   by_cases e:q=(d,v)
   ·exact .inl e
   ·refine .inr ⟨?_,e⟩
    simp only[ins]at h
    split at h
    ·rcases List.mem_cons.1 h with h|h
     ·exact absurd h e
     ·exact List.mem_cons_of_mem _ h
    ·split at h
     ·rcases List.mem_cons.1 h with h|h
      ·exact absurd h e
      ·exact h
     ·rcases List.mem_cons.1 h with h|h
      ·rw[h];exact List.mem_cons_self
      ·rcases ins_mem h with h|h
       ·exact absurd h e
       ·exact List.mem_cons_of_mem _ h.1
theorem ins_key {d:Nat} {v:AV} {t:Tm} {q:Nat×AV} (h:q∈ins d v t):q.1=d∨q∈t:=by
 rcases ins_mem h with rfl|h
 ·exact .inl rfl
 ·exact .inr h.1
theorem ins_sorted (d:Nat) (v:AV):∀ t:Tm,Desc t→Desc (ins d v t)
 | [],_=>by simp[ins]
 | (k,u)::t,h=>by
   obtain⟨h1,h2⟩:=List.pairwise_cons.1 h
   simp only[ins]
   split
   ·rename_i e
    subst e
    exact List.pairwise_cons.2 ⟨h1,h2⟩
   ·split
    ·rename_i e
     refine List.pairwise_cons.2 ⟨fun q hq=>?_,h⟩
     rcases List.mem_cons.1 hq with rfl|hq
     ·exact e
     ·have:=h1 q hq
      simp only[]at this ⊢;omega
    ·rename_i e1 e2
     refine List.pairwise_cons.2 ⟨fun q hq=>?_,ins_sorted d v t h2⟩
     rcases ins_key hq with hq|hq
     ·simp only[hq];omega
     ·exact h1 q hq
theorem ins_in (d:Nat) (v:AV):∀ t:Tm,(d,v)∈ins d v t
 | []=>by simp[ins]
 | (k,u)::t=>by
   simp only[ins]
   split
   ·exact List.mem_cons_self
   ·split
    ·exact List.mem_cons_self
    ·exact List.mem_cons_of_mem _ (ins_in d v t)
theorem desc_key {t:Tm} (h:Desc t) {p q:Nat×AV} (hp:p∈t) (hq:q∈t) (e:p.1=q.1):p=q:=by
 induction t with
 | nil=>cases hp
 | cons a t ih=>
   obtain⟨h1,h2⟩:=List.pairwise_cons.1 h
   rcases List.mem_cons.1 hp with hp1|hp1<;>rcases List.mem_cons.1 hq with hq1|hq1
   ·rw[hp1,hq1]
   ·have:=h1 q hq1;rw[hp1]at e;omega
   ·have:=h1 p hp1;rw[hq1]at e;omega
   ·exact ih h2 hp1 hq1
theorem ins_ne {d:Nat} {v:AV} {t:Tm} (h:Desc t) {q:Nat×AV} (hq:q∈ins d v t) (hne:q≠(d,v)):d≠q.1:=fun e=>
 hne (desc_key (ins_sorted d v t h) hq (ins_in d v t) e.symm)
theorem look_ins_ne {d e:Nat} {v:AV} (hne:d≠e):∀ t:Tm,look (ins d v t) e=look t e
 | []=>by simp[ins,look,hne]
 | (k,u)::t=>by
   simp only[ins]
   split
   ·rename_i h;subst h;simp[look,hne]
   ·split
    ·simp[look,hne]
    ·simp only[look,look_ins_ne hne t]
theorem ins_comm {d e:Nat} {v u:AV} (hne:d≠e):∀ t:Tm,ins d v (ins e u t)=ins e u (ins d v t)
 | []=>by
   simp only[ins]
   repeat' split
   all_goals first|rfl|omega
 | (k,x)::t=>by
   have ih:=ins_comm (v:=v) (u:=u) hne t
   rcases Nat.lt_trichotomy k d with h1|h1|h1<;>rcases Nat.lt_trichotomy k e with h2|h2|h2<;>rcases Nat.lt_trichotomy d e with h3|h3|h3
   all_goals first
    | omega
    | (subst h1;simp[ins,Nat.ne_of_gt,Nat.ne_of_lt,Nat.not_lt_of_lt, *];done)
    | (subst h2;simp[ins,Nat.ne_of_gt,Nat.ne_of_lt,Nat.not_lt_of_lt, *];done)
    | (have a1:k≠d:=by omega
       have a2:k≠e:=by omega
       have a3:d≠e:=by omega
       have a4:e≠d:=by omega
       simp[ins,a1,a2,a3,a4,h1,h2,h3,Nat.not_lt_of_lt h1,Nat.not_lt_of_lt h2,Nat.not_lt_of_lt h3,ih])
def TmOk (I:Imm) (L:List Lay) (n:Nat) (t:Tm) (vs:Array Value):Prop:=
 vs.size=n∧Desc t∧∀ q∈t,q.1 < n∧Rep I L q.2 (vs.getD q.1 undef)
theorem TmOk.at {I:Imm} {L:List Lay} {n:Nat} {t:Tm} {vs:Array Value} (h:TmOk I L n t vs) {d:Nat} {v:AV} (hl:look t d=some v):Rep I L v (vs.getD d undef):=
 (h.2.2 _ (look_mem hl)).2
theorem TmOk.mono {I:Imm} {L:List Lay} {I':Imm} {L':List Lay} (hx:Ext I L I' L') {n:Nat} {t:Tm} {vs:Array Value} (h:TmOk I L n t vs):TmOk I' L' n t vs:=
 ⟨h.1,h.2.1,fun q hq=>⟨(h.2.2 q hq).1,(h.2.2 q hq).2.mono hx⟩⟩
theorem TmOk.sub {I:Imm} {L:List Lay} {n:Nat} {t t':Tm} {vs:Array Value} (h:TmOk I L n t vs) (hs:t'.Sublist t):TmOk I L n t' vs:=
 ⟨h.1,h.2.1.sublist hs,fun q hq=>h.2.2 q (hs.subset hq)⟩
theorem rem1_sub (d:Nat):∀ t:Tm,(rem1 d t).Sublist t
 | []=>.slnil
 | (k,v)::t=>by
   simp only[rem1]
   split
   ·exact List.sublist_cons_self _ _
   ·exact(rem1_sub d t).cons_cons _
theorem dropT_sub:∀(l:List Nat) (t:Tm),(dropT l t).Sublist t
 | [],t=>List.Sublist.refl t
 | d::l,t=>(dropT_sub l _).trans (rem1_sub d t)
theorem keepT_sub (l:Option (List Nat)) (t:Tm):(keepT l t).Sublist t:=by
 cases l with
 | none=>exact List.Sublist.refl t
 | some l=>exact List.filter_sublist
theorem initT_ok {I:Imm} {L:List Lay} {vs:Array Value} {n:Nat}:∀(as:List AV) (i:Nat) (acc:Tm),(∀ j y,as[j]?=some y→i+j < n∧Rep I L y (vs.getD (i+j) undef)) →
 (∀ q∈acc,q.1 < i)→TmOk I L n acc vs→TmOk I L n (initT i as acc) vs
 | [],i,acc,_,_,h=>h
 | a::as,i,acc,h1,h2,h=>by
   refine initT_ok as (i+1) ((i,a)::acc) (fun j y hy=>?_) (fun q hq=>?_) ⟨h.1,List.pairwise_cons.2 ⟨fun q hq=>h2 q hq,h.2.1⟩,fun q hq=>?_⟩
   ·have:=h1 (j+1) y (by simpa using hy)
    rwa [show i+(j+1)=i+1+j by omega]at this
   ·rcases List.mem_cons.1 hq with rfl|hq
    ·show i < i+1;omega
    ·have:=h2 q hq;omega
   ·rcases List.mem_cons.1 hq with rfl|hq
    ·simpa using h1 0 a rfl
    ·exact h.2.2 q hq
def StOk (B0:Nat) (w0:Base) (I0:Imm) (L0:List Lay) (s:St) (a:Act) (w:World):Prop:=
 ∃ I L,Inv B0 w0 I s.h L w∧Ext I0 L0 I L∧a.defers=[]∧TmOk I L s.n s.t a.tmps
theorem StOk.drew {s:St} {a:Act} (h:StOk B0 w0 I0 L0 s a w):StOk B0 w0 I0 L0 s a w.drew:=by
 obtain⟨I,L,h1,h2⟩:=h
 exact⟨I,L,h1.drew,h2⟩
theorem rep_ofK {I:Imm} {L:List Lay} (v:Value):Rep I L (ofK v) v:=by
 cases v with
 | agg cs=>exact .top _
 | tuple vs=>
   show Rep I L (if vs.size=0 then .tup [] else .top) _
   split
   ·rename_i h
    have e1:vs = #[]:=Array.size_eq_zero_iff.1 h
    subst e1
    exact .tup [] #[] rfl (fun i y h=>by simp at h)
   ·exact .top _
 | bool b=>exact rep_ofC (.bool b) rfl
 | int k n=>exact rep_ofC (.int k n) rfl
 | string s=>exact rep_ofC (.string s) rfl
 | pointer a=>exact rep_ofC (.pointer a) rfl
 | nilFunc=>exact rep_ofC .nilFunc rfl
 | nilIface=>exact rep_ofC .nilIface rfl
 | map r=>exact rep_ofC (.map r) rfl
 | slice a n c=>exact rep_ofC (.slice a n c) rfl
 | func fn first cap=>exact rep_ofC (.func fn first cap) rfl
 | _=>exact .top _
theorem ev_rep {I:Imm} {L:List Lay} {s:St} {a:Act} (h:TmOk I L s.n s.t a.tmps) (x:Operand):Rep I L (s.ev x) (a.eval x):=by
 cases x with
 | tmp t=>
   show Rep I L (lookD s.t t) (a.tmps.getD t undef)
   unfold lookD
   cases hq:look s.t t with
   | some y=>exact h.at hq
   | none=>exact .top _
 | const v=>exact rep_ofK v
 | global g=>exact .top _
 | func f=>exact .clo f [] #[] rfl (fun i y h=>by simp at h)
theorem put_rep {I:Imm} {L:List Lay} {s:St} {a:Act} (h:TmOk I L s.n s.t a.tmps) (d:Option Tmp) {x:AV} {v:Value} (hv:Rep I L x v) (H:List MB) :
 TmOk I L (({ s with h:=H }:St).put d x).n ((({ s with h:=H }:St).put d x).t) ((a.put d v).tmps):=by
 cases d with
 | none=>exact h
 | some i=>
   show TmOk I L s.n (if i < s.n then ins i x s.t else s.t) (a.tmps.setIfInBounds i v)
   by_cases hi:i < s.n
   ·simp only[hi,if_true]
    refine⟨by simp[h.1],ins_sorted i x s.t h.2.1,fun q hq=>?_⟩
    rcases ins_mem hq with rfl|⟨h1,h2⟩
    ·have:i < a.tmps.size:=by rw[h.1];exact hi
     refine⟨hi,?_⟩
     simpa [Array.getD_eq_getD_getElem?,this] using hv
    ·have hne:i≠q.1:=ins_ne h.2.1 hq h2
     have:(a.tmps.setIfInBounds i v).getD q.1 undef=a.tmps.getD q.1 undef:=by
      simp[Array.getD_eq_getD_getElem?,Array.getElem?_setIfInBounds_ne hne]
     rw[this];exact h.2.2 q h1
   ·simp only[hi,if_false]
    have e:a.tmps.setIfInBounds i v=a.tmps:=by
     have hs:=h.1
     apply Array.ext
     ·simp
     ·intro j h1 h2
      have hne:i≠j:=fun e=>hi (by rw[e,← h.1];exact h2)
      exact Array.getElem_setIfInBounds_ne h2 hne
    rw[e];exact h
theorem put_h (s:St) (d:Option Tmp) (x:AV):(s.put d x).h=s.h:=by cases d<;>rfl
theorem put_defers (a:Act) (d:Option Tmp) (v:Value):(a.put d v).defers=a.defers:=by cases d<;>rfl
theorem wanted_sound {I:Imm} {L:List Lay} {ops:Array Oper} {s:St} {a:Act} (h:TmOk I L s.n s.t a.tmps) {o:Oper} {b:Bool} (hw:evWanted ops.toList s o=some b) :
 Region.wanted o (yielded ops a.tmps)=b:=by
 unfold evWanted at hw
 unfold Region.wanted
 cases hg:o.guard with
 | none=>rw[hg]at hw;simpa using hw
 | some p=>
   obtain⟨j,wnt⟩:=p
   rw[hg]at hw
   simp only[Array.getElem?_toList]at hw
   simp only[yielded]
   cases hj:ops[j]? with
   | none=>
     rw[hj]at hw
     simp at hw
     simp[hw]
   | some q=>
     rw[hj]at hw
     simp only[Option.bind_some]at hw ⊢
     cases hd:q.dst with
     | none=>rw[hd]at hw;simp at hw;simp[hw]
     | some d=>
       rw[hd]at hw
       simp only[Option.bind_some]at hw ⊢
       cases ht:look s.t d with
       | none=>rw[ht]at hw;simp at hw
       | some y=>
         rw[ht]at hw
         have hr:=h.at ht
         have hlt:d < a.tmps.size:=by rw[h.1];exact(h.2.2 _ (look_mem ht)).1
         have hget:a.tmps[d]?=some (a.tmps.getD d undef):=by simp[Array.getD_eq_getD_getElem?,hlt]
         rw[hget]
         generalize a.tmps.getD d undef=v at *
         cases y with
         | bool c=>
           cases hr
           simp at hw
           subst hw
           simp
         | tup vs=>
           cases vs with
           | nil=>
             cases hr
             simp at hw;subst hw
             simp
           | cons _ _=>simp at hw
         | _=>simp at hw
theorem call_value_run {ρ:Operand→AV} {ρc:Operand→Value} {I:Imm} {L:List Lay} (hρ:∀ x,Rep I L (ρ x) (ρc x)) {f:Operand} {g:Nat} {cs:List AV} (hf:ρ f=.clo g cs) (args:Array Operand) (ty:TypeId) (ats:Array TypeId)
 (hg:∀(vs:Array Value) (w:World),(callFunc g vs).run P w=.ok (.enter g vs) w) (w:World) :
 ∃ vs,(do let d ← resolve ρc { callee:=.value f,args:=args,argTypes:=ats } ty;invoke d.target d.args:Sem Next).run P w=.ok (.enter g vs) w∧RepL I L (args.toList.map ρ++cs) vs:=by
 have hr:=hρ f
 rw[hf]at hr
 generalize hv:ρc f=v at hr
 cases hr with
 | clo _ _ ws hn hR=>
   refine⟨args.map ρc++ws,?_,?_,?_⟩
   ·simp only[resolve,hv,Deferred.ofValue,Sem.run_bind,Sem.run_pure,Result.andThen_ok,invoke,Array.empty_append,hg]
   ·simp[hn]
   ·intro i y hy
    by_cases h:i < args.size
    ·rw[List.getElem?_append_left (by simpa using h)]at hy
     simp only[List.getElem?_map,Option.map_eq_some_iff,Array.getElem?_toList]at hy
     obtain⟨x,g1,g2⟩:=hy
     subst g2
     have:(args.map ρc++ws).getD i undef=ρc x:=by
      simp only[Array.getD_eq_getD_getElem?]
      rw[Array.getElem?_append_left (by simpa using h)]
      simp[g1]
     rw[this];exact hρ x
    ·rw[List.getElem?_append_right (by simpa using h)]at hy
     have:(args.map ρc++ws).getD i undef=ws.getD (i - args.size) undef:=by
      simp only[Array.getD_eq_getD_getElem?]
      rw[Array.getElem?_append_right (by simpa using h)]
      simp
     rw[this]
     exact hR _ y (by simpa using hy)
theorem call_bound_run {ρ:Operand→AV} {ρc:Operand→Value} {I:Imm} {L:List Lay} (hρ:∀ x,Rep I L (ρ x) (ρc x)) {f:Operand} {g:Nat} {cs:List AV} (hf:ρ f=.clb g cs) (args:Array Operand) (ty:TypeId) (ats:Array TypeId)
 (hg:∀(vs:Array Value) (w:World),(callFunc g vs).run P w=.ok (.enter g vs) w) (w:World) :
 ∃ vs,(do let d ← resolve ρc { callee:=.value f,args:=args,argTypes:=ats } ty;invoke d.target d.args:Sem Next).run P w=.ok (.enter g vs) w∧RepL I L (cs++args.toList.map ρ) vs:=by
 have hr:=hρ f
 rw[hf]at hr
 generalize hv:ρc f=v at hr
 cases hr with
 | clb _ _ ws hn hR=>
   refine⟨ws++args.map ρc,?_,?_,?_⟩
   ·simp only[resolve,hv,Deferred.ofValue,Sem.run_bind,Sem.run_pure,Result.andThen_ok,invoke,Array.append_empty,hg]
   ·simp[hn]
   ·intro i y hy
    by_cases h:i < cs.length
    ·rw[List.getElem?_append_left h]at hy
     have:(ws++args.map ρc).getD i undef=ws.getD i undef:=by
      simp only[Array.getD_eq_getD_getElem?]
      rw[Array.getElem?_append_left (by omega)]
     rw[this];exact hR _ y hy
    ·rw[List.getElem?_append_right (by omega)]at hy
     simp only[List.getElem?_map,Option.map_eq_some_iff,Array.getElem?_toList]at hy
     obtain⟨x,g1,g2⟩:=hy
     subst g2
     have:(ws++args.map ρc).getD i undef=ρc x:=by
      simp only[Array.getD_eq_getD_getElem?]
      rw[Array.getElem?_append_right (by omega),hn]
      simp[g1]
     rw[this];exact hρ x
theorem evOne_sound {cf:CF} (hcf:CfOk P cf) {mu:List Nat} {ops:Array Oper} {o:Oper} {s s':St} {a:Act} (h:evOne P cf mu ops.toList o s=some s') (hs:StOk B0 w0 I0 L0 s a w)
 {Q:Exit→Act→World→Prop} {K:Act→World→Prop} (hK:∀ a' w',StOk B0 w0 I0 L0 s' a' w'→K a' w') :
 if Region.wanted o (yielded ops a.tmps) then o.wp P a w K Q else K (a.put o.dst undef) w:=by
 obtain⟨I,L,hi,hx,hd,hr⟩:=hs
 unfold evOne at h
 split at h
 ·rename_i hw
  rw[wanted_sound hr hw,if_pos rfl]
  split at h
  ·rename_i v H1 hop
   simp at h;subst h
   by_cases hc:isFnCall o=true
   ·obtain⟨dst,op,type,pos,after,guard⟩:=o
    cases op<;>try (simp[isFnCall]at hc;done)
    rename_i c
    obtain⟨callee,args,ats⟩:=c
    cases callee with
    | builtin b=>simp[isFnCall]at hc
    | invoke r m=>simp[evOp,evCall]at hop
    | value f=>
      have key:∀ cf1:CF,CfOk P cf1→evCall cf1 s.ev s.h type ⟨.value f,args,ats⟩=some (v,H1)→Oper.upon P ⟨dst,.call ⟨.value f,args,ats⟩,type,pos,after,guard⟩ a K Q ((execOp a.eval ⟨dst,.call ⟨.value f,args,ats⟩,type,pos,after,guard⟩).run P w):=by
       intro cf1 hcf1 hop
       simp only[evCall]at hop
       split at hop
       ·rename_i g cs hf
        obtain⟨c1,c2⟩:=hcf1 _ _ _ _ _ hop
        obtain⟨vs,e1,e2⟩:=call_value_run (P:=P) (fun x=>ev_rep hr x) hf args type ats c1 w
        show Oper.upon P _ a K Q ((execOp a.eval _).run P w)
        simp only[execOp]
        rw[e1]
        show Calls P g vs w _
        refine(c2 B0 w0 w I L vs hi e2).mono ?_
        rintro e w' ⟨u,I',L',rfl,i1,i2,i3⟩
        refine hK _ _ ⟨I',L',by rw[put_h];exact i1,hx.trans i2,by rw[put_defers];exact hd,put_rep (hr.mono i2) _ i3 _⟩
       ·rename_i g cs hf
        obtain⟨c1,c2⟩:=hcf1 _ _ _ _ _ hop
        obtain⟨vs,e1,e2⟩:=call_bound_run (P:=P) (fun x=>ev_rep hr x) hf args type ats c1 w
        show Oper.upon P _ a K Q ((execOp a.eval _).run P w)
        simp only[execOp]
        rw[e1]
        show Calls P g vs w _
        refine(c2 B0 w0 w I L vs hi e2).mono ?_
        rintro e w' ⟨u,I',L',rfl,i1,i2,i3⟩
        refine hK _ _ ⟨I',L',by rw[put_h];exact i1,hx.trans i2,by rw[put_defers];exact hd,put_rep (hr.mono i2) _ i3 _⟩
       ·simp at hop
      simp only[evOp]at hop
      split at hop
      ·exact key _ (evAlone_sound hcf) hop
      ·exact key _ hcf hop
   ·obtain⟨n,u,w',I',L',e1,e2,e3,e4,e5⟩:=evOp_sound hi (fun x=>ev_rep hr x) (by simpa using hc) hop
    show Oper.upon P o a K Q ((execOp a.eval o).run P w)
    rw[e1]
    have fin:K (a.put o.dst u) w':=hK _ _ ⟨I',L',by rw[put_h];exact e3,hx.trans e4,by rw[put_defers];exact hd,put_rep (hr.mono e4) _ e5 _⟩
    cases n<;>simp only[nextVal,reduceCtorEq,Option.some.injEq]at e2
    ·subst e2;exact fin
    ·subst e2;exact fin
  ·simp at h
 ·rename_i hw
  rw[wanted_sound hr hw]
  simp only[Bool.false_eq_true,if_false]
  simp at h;subst h
  refine hK _ _ ⟨I,L,by rw[put_h];exact hi,hx,by rw[put_defers];exact hd,?_⟩
  exact put_rep hr o.dst (.tup [] #[] rfl (fun i y h=>by simp at h)) s.h
 ·simp at h
theorem evOps_sound {cf:CF} (hcf:CfOk P cf) {mu:List Nat} {ops:Array Oper} {Q:Exit→Act→World→Prop}:∀(l:List Oper) {s s':St} {a:Act} {w:World},evOps P cf mu ops.toList l s=some s'→StOk B0 w0 I0 L0 s a w →
 (∀ a' w',StOk B0 w0 I0 L0 s' a' w'→Q .normal a' w')→wpList P ops Q l a w
 | [],s,s',a,w,h,hs,hQ=>by
   simp[evOps]at h;subst h
   exact hQ a w hs
 | o::l,s,s',a,w,h,hs,hQ=>by
   simp only[evOps]at h
   split at h
   ·rename_i s1 h1
    have:=evOne_sound (Q:=Q) (K:=wpList P ops Q l) hcf h1 hs (fun a' w' hs'=>evOps_sound hcf l h hs' hQ)
    unfold wpList
    split
    ·rename_i hw;rw[if_pos hw]at this;exact .inl this
    ·rename_i hw;rw[if_neg hw]at this;exact this
   ·simp at h
end Go.Ev
namespace Go.Ev
open Go.RowKit
variable {P:Program} {cf:CF} {mu:List Nat} {ops:Array Oper}
mutual
theorem AV.eq_of_beq:∀(a b:AV),AV.beq a b=true→a=b
 | .top,b,h=>by cases b<;>simp[AV.beq]at h<;>rfl
 | .int k n,b,h=>by cases b<;>simp[AV.beq]at h;obtain⟨rfl,rfl⟩:=h;rfl
 | .bool x,b,h=>by cases b<;>simp[AV.beq]at h;subst h;rfl
 | .str s,b,h=>by cases b<;>simp[AV.beq]at h;subst h;rfl
 | .nilp,b,h=>by cases b<;>simp[AV.beq]at h<;>rfl
 | .nilf,b,h=>by cases b<;>simp[AV.beq]at h<;>rfl
 | .nili,b,h=>by cases b<;>simp[AV.beq]at h<;>rfl
 | .nilm,b,h=>by cases b<;>simp[AV.beq]at h<;>rfl
 | .sl t xs,b,h=>by cases b<;>simp[AV.beq]at h;obtain⟨rfl,h2⟩:=h;rw[AV.eq_of_beqL xs _ h2]
 | .pt xs,b,h=>by cases b<;>simp[AV.beq]at h;rw[AV.eq_of_beqL xs _ h]
 | .rf _ _ _ _,b,h=>by cases b<;>simp[AV.beq]at h;obtain⟨rfl,rfl,rfl,rfl⟩:=h;rfl
 | .ms _ _ _ _ _,b,h=>by cases b<;>simp[AV.beq]at h;obtain⟨rfl,rfl,rfl,rfl,rfl⟩:=h;rfl
 | .mpr _,b,h=>by cases b<;>simp[AV.beq]at h;subst h;rfl
 | .clo _ xs,b,h=>by cases b<;>simp[AV.beq]at h;obtain⟨rfl,h2⟩:=h;rw[AV.eq_of_beqL xs _ h2]
 | .clb _ xs,b,h=>by cases b<;>simp[AV.beq]at h;obtain⟨rfl,h2⟩:=h;rw[AV.eq_of_beqL xs _ h2]
 | .agg xs,b,h=>by cases b<;>simp[AV.beq]at h;rw[AV.eq_of_beqL xs _ h]
 | .tup xs,b,h=>by cases b<;>simp[AV.beq]at h;rw[AV.eq_of_beqL xs _ h]
 | .ifc _ x,b,h=>by cases b<;>simp[AV.beq]at h;obtain⟨rfl,h2⟩:=h;rw[AV.eq_of_beq x _ h2]
 | .psl _ _ _,b,h=>by cases b<;>simp[AV.beq]at h;obtain⟨rfl,rfl,rfl⟩:=h;rfl
theorem AV.eq_of_beqL:∀(a b:List AV),AV.beqL a b=true→a=b
 | [],[],_=>rfl
 | [],_::_,h=>by simp[AV.beqL]at h
 | _::_,[],h=>by simp[AV.beqL]at h
 | x::xs,y::ys,h=>by
   simp[AV.beqL]at h
   rw[AV.eq_of_beq x y h.1,AV.eq_of_beqL xs ys h.2]
end
theorem MB.eq_of_beqE:∀(a b:List (AV×AV)),MB.beqE a b=true→a=b
 | [],[],_=>rfl
 | [],_::_,h=>by simp[MB.beqE]at h
 | _::_,[],h=>by simp[MB.beqE]at h
 | (x,y)::xs,(x',y')::ys,h=>by
   simp[MB.beqE]at h
   rw[AV.eq_of_beq x x' h.1,AV.eq_of_beq y y' h.2.1,MB.eq_of_beqE xs ys h.2.2]
theorem MB.eq_of_beq (a b:MB) (h:MB.beq a b=true):a=b:=by
 cases a<;>cases b<;>simp[MB.beq]at h
 ·obtain⟨rfl,rfl,h⟩:=h;rw[AV.eq_of_beqL _ _ h]
 ·rw[MB.eq_of_beqE _ _ h]
theorem heapEq_eq:∀(a b:List MB),heapEq a b=true→a=b
 | [],[],_=>rfl
 | [],_::_,h=>by simp[heapEq]at h
 | _::_,[],h=>by simp[heapEq]at h
 | x::xs,y::ys,h=>by
   simp[heapEq]at h
   rw[MB.eq_of_beq x y h.1,heapEq_eq xs ys h.2]
theorem sameAt_eq {id:Nat} {H H':List MB} (h:sameAt id H H' = true):H[id]?=H'[id]?:=by
 unfold sameAt at h
 split at h
 ·rename_i x y h1 h2
  rw[h1,h2,MB.eq_of_beq _ _ h]
 ·rename_i h1 h2;rw[h1,h2]
 ·simp at h
theorem evOp_congr {ρ ρ':Operand→AV} {H:List MB} (o:Oper) (h:∀ x∈o.op.operands,ρ x=ρ' x):evOp P cf mu ρ H o=evOp P cf mu ρ' H o:=by
 obtain⟨dst,op,type,pos,after,guard⟩:=o
 have pairs:∀ ps:Array (Nat×Operand),(∀ x∈(ps.toList.map (·.2)).toArray,ρ x=ρ' x)→(ps.toList.map fun q=>(q.1,ρ q.2))=(ps.toList.map fun q=>(q.1,ρ' q.2)):=by
  intro ps hp
  refine List.map_congr_left fun p hm=>?_
  rw[hp p.2 (by simp;exact⟨p.1,by simpa using hm⟩)]
 have lst:∀ xs:Array Operand,(∀ x∈xs,ρ x=ρ' x)→xs.toList.map ρ=xs.toList.map ρ':=fun xs hx=>List.map_congr_left fun x hm=>hx x (by simpa using hm)
 cases op<;>simp only[Op.operands]at h<;>simp only[evOp]
 case move x=>rw[h x (by simp)]
 case assign x=>rw[h x (by simp)]
 case pick c a b=>rw[h c (by simp),h a (by simp),h b (by simp)]
 case box e x=>rw[h x (by simp)]
 case build t ps=>rw[pairs ps h]
 case buildSlice t n ps=>rw[pairs ps h]
 case load t a=>rw[h a (by simp)]
 case store t a x=>rw[h a (by simp),h x (by simp)]
 case nilCheck x=>rw[h x (by simp)]
 case binOp op t x y yt=>rw[h x (by simp),h y (by simp)]
 case unOp op t x=>rw[h x (by simp)]
 case convert s d x=>rw[h x (by simp)]
 case makeFunc fn first cap=>
  cases fn<;>simp only[]
  rw[lst cap (fun x hx=>h x (by simp[hx])),lst first (fun x hx=>h x (by simp[hx]))]
 case makeSlice t l c=>rw[h l (by simp),h c (by simp)]
 case slice t x lo hi mx=>
  rw[h x (by simp)]
  have e1:lo.map ρ=lo.map ρ':=by cases lo with|none=>rfl|some y=>simp only[Option.map_some];rw[h y (by simp)]
  have e2:hi.map ρ=hi.map ρ':=by cases hi with|none=>rfl|some y=>simp only[Option.map_some];rw[h y (by simp)]
  have e3:mx.map ρ=mx.map ρ':=by cases mx with|none=>rfl|some y=>simp only[Option.map_some];rw[h y (by simp)]
  rw[e1,e2,e3]
 case fieldAddr t x f=>rw[h x (by simp)]
 case field t x f=>rw[h x (by simp)]
 case indexAddr t x i=>rw[h x (by simp),h i (by simp)]
 case index t x i=>rw[h x (by simp),h i (by simp)]
 case extract x i=>rw[h x (by simp)]
 case call c=>
  obtain⟨callee,args,ats⟩:=c
  have ha:args.toList.map ρ=args.toList.map ρ':=lst args (fun x hx=>h x (by simp[Call.operands,hx]))
  cases callee with
  | builtin b=>simp only[];rw[ha]
  | value f=>simp only[evCall];rw[ha,h f (by simp[Call.operands])]
  | invoke r m=>rfl
theorem footprint_congr {ρ ρ':Operand→AV} {H H':List MB} (o:Oper) (h:∀ x∈o.op.operands,ρ x=ρ' x):footprint mu ρ o H H' = footprint mu ρ' o H H':=by
 obtain⟨dst,op,type,pos,after,guard⟩:=o
 cases op<;>simp only[Op.operands]at h<;>simp only[footprint]
 case load t a=>rw[h a (by simp)]
theorem nofoot {ρ:Operand→AV} {H H':List MB} {o:Oper} {v:AV} (h:evOp P cf mu ρ H o=some (v,H')) (hf:footprint mu ρ o H H' = none):H' = H∧∀ G,evOp P cf mu ρ G o=some (v,G):=by
 obtain⟨dst,op,type,pos,after,guard⟩:=o
 have pm:∀(q:Option AV),q.map (fun v=>(v,H))=some (v,H')→H' = H∧∀ G:List MB,q.map (fun v=>(v,G))=some (v,G):=by
  intro q hq
  cases q with
  | none=>simp at hq
  | some u=>simp at hq;obtain⟨rfl,rfl⟩:=hq;exact⟨rfl,fun G=>rfl⟩
 cases op<;>simp only[evOp]at h ⊢<;>simp only[footprint,reduceCtorEq]at hf
 case move x=>simp at h;obtain⟨rfl,rfl⟩:=h;exact⟨rfl,fun G=>rfl⟩
 case assign x=>simp at h;obtain⟨rfl,rfl⟩:=h;exact⟨rfl,fun G=>rfl⟩
 case pick c a b=>
  split at h
  ·rename_i t ht
   simp at h;obtain⟨rfl,rfl⟩:=h;exact⟨rfl,fun G=>rfl⟩
  ·simp at h
 case build t ps=>exact pm _ h
 case buildSlice t n ps=>
  split at h
  ·rename_i es hes
   split at h
   ·rename_i hm;rw[if_pos hm]at hf;simp at hf
   ·rename_i hm
    simp at h;obtain⟨rfl,rfl⟩:=h
    exact⟨rfl,fun G=>by rw[if_neg hm]⟩
  ·simp at h
 case load t a=>
  split at h
  ·rename_i cs hcs
   split at hf
   ·rename_i ds hd
    simp only[hd,cellsAt,Option.some.injEq]at hcs ⊢
    subst hcs
    exact pm _ h
   ·simp at hf
   ·simp at hf
  ·simp at h
 case nilCheck x=>
  split at h
  ·simp at h;obtain⟨rfl,rfl⟩:=h;exact⟨rfl,fun G=>rfl⟩
  ·simp at h;obtain⟨rfl,rfl⟩:=h;exact⟨rfl,fun G=>rfl⟩
  ·simp at h;obtain⟨rfl,rfl⟩:=h;exact⟨rfl,fun G=>rfl⟩
  ·simp at h
 case binOp op t x y yt=>exact pm _ h
 case unOp op t x=>exact pm _ h
 case convert s d x=>exact pm _ h
 case makeFunc fn first cap=>
  cases fn<;>simp only[reduceCtorEq]at h ⊢
  split at h
  ·rename_i h0
   simp at h;obtain⟨rfl,rfl⟩:=h;exact⟨rfl,fun G=>by rw[if_pos h0]⟩
  split at h
  ·rename_i h0 h1
   simp at h;obtain⟨rfl,rfl⟩:=h;exact⟨rfl,fun G=>by rw[if_neg h0,if_pos h1]⟩
  ·simp at h
 case slice t x lo hi mx=>
  split at h
  ·simp at h
  ·rename_i ht
   have key:∀(q:AV) (a b c:Option AV),evSlice P H t q a b c=some (v,H')→H' = H∧∀ G,evSlice P G t q a b c=some (v,G):=by
    intro q a b c hq
    unfold evSlice at hq ⊢
    split at hq
    ·split at hq
     ·rename_i g1
      split at hq
      ·rename_i hh g2
       split at hq
       ·rename_i ll g3
        simp at hq;obtain⟨rfl,rfl⟩:=hq
        exact⟨rfl,fun G=>by first|(rw[if_pos g1];done)|(rw[if_pos g1];simp only[g2,g3])⟩
       ·simp at hq
      ·simp at hq
     ·simp at hq
    ·split at hq
     ·rename_i e he
      split at hq
      ·rename_i s hs
       split at hq
       ·rename_i g1
        split at hq
        ·rename_i hh g2
         split at hq
         ·rename_i ll g3
          simp at hq;obtain⟨rfl,rfl⟩:=hq
          exact⟨rfl,fun G=>by first|(rw[if_pos g1];done)|(rw[if_pos g1];simp only[g2,g3])⟩
         ·simp at hq
        ·simp at hq
       ·simp at hq
      ·simp at hq
     ·simp at hq
    ·split at hq
     ·rename_i e he
      split at hq
      ·rename_i s hs
       split at hq
       ·rename_i g1
        split at hq
        ·rename_i hh g2
         split at hq
         ·rename_i ll g3
          simp at hq;obtain⟨rfl,rfl⟩:=hq
          exact⟨rfl,fun G=>by first|(rw[if_pos g1];done)|(rw[if_pos g1];simp only[g2,g3])⟩
         ·simp at hq
        ·simp at hq
       ·simp at hq
      ·simp at hq
     ·simp at hq
    ·simp at hq
   exact key _ _ _ _ h
 case fieldAddr t x f=>exact pm _ h
 case field t x f=>exact pm _ h
 case indexAddr t x i=>exact pm _ h
 case index t x i=>exact pm _ h
 case extract x i=>
  split at h
  ·exact pm _ h
  ·simp at h
 case call c=>
  obtain⟨callee,args,ats⟩:=c
  cases callee with
  | value f=>
    simp only at hf h ⊢
    split at hf
    ·rename_i hi
     simp only[if_pos hi]at h ⊢
     have alone:∀(g:Nat) (as:List AV),evAlone cf g as H=some (v,H')→H' = H∧∀ G,evAlone cf g as G=some (v,G):=by
      intro g as hq
      unfold evAlone at hq ⊢
      split at hq
      ·rename_i hu
       split at hq
       ·rename_i r0 h0
        split at hq
        ·rename_i h1
         simp only[Option.some.injEq,Prod.mk.injEq]at hq
         obtain⟨rfl,rfl⟩:=hq
         exact⟨rfl,fun G=>by rw[if_pos hu];first|rw[if_pos h1]|(rw[h0];simp only[];rw[if_pos h1])⟩
        ·cases hq
       ·cases hq
      ·cases hq
     simp only[evCall]at h ⊢
     split at h
     ·exact alone _ _ h
     ·exact alone _ _ h
     ·cases h
    ·cases hf
  | invoke r m=>simp[evCall]at h
  | builtin b=>
    simp only at h hf ⊢
    have key:∀(ts:List TypeId) (as:List AV),b=.len∨b=.min∨b=.max→evBuiltin P b ts as H=some (v,H')→H' = H∧∀ G,evBuiltin P b ts as G=some (v,G):=by
     intro ts as hb hq
     unfold evBuiltin at hq ⊢
     split at hq
     ·split at hq
      ·exact pm _ hq
      ·simp at hq
     ·split at hq
      ·rcases hb with h|h|h<;>cases h
      ·exact pm _ hq
      ·exact pm _ hq
      ·simp at hq
     ·simp at hq
    cases b<;>simp only[reduceCtorEq]at hf<;>exact key _ _ (by simp) h
 all_goals simp at h
theorem rdfoot {ρ:Operand→AV} {H H':List MB} {o:Oper} {v:AV} {id:Nat} (h:evOp P cf mu ρ H o=some (v,H')) (hf:footprint mu ρ o H H' = some (.rd id)) :
 H' = H∧∀ G,G[id]?=H[id]?→evOp P cf mu ρ G o=some (v,G):=by
 obtain⟨dst,op,type,pos,after,guard⟩:=o
 cases op<;>simp only[footprint,reduceCtorEq]at hf
 case load t a=>
  simp only[evOp]at h ⊢
  split at h
  ·rename_i cs hcs
   split at hf
   ·simp at hf
   ·rename_i i1 i2 i3 i4 hd
    simp at hf;subst hf
    cases hm:mkVal P t cs with
    | none=>rw[hm]at h;simp at h
    | some u=>
      rw[hm]at h;simp at h;obtain⟨rfl,rfl⟩:=h
      refine⟨rfl,fun G hG=>?_⟩
      have:cellsAt G (ρ a)=some cs:=by
       rw[← hcs,hd]
       simp only[cellsAt,getRow,hG]
      rw[this]
      simp[hm]
   ·simp at hf
  ·simp at h
 case call c=>
  obtain⟨callee,args,ats⟩:=c
  cases callee with
  | builtin b=>cases b<;>simp at hf
  | value f=>simp at hf
  | invoke r m=>simp at hf
 case buildSlice t n ps=>split at hf<;>simp at hf
 all_goals simp at hf
theorem genfoot {ρ:Operand→AV} {H H' G G':List MB} {o:Oper} (hf:footprint mu ρ o H H' = some (.gen G G')):G=H∧G' = H':=by
 obtain⟨dst,op,type,pos,after,guard⟩:=o
 cases op<;>simp only[footprint,reduceCtorEq]at hf
 case load t a=>split at hf<;>simp at hf;exact⟨hf.1.symm,hf.2.symm⟩
 case call c=>
  obtain⟨callee,args,ats⟩:=c
  cases callee with
  | builtin b=>cases b<;>simp at hf<;>exact⟨hf.1.symm,hf.2.symm⟩
  | value f=>simp at hf;exact⟨hf.2.1.symm,hf.2.2.symm⟩
  | invoke r m=>simp at hf;exact⟨hf.2.1.symm,hf.2.2.symm⟩
 case buildSlice t n ps=>split at hf<;>simp at hf;exact⟨hf.1.symm,hf.2.symm⟩
 all_goals (simp at hf;exact⟨hf.1.symm,hf.2.symm⟩)
theorem foot_any {ρ:Operand→AV} {H H' K K':List MB} {o:Oper} :
 (footprint mu ρ o H H' = none→footprint mu ρ o K K' = none)∧(∀ id,footprint mu ρ o H H' = some (.rd id)→footprint mu ρ o K K' = some (.rd id)) ∧
 (∀ G G',footprint mu ρ o H H' = some (.gen G G')→footprint mu ρ o K K' = some (.gen K K')):=by
 obtain⟨dst,op,type,pos,after,guard⟩:=o
 cases op<;>simp only[footprint]
 case load t a=>cases ρ a<;>simp
 case call c=>
  obtain⟨callee,args,ats⟩:=c
  cases callee with
  | builtin b=>cases b<;>simp
  | value f=>cases indDst mu dst<;>simp
  | invoke r m=>cases indDst mu dst<;>simp
 case buildSlice t n ps=>split<;>simp
 all_goals simp
def fpOf (mu:List Nat) (ρ:Operand→AV) (o:Oper) (b:Bool) (H H':List MB):Option FP:=if b=true then footprint mu ρ o H H' else none
inductive Run (P:Program) (cf:CF) (mu:List Nat) (ops:Array Oper):List (Nat×Option FP)→St→St→Prop where
 | nil (s:St):Run P cf mu ops [] s s
 | cons {i:Nat} {o:Oper} {b:Bool} {f:Option FP} {s s1 s2:St} {l:List (Nat×Option FP)} (ho:ops[i]?=some o) (hw:evWanted ops.toList s o=some b)
    (h1:evOne P cf mu ops.toList o s=some s1) (hf:f=fpOf mu s.ev o b s.h s1.h) (hr:Run P cf mu ops l s1 s2):Run P cf mu ops ((i,f)::l) s s2
def apartO:Option FP→Option FP→Bool
 | some p,some q=>p.apart q
 | _,_=>true
theorem wanted_put {ops:Array Oper} {o:Oper} {s:St} {d:Option Tmp} {v:AV} {H:List MB} (h:∀ t,d=some t→t ∉ o.looksAt ops):evWanted ops.toList (({ s with h:=H }:St).put d v) o=evWanted ops.toList s o:=by
 unfold evWanted
 cases hg:o.guard with
 | none=>rfl
 | some p=>
   obtain⟨j,wnt⟩:=p
   simp only[Array.getElem?_toList]
   cases hj:ops[j]? with
   | none=>rfl
   | some q=>
     cases hd:q.dst with
     | none=>simp[hd]
     | some e=>
       simp only[hd]
       cases d with
       | none=>rfl
       | some t=>
         have hne:t≠e:=fun e'=>h t rfl (by subst e';simp[Oper.looksAt,hg,hj,hd])
         have hg:look (({ s with h:=H }:St).put (some t) v).t e=look s.t e:=by
          show look (if t < s.n then ins t v s.t else s.t) e=_
          split
          ·exact look_ins_ne hne _
          ·rfl
         rw[hg]
theorem ev_put {o:Oper} {s:St} {d:Option Tmp} {v:AV} {H:List MB} (h:∀ t,d=some t→t ∉ o.looksAt ops):∀ x∈o.op.operands,(({ s with h:=H }:St).put d v).ev x=s.ev x:=by
 intro x hx
 cases d with
 | none=>rfl
 | some t=>
   cases x with
   | tmp u=>
     have hne:t≠u:=fun e=>h t rfl (by
      subst e
      exact List.mem_append_left _ (List.mem_filterMap.2 ⟨.tmp t,by simpa using hx,rfl⟩))
     show lookD (({ s with h:=H }:St).put (some t) v).t u=lookD s.t u
     show lookD (if t < s.n then ins t v s.t else s.t) u=_
     split
     ·unfold lookD;rw[look_ins_ne hne _]
     ·rfl
   | _=>rfl
theorem put_comm {s:St} {d e:Option Tmp} (hne:∀ t,d=some t→e≠some t) (v u:AV) (H:List MB) :
 ({ (s.put d v) with h:=H }:St).put e u=(({ (s.put e u) with h:=H }:St).put d v):=by
 cases d with
 | none=>cases e<;>rfl
 | some t=>
   cases e with
   | none=>rfl
   | some q=>
     have:t≠q:=fun h=>hne t rfl (by rw[h])
     show ({ n:=s.n,t:=if q < s.n then ins q u (if t < s.n then ins t v s.t else s.t) else(if t < s.n then ins t v s.t else s.t),h:=H }:St) =
      { n:=s.n,t:=if t < s.n then ins t v (if q < s.n then ins q u s.t else s.t) else(if q < s.n then ins q u s.t else s.t),h:=H }
     by_cases a:t < s.n<;>by_cases b:q < s.n<;>simp only[a,b,if_true,if_false]
     rw[ins_comm (Ne.symm this) _]
theorem evOne_parts {o:Oper} {s s1:St} (h:evOne P cf mu ops.toList o s=some s1) :
 (evWanted ops.toList s o=some true∧∃ v H,evOp P cf mu s.ev s.h o=some (v,H)∧s1=({ s with h:=H }:St).put o.dst v) ∨
 (evWanted ops.toList s o=some false∧s1=s.put o.dst (.tup [])):=by
 unfold evOne at h
 split at h
 ·rename_i hw
  split at h
  ·rename_i v H hop
   simp at h
   exact .inl ⟨hw,v,H,hop,h.symm⟩
  ·simp at h
 ·rename_i hw
  simp at h
  exact .inr ⟨hw,h.symm⟩
 ·simp at h
theorem Run.swap {x i:Nat} {fx fi:Option FP} {l:List (Nat×Option FP)} {s s2:St} (h:Run P cf mu ops ((x,fx)::(i,fi)::l) s s2)
 (ha:∀ p q,ops[x]?=some p→ops[i]?=some q→p.apart ops q=true) (hf:apartO fx fi=true):Run P cf mu ops ((i,fi)::(x,fx)::l) s s2:=by
 cases h with
 | @cons _ ox bx _ _ s1 _ _ hox hwx h1x hfx hr=>
   cases hr with
   | @cons _ oi bi _ _ s3 _ _ hoi hwi h1i hfi hr2=>
     obtain⟨a1,a2,a3⟩:=Oper.apart_spec (ha ox oi hox hoi)
     have key:∃(vx vi:AV) (Hx Hi Gi:List MB),s1=({ s with h:=Hx }:St).put ox.dst vx∧s3=({ s1 with h:=Hi }:St).put oi.dst vi ∧
      evWanted ops.toList s oi=some bi ∧
      (bx=true→evOp P cf mu s.ev s.h ox=some (vx,Hx))∧(bx=false→vx=.tup []∧Hx=s.h) ∧
      (bi=true→evOp P cf mu s.ev Hx oi=some (vi,Hi))∧(bi=false→vi=.tup []∧Hi=Hx) ∧
      fx=fpOf mu s.ev ox bx s.h Hx∧fi=fpOf mu s.ev oi bi Hx Hi∧Gi=Hi:=by
      have hx:∃ vx Hx,s1=({ s with h:=Hx }:St).put ox.dst vx∧(bx=true→evOp P cf mu s.ev s.h ox=some (vx,Hx))∧(bx=false→vx=.tup []∧Hx=s.h):=by
       rcases evOne_parts h1x with ⟨b1,v,H,b2,b3⟩|⟨b1,b2⟩
       ·rw[hwx]at b1;obtain rfl:=Option.some.inj b1
        exact⟨v,H,b3,fun _=>b2,fun h=>by cases h⟩
       ·rw[hwx]at b1;obtain rfl:=Option.some.inj b1
        exact⟨.tup [],s.h,b2,fun h=>(by cases h),fun _=>⟨rfl,rfl⟩⟩
      obtain⟨vx,Hx,e1,e2,e3⟩:=hx
      have hs1h:s1.h=Hx:=by rw[e1,put_h]
      have hwi':evWanted ops.toList s oi=some bi:=by rw[← hwi,e1,wanted_put a1]
      have hev:∀ y∈oi.op.operands,s1.ev y=s.ev y:=by rw[e1];exact ev_put a1
      have hi:∃ vi Hi,s3=({ s1 with h:=Hi }:St).put oi.dst vi∧(bi=true→evOp P cf mu s.ev Hx oi=some (vi,Hi))∧(bi=false→vi=.tup []∧Hi=Hx):=by
       rcases evOne_parts h1i with ⟨b1,v,H,b2,b3⟩|⟨b1,b2⟩
       ·rw[hwi]at b1;obtain rfl:=Option.some.inj b1
        refine⟨v,H,b3,fun _=>?_,fun h=>by cases h⟩
        rw[← b2,hs1h];exact(evOp_congr oi hev).symm
       ·rw[hwi]at b1;obtain rfl:=Option.some.inj b1
        refine⟨.tup [],Hx,?_,fun h=>(by cases h),fun _=>⟨rfl,rfl⟩⟩
        rw[b2];congr 1
        cases s1;simp at hs1h;rw[hs1h]
      obtain⟨vi,Hi,g1,g2,g3⟩:=hi
      refine⟨vx,vi,Hx,Hi,Hi,e1,g1,hwi',e2,e3,g2,g3,by rw[hfx,hs1h],?_,rfl⟩
      have hs3h:s3.h=Hi:=by rw[g1,put_h]
      rw[hfi,hs1h,hs3h]
      unfold fpOf
      rw[footprint_congr oi hev]
     obtain⟨vx,vi,Hx,Hi,_,e1,e2,hwi',x1,x2,i1,i2,f1,f2,_⟩:=key
     have other:∃ H1,(bi=true→evOp P cf mu s.ev s.h oi=some (vi,H1))∧(bi=false→H1=s.h)∧(bx=true→evOp P cf mu s.ev H1 ox=some (vx,Hi))∧(bx=false→H1=Hi) ∧
      fi=fpOf mu s.ev oi bi s.h H1∧fx=fpOf mu s.ev ox bx H1 Hi:=by
      cases bx with
      | false=>
        obtain⟨_,rfl⟩:=x2 rfl
        exact⟨Hi,i1,fun h=>(i2 h).2,fun h=>(by cases h),fun _=>rfl,f2,f1⟩
      | true=>
        have x1:=x1 rfl
        cases bi with
        | false=>
          obtain⟨_,rfl⟩:=i2 rfl
          exact⟨s.h,fun h=>(by cases h),fun _=>rfl,fun _=>x1,fun h=>(by cases h),f2,f1⟩
        | true=>
          have i1:=i1 rfl
          have f1:fx=footprint mu s.ev ox s.h Hx:=f1
          have f2:fi=footprint mu s.ev oi Hx Hi:=f2
          have goal:∀ H1,evOp P cf mu s.ev s.h oi=some (vi,H1)→evOp P cf mu s.ev H1 ox=some (vx,Hi)→fi=footprint mu s.ev oi s.h H1→fx=footprint mu s.ev ox H1 Hi →
           ∃ H1,(true=true→evOp P cf mu s.ev s.h oi=some (vi,H1))∧(true=false→H1=s.h)∧(true=true→evOp P cf mu s.ev H1 ox=some (vx,Hi))∧(true=false→H1=Hi) ∧
             fi=fpOf mu s.ev oi true s.h H1∧fx=fpOf mu s.ev ox true H1 Hi:=
           fun H1 c1 c2 c3 c4=>⟨H1,fun _=>c1,fun h=>(by cases h),fun _=>c2,fun h=>(by cases h),c3,c4⟩
          cases fx with
          | none=>
            obtain⟨rfl,nx⟩:=nofoot x1 f1.symm
            exact goal Hi i1 (nx Hi) f2 (foot_any.1 f1.symm).symm
          | some px=>
            cases px with
            | rd id=>
              obtain⟨rfl,nx⟩:=rdfoot x1 f1.symm
              have hsame:Hi[id]?=s.h[id]?:=by
               cases fi with
               | none=>rw[(nofoot i1 f2.symm).1]
               | some pi=>
                 cases pi with
                 | rd id'=>rw[(rdfoot i1 f2.symm).1]
                 | gen G G'=>
                   obtain⟨rfl,rfl⟩:=genfoot f2.symm
                   exact(sameAt_eq hf).symm
              exact goal Hi i1 (nx Hi hsame) f2 (foot_any.2.1 id f1.symm).symm
            | gen G G'=>
              obtain⟨p1,p2⟩:=genfoot f1.symm
              cases fi with
              | none=>
                obtain⟨q1,ni⟩:=nofoot i1 f2.symm
                subst q1
                exact goal s.h (ni s.h) x1 (foot_any.1 f2.symm).symm f1
              | some pi=>
                cases pi with
                | rd id=>
                  obtain⟨q1,ni⟩:=rdfoot i1 f2.symm
                  subst q1
                  have hs:sameAt id G G' = true:=hf
                  rw[p1,p2]at hs
                  exact goal s.h (ni s.h (sameAt_eq hs)) x1 (foot_any.2.1 id f2.symm).symm f1
                | gen K K'=>
                  obtain⟨p3,p4⟩:=genfoot f2.symm
                  have hq:heapEq G' G=true∧heapEq K' K=true:=by simpa [apartO,FP.apart] using hf
                  have q1:=heapEq_eq _ _ hq.1
                  have q2:=heapEq_eq _ _ hq.2
                  have q3:Hx=s.h:=by rw[← p2,q1,p1]
                  have q4:Hi=Hx:=by rw[← p4,q2,p3]
                  subst q4
                  rw[q3]at i1 x1 f1 f2
                  refine goal s.h ?_ ?_ ?_ ?_
                  ·exact i1
                  ·rw[q3];exact x1
                  ·exact f2
                  ·rw[q3];exact f1
     obtain⟨H1,o1,o2,o3,o4,o5,o6⟩:=other
     have one:∀(o:Oper) (t:St) (b:Bool) (v:AV) (H:List MB),evWanted ops.toList t o=some b→(b=true→evOp P cf mu t.ev t.h o=some (v,H))→(b=false→v=.tup []∧H=t.h) →
      evOne P cf mu ops.toList o t=some (({ t with h:=H }:St).put o.dst v):=by
      intro o t b v H h1 h2 h3
      unfold evOne
      rw[h1]
      cases b with
      | true=>simp only[h2 rfl]
      | false=>
        obtain⟨rfl,rfl⟩:=h3 rfl
        rfl
     have e3:=one oi s bi vi H1 hwi' o1 (fun h=>⟨(i2 h).1,o2 h⟩)
     have e4:=one ox (({ s with h:=H1 }:St).put oi.dst vi) bx vx Hi (by rw[wanted_put a3];exact hwx)
      (fun h=>by
        rw[put_h,← o3 h]
        exact evOp_congr ox (ev_put a3))
      (fun h=>⟨(x2 h).1,by rw[put_h];exact(o4 h).symm⟩)
     have e5:(({ ((({ s with h:=H1 }:St).put oi.dst vi)) with h:=Hi }:St).put ox.dst vx)=s3:=by
      rw[e2,e1]
      have c1:({ (({ s with h:=H1 }:St).put oi.dst vi) with h:=Hi }:St)=({ s with h:=Hi }:St).put oi.dst vi:=by cases oi.dst<;>rfl
      have c2:({ (({ s with h:=Hx }:St).put ox.dst vx) with h:=Hi }:St)=({ s with h:=Hi }:St).put ox.dst vx:=by cases ox.dst<;>rfl
      rw[c1,c2]
      have:=put_comm (s:={ s with h:=Hi }) (d:=oi.dst) (e:=ox.dst) (fun t h h'=>a2 t h' h) vi vx Hi
      have c3:∀(d:Option Tmp) (v:AV),({ (({ s with h:=Hi }:St).put d v) with h:=Hi }:St)=({ s with h:=Hi }:St).put d v:=by intro d v;cases d<;>rfl
      rw[c3,c3]at this
      exact this
     rw[e5]at e4
     refine .cons hoi hwi' e3 (by rw[put_h];exact o5) (.cons hox (by rw[wanted_put a3];exact hwx) e4 ?_ hr2)
     have:s3.h=Hi:=by rw[e2,put_h]
     rw[this,put_h,o6]
     unfold fpOf
     rw[footprint_congr ox (ev_put a3)]
end Go.Ev
