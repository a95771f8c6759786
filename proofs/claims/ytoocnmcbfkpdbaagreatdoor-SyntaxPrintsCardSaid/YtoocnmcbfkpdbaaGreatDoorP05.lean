/- Statements whose order is open: every order comes to what the order of the text comes to. -/
import Derived.Test.YtoocnmcbfkpdbaaGreatDoorP04
set_option linter.unusedVariables false
set_option linter.unusedSimpArgs false
open Option (map_some)
open Nat (le_refl lt_or_ge)
open List (getElem?_append_right getElem?_set_ne mem_of_getElem? take_left')
open Bool (and_eq_true)
namespace Go.Ev
variable [VarTab]
set_option linter.unusedSectionVars false
open Go.RowKit
variable {P:Program}{cf:CF}{mu:List Nat}{ops:Array Oper}
mutual
theorem AV.eq_of_beq:∀(a b:AV),AV.beq a b=true->a=b
 | .top,b,h=>by cases b<;>simp[AV.beq]at h<;>rfl
 | .int k n,b,h=>by cases b<;>simp[AV.beq]at h;obtain⟨rfl,rfl⟩:=h;rfl
 | .bool x,b,h=>by cases b<;>simp[AV.beq]at h;subst h;rfl
 | .str s,b,h=>by cases b<;>simp[AV.beq]at h;subst h;rfl
 | .nilp,b,h=>by cases b<;>simp[AV.beq]at h<;>rfl
 | .nilf,b,h=>by cases b<;>simp[AV.beq]at h<;>rfl
 | .nili,b,h=>by cases b<;>simp[AV.beq]at h<;>rfl
 | .nilm,b,h=>by cases b<;>simp[AV.beq]at h<;>rfl
 | .sl t xs,b,h=>by cases b<;>simp[AV.beq]at h;obtain⟨rfl,h2⟩:=h;rw[AV.eq_of_beqL xs _ h2]
 | .pt xs,b,h=>by cases b<;>simp[AV.beq]at h;rw[AV.eq_of_beqL xs _ h]
 | .rf _ _ _ _,b,h=>by cases b<;>simp[AV.beq]at h;obtain⟨rfl,rfl,rfl,rfl⟩:=h;rfl
 | .ms _ _ _ _ _,b,h=>by cases b<;>simp[AV.beq]at h;obtain⟨rfl,rfl,rfl,rfl,rfl⟩:=h;rfl
 | .mpr _,b,h=>by cases b<;>simp[AV.beq]at h;subst h;rfl
 | .yld _,b,h=>by cases b<;>simp[AV.beq]at h;subst h;rfl
 | .clo _ xs,b,h=>by cases b<;>simp[AV.beq]at h;obtain⟨rfl,h2⟩:=h;rw[AV.eq_of_beqL xs _ h2]
 | .clb _ xs,b,h=>by cases b<;>simp[AV.beq]at h;obtain⟨rfl,h2⟩:=h;rw[AV.eq_of_beqL xs _ h2]
 | .agg xs,b,h=>by cases b<;>simp[AV.beq]at h;rw[AV.eq_of_beqL xs _ h]
 | .tup xs,b,h=>by cases b<;>simp[AV.beq]at h;rw[AV.eq_of_beqL xs _ h]
 | .ifc _ x,b,h=>by cases b<;>simp[AV.beq]at h;obtain⟨rfl,h2⟩:=h;rw[AV.eq_of_beq x _ h2]
 | .psl _ _ _,b,h=>by cases b<;>simp[AV.beq]at h;obtain⟨rfl,rfl,rfl⟩:=h;rfl
theorem AV.eq_of_beqL:∀(a b:List AV),AV.beqL a b=true->a=b
 | [],[],_=>rfl
 | [],_::_,h=>by simp[AV.beqL]at h
 | _::_,[],h=>by simp[AV.beqL]at h
 | x::xs,y::ys,h=>by
   simp[AV.beqL]at h;rw[AV.eq_of_beq x y h.1,AV.eq_of_beqL xs ys h.2]
end
theorem MB.eq_of_beqE:∀(a b:List (AV×AV)),MB.beqE a b=true->a=b
 | [],[],_=>rfl
 | [],_::_,h=>by simp[MB.beqE]at h
 | _::_,[],h=>by simp[MB.beqE]at h
 | (x,y)::xs,(x',y')::ys,h=>by
   simp[MB.beqE]at h;rw[AV.eq_of_beq x x' h.1,AV.eq_of_beq y y' h.2.1,MB.eq_of_beqE xs ys h.2.2]
theorem MB.eq_of_beqT:∀(a b:List (Nat×AV)),MB.beqT a b=true->a=b
 | [],[],_=>rfl
 | [],_::_,h=>by simp[MB.beqT]at h
 | _::_,[],h=>by simp[MB.beqT]at h
 | (x,y)::xs,(x',y')::ys,h=>by
   simp[MB.beqT]at h;rw[h.1,AV.eq_of_beq y y' h.2.1,MB.eq_of_beqT xs ys h.2.2]
theorem Dg {a b:Code×Code} (h:codeEq a b=true):a=b:=by
 unfold codeEq at h
 simpa using h
theorem MB.eq_of_beq (a b:MB) (h:MB.beq a b=true):a=b:=by
 cases a<;>cases b<;>simp[MB.beq]at h
 ·obtain⟨rfl,rfl,h⟩:=h;rw[AV.eq_of_beqL _ _ h]
 ·obtain⟨rfl,h⟩:=h;rw[MB.eq_of_beqE _ _ h]
 ·obtain⟨rfl,rfl,rfl,h1,rfl,h2⟩:=h;rw[MB.eq_of_beqT _ _ h1,Dg h2]
 ·obtain⟨rfl,rfl,rfl,h⟩:=h;rw[AV.eq_of_beqL _ _ h]
theorem CI:∀(a b:List MB),heapEq a b=true->a=b
 | [],[],_=>rfl
 | [],_::_,h=>by simp[heapEq]at h
 | _::_,[],h=>by simp[heapEq]at h
 | x::xs,y::ys,h=>by
   simp[heapEq]at h;rw[MB.eq_of_beq x y h.1,CI xs ys h.2]
theorem FR {id:Nat}{H H':List MB} (h:sameAt id H H' = true):H[id]?=H'[id]?:=by
 unfold sameAt at h;split at h
 ·rename_i x y h1 h2;rw[h1,h2,MB.eq_of_beq _ _ h]
 ·rename_i h1 h2;rw[h1,h2]
 ·simp at h
theorem El {ρ ρ':Operand->AV}{H:List MB} (o:Oper) (h:∀ x∈o.op.operands,ρ x=ρ' x):evOp P cf mu ρ H o=evOp P cf mu ρ' H o:=by
 obtain⟨dst,op,type,pos,after,guard⟩:=o;have pairs:∀ ps:Array (Nat×Operand),(∀ x∈(ps.toList.map (·.2)).toArray,ρ x=ρ' x)->(ps.toList.map fun q=>(q.1,ρ q.2))=(ps.toList.map fun q=>(q.1,ρ' q.2)):=by
  intro ps hp;refine List.map_congr_left fun p hm=>?_;rw[hp p.2 (by simp;exact⟨p.1,by simpa using hm⟩)]
 have lst:∀ xs:Array Operand,(∀ x∈xs,ρ x=ρ' x)->xs.toList.map ρ=xs.toList.map ρ':=fun xs hx=>List.map_congr_left fun x hm=>hx x (by simpa using hm);cases op<;>simp only[Op.operands]at h<;>simp only[evOp]
 case move x=>rw[h x (by simp)]
 case assign x=>rw[h x (by simp)]
 case pick c a b=>rw[h c (by simp),h a (by simp),h b (by simp)]
 case box e x=>rw[h x (by simp)]
 case build t ps=>rw[pairs ps h]
 case buildSlice t n ps=>rw[pairs ps h]
 case load t a=>rw[h a (by simp)]
 case store t a x=>rw[h a (by simp),h x (by simp)]
 case nilCheck x=>rw[h x (by simp)]
 case binOp op t x y yt=>rw[h x (by simp),h y (by simp)]
 case unOp op t x=>rw[h x (by simp)]
 case convert s d x=>rw[h x (by simp)]
 case makeFunc fn first cap=>
  cases fn<;>simp only[];rw[lst cap (fun x hx=>h x (by simp[hx])),lst first (fun x hx=>h x (by simp[hx]))]
 case makeSlice t l c=>rw[h l (by simp),h c (by simp)]
 case slice t x lo hi mx=>
  rw[h x (by simp)];have e1:lo.map ρ=lo.map ρ':=by cases lo with|none=>rfl|some y=>simp only[map_some];rw[h y (by simp)]
  have e2:hi.map ρ=hi.map ρ':=by cases hi with|none=>rfl|some y=>simp only[map_some];rw[h y (by simp)]
  have e3:mx.map ρ=mx.map ρ':=by cases mx with|none=>rfl|some y=>simp only[map_some];rw[h y (by simp)]
  rw[e1,e2,e3]
 case fieldAddr t x f=>rw[h x (by simp)]
 case field t x f=>rw[h x (by simp)]
 case indexAddr t x i=>rw[h x (by simp),h i (by simp)]
 case index t x i=>rw[h x (by simp),h i (by simp)]
 case extract x i=>rw[h x (by simp)]
 case makeMap t r=>
  have e1:r.map ρ=r.map ρ':=by cases r with|none=>rfl|some y=>simp only[map_some];rw[h y (by simp)]
  rw[e1]
 case lookup t x i c=>rw[h x (by simp),h i (by simp)]
 case mapUpdate t m k v=>rw[h m (by simp),h k (by simp),h v (by simp)]
 case insert t m k v=>rw[h m (by simp),h k (by simp),h v (by simp)]
 case call c=>
  obtain⟨callee,args,ats⟩:=c;have ha:args.toList.map ρ=args.toList.map ρ':=lst args (fun x hx=>h x (by simp[Call.operands,hx]));cases callee with
  | builtin b=>simp only[];rw[ha]
  | value f=>simp only[evCall];rw[ha,h f (by simp[Call.operands])]
  | invoke r m=>rfl
theorem CJ {ρ ρ':Operand->AV}{H H':List MB} (o:Oper) (h:∀ x∈o.op.operands,ρ x=ρ' x):footprint0 mu ρ o H H' = footprint0 mu ρ' o H H':=by
 obtain⟨dst,op,type,pos,after,guard⟩:=o;cases op<;>simp only[Op.operands]at h<;>simp only[footprint0]
 case load t a=>rw[h a (by simp)]
 case convert s d x=>rw[h x (by simp)]
 case lookup t x i c=>rw[h x (by simp)]
 case call c=>
  obtain⟨callee,args,ats⟩:=c;have ha:args.toList.map ρ=args.toList.map ρ':=List.map_congr_left fun x hm=>h x (by simp[Call.operands];exact .inr (by simpa using hm));rw[ha]
theorem Hz {ρ:Operand->AV}{H H':List MB}{o:Oper}{v:AV} (h:evOp P cf mu ρ H o=some (v,H')) (hf:footprint0 mu ρ o H H' = none):H' = H/\∀ G,evOp P cf mu ρ G o=some (v,G):=by
 obtain⟨dst,op,type,pos,after,guard⟩:=o;have pm:∀(q:Option AV),q.map (fun v=>(v,H))=some (v,H')->H' = H/\∀ G:List MB,q.map (fun v=>(v,G))=some (v,G):=by
  intro q hq;cases q with
  | none=>simp at hq
  | some u=>simp at hq;obtain⟨rfl,rfl⟩:=hq;exact⟨rfl,fun G=>rfl⟩
 cases op<;>simp only[evOp]at h |-<;>simp only[footprint0,reduceCtorEq]at hf
 case move x=>simp at h;obtain⟨rfl,rfl⟩:=h;exact⟨rfl,fun G=>rfl⟩
 case assign x=>simp at h;obtain⟨rfl,rfl⟩:=h;exact⟨rfl,fun G=>rfl⟩
 case pick c a b=>
  split at h
  ·rename_i t ht;simp at h;obtain⟨rfl,rfl⟩:=h;exact⟨rfl,fun G=>rfl⟩
  ·simp at h
 case build t ps=>exact pm _ h
 case box e x=>
  split at h
  ·rename_i hok;split at h
   ·rename_i hm;simp at h;obtain⟨rfl,rfl⟩:=h;exact⟨rfl,fun G=>by rw[if_pos hok,if_pos hm]⟩
   ·rename_i hm;rw[if_neg hm]at hf;simp at hf
  ·simp at h
 case buildSlice t n ps=>
  split at h
  ·rename_i es hes;split at h
   ·rename_i hm;rw[if_pos hm]at hf;simp at hf
   ·rename_i hm;simp at h;obtain⟨rfl,rfl⟩:=h;exact⟨rfl,fun G=>by rw[if_neg hm]⟩
  ·simp at h
 case load t a=>
  split at h
  ·rename_i cs hcs;split at hf
   ·rename_i ds hd;simp only[hd,cellsAt,Option.some.injEq]at hcs |-;subst hcs;exact pm _ h
   ·simp at hf
   ·simp at hf
  ·simp at h
 case nilCheck x=>
  split at h
  ·simp at h;obtain⟨rfl,rfl⟩:=h;exact⟨rfl,fun G=>rfl⟩
  ·simp at h;obtain⟨rfl,rfl⟩:=h;exact⟨rfl,fun G=>rfl⟩
  ·simp at h;obtain⟨rfl,rfl⟩:=h;exact⟨rfl,fun G=>rfl⟩
  ·simp at h
 case binOp op t x y yt=>exact pm _ h
 case unOp op t x=>exact pm _ h
 case convert s d x=>
  split at h
  ·rename_i e he;split at h
   ·rename_i hc;have key:∀ G,strOf G (ρ x)=strOf H (ρ x):=fun G=>by
     cases hx:ρ x<;>first|rfl|(rw[hx]at hf;cases hf)
    obtain⟨h1,h2⟩:=(by
     cases hq:strOf H (ρ x) with
     | none=>rw[hq]at h;cases h
     | some b=>
       rw[hq]at h;simp only[map_some,Option.some.injEq,Prod.mk.injEq]at h;obtain⟨rfl,rfl⟩:=h;exact⟨rfl,fun G=>by rw[if_pos hc,key,hq];rfl⟩:H' = H/\∀ G,(if tyInt P e=some .u8/\tyStr P d=true then(strOf G (ρ x)).map fun b=>(AV.str b,G) else none)=some (v,G))
    exact⟨h1,h2⟩
   ·cases h
  ·exact pm _ h
 case makeFunc fn first cap=>
  cases fn<;>simp only[reduceCtorEq]at h |-;split at h
  ·rename_i h0;simp at h;obtain⟨rfl,rfl⟩:=h;exact⟨rfl,fun G=>by rw[if_pos h0]⟩
  split at h
  ·rename_i h0 h1;simp at h;obtain⟨rfl,rfl⟩:=h;exact⟨rfl,fun G=>by rw[if_neg h0,if_pos h1]⟩
  ·simp at h
 case slice t x lo hi mx=>
  split at h
  ·have key:∀(n:Nat) (e:TypeId) (q:AV) (a b c:Option AV),evSliceArr P H n e q a b c=some (v,H')->H' = H/\∀ G,evSliceArr P G n e q a b c=some (v,G):=by
    intro n e q a b c hq;unfold evSliceArr at hq |-;split at hq
    ·split at hq
     ·rename_i s hs;split at hq
      ·rename_i g1;split at hq
       ·rename_i hh g2;split at hq
        ·rename_i ll g3;simp at hq;obtain⟨rfl,rfl⟩:=hq;exact⟨rfl,fun G=>by rw[if_pos g1]⟩
        ·simp at hq
       ·simp at hq
      ·simp at hq
     ·simp at hq
    ·simp at hq
   exact key _ _ _ _ _ _ h
  ·rename_i ht;have key:∀(q:AV) (a b c:Option AV),evSlice P H t q a b c=some (v,H')->H' = H/\∀ G,evSlice P G t q a b c=some (v,G):=by
    intro q a b c hq;unfold evSlice at hq |-;split at hq
    ·split at hq
     ·rename_i g1;split at hq
      ·rename_i hh g2;split at hq
       ·rename_i ll g3;simp at hq;obtain⟨rfl,rfl⟩:=hq;exact⟨rfl,fun G=>by first|(rw[if_pos g1];done)|(rw[if_pos g1];simp only[g2,g3])⟩
       ·simp at hq
      ·simp at hq
     ·simp at hq
    ·split at hq
     ·rename_i e he;split at hq
      ·rename_i s hs;split at hq
       ·rename_i g1;split at hq
        ·rename_i hh g2;split at hq
         ·rename_i ll g3;simp at hq;obtain⟨rfl,rfl⟩:=hq;exact⟨rfl,fun G=>by first|(rw[if_pos g1];done)|(rw[if_pos g1];simp only[g2,g3])⟩
         ·simp at hq
        ·simp at hq
       ·simp at hq
      ·simp at hq
     ·simp at hq
    ·split at hq
     ·rename_i e he;split at hq
      ·rename_i s hs;split at hq
       ·rename_i g1;split at hq
        ·rename_i mm g0;split at hq
         ·rename_i hh g2;split at hq
          ·rename_i ll g3;simp at hq;obtain⟨rfl,rfl⟩:=hq;exact⟨rfl,fun G=>by first|(rw[if_pos g1];done)|(rw[if_pos g1];simp only[g0,g2,g3])⟩
          ·simp at hq
         ·simp at hq
        ·simp at hq
       ·simp at hq
      ·simp at hq
     ·simp at hq
    ·split at hq
     ·rename_i e he;split at hq
      ·rename_i s hs;split at hq
       ·rename_i g1;split at hq
        ·rename_i hh g2;split at hq
         ·rename_i ll g3;simp at hq;obtain⟨rfl,rfl⟩:=hq;exact⟨rfl,fun G=>by first|(rw[if_pos g1];done)|(rw[if_pos g1];simp only[g2,g3])⟩
         ·simp at hq
        ·simp at hq
       ·simp at hq
      ·simp at hq
     ·simp at hq
    ·simp at hq
   exact key _ _ _ _ h
 case fieldAddr t x f=>exact pm _ h
 case field t x f=>exact pm _ h
 case indexAddr t x i=>exact pm _ h
 case index t x i=>exact pm _ h
 case extract x i=>
  split at h
  ·exact pm _ h
  ·simp at h
 case lookup t x i c=>
  split at hf
  ·rename_i hx;rw[hx]at h;have e:∀ G,evLookup P G t (ρ x) (ρ i) c=evLookup P H t .nilm (ρ i) c:=fun G=>by rw[hx];rfl
   obtain⟨h1,h2⟩:=pm _ h;exact⟨h1,fun G=>by rw[e];exact h2 G⟩
  ·cases hf
  ·cases hf
 case call c=>
  obtain⟨callee,args,ats⟩:=c;cases callee with
  | value f=>
    simp only at hf h |-;split at hf
    ·rename_i hi;simp only[if_pos hi]at h |-;have alone:∀(g:Nat) (as:List AV),evAlone cf g as H=some (v,H')->H' = H/\∀ G,evAlone cf g as G=some (v,G):=by
      intro g as hq;unfold evAlone at hq |-;split at hq
      ·rename_i hu;split at hq
       ·rename_i r0 h0;split at hq
        ·rename_i h1;simp only[Option.some.injEq,Prod.mk.injEq]at hq;obtain⟨rfl,rfl⟩:=hq;exact⟨rfl,fun G=>by rw[if_pos hu];first|rw[if_pos h1]|(rw[h0];simp only[];rw[if_pos h1])⟩
        ·cases hq
       ·cases hq
      ·cases hq
     simp only[evCall,cfn]at h |-;split at h
     ·split at h
      ·cases h
      ·rename_i hg;simp only[if_neg hg];exact alone _ _ h
     ·split at h
      ·cases h
      ·rename_i hg;simp only[if_neg hg];exact alone _ _ h
     ·exact alone _ _ h
     ·cases h
    ·cases hf
  | invoke r m=>simp[evCall]at h
  | builtin b=>
    simp only at h hf |-;have key:∀(ts:List TypeId) (as:List AV),(b=.len/\∀ id,as≠[.mpr id])∨b=.min∨b=.max->evBuiltin P b ts as H=some (v,H')->H' = H/\∀ G,evBuiltin P b ts as G=some (v,G):=by
     intro ts as hb hq;unfold evBuiltin at hq |-;split at hq
     ·split at hq
      ·rename_i _ x _ _ T;have e:∀ G,evLenH P G T x=evLenH P H T x:=fun G=>by
        rcases hb with ⟨_,h2⟩|h2|h2
        ·cases x<;>first|rfl|exact absurd rfl (h2 _)
        ·cases h2
        ·cases h2
       obtain⟨h1,h2⟩:=pm _ hq;exact⟨h1,fun G=>by rw[e];exact h2 G⟩
      ·rcases hb with ⟨h,_⟩|h|h<;>cases h
      ·rcases hb with ⟨h,_⟩|h|h<;>cases h
      ·cases hq
     ·split at hq
      ·rcases hb with ⟨h,_⟩|h|h<;>cases h
      ·exact pm _ hq
      ·exact pm _ hq
      ·simp at hq
     ·simp at hq
    cases b<;>simp only[reduceCtorEq]at hf
    case len=>
     refine key _ _ (.inl ⟨rfl,fun id e=>?_⟩) h;rw[e]at hf;cases hf
    case min=>exact key _ _ (.inr (.inl rfl)) h
    case max=>exact key _ _ (.inr (.inr rfl)) h
 all_goals simp at h
theorem Ht {ρ:Operand->AV}{H H':List MB}{o:Oper}{v:AV}{id:Nat} (h:evOp P cf mu ρ H o=some (v,H')) (hf:footprint0 mu ρ o H H' = some (.rd id)) :
  H' = H/\∀ G,G[id]?=H[id]?->evOp P cf mu ρ G o=some (v,G):=by
 obtain⟨dst,op,type,pos,after,guard⟩:=o;cases op<;>simp only[footprint0,reduceCtorEq]at hf
 case load t a=>
  simp only[evOp]at h |-;split at h
  ·rename_i cs hcs;split at hf
   ·simp at hf
   ·rename_i i1 i2 i3 i4 hd;simp at hf;subst hf;cases hm:mkVal P t cs with
    | none=>rw[hm]at h;simp at h
    | some u=>
      rw[hm]at h;simp at h;obtain⟨rfl,rfl⟩:=h;refine⟨rfl,fun G hG=>?_⟩;have:cellsAt G (ρ a)=some cs:=by
       rw[<- hcs,hd];simp only[cellsAt,getRow,hG]
      rw[this];simp[hm]
   ·simp at hf
  ·simp at h
 case convert s d x=>
  simp only[evOp]at h |-;split at hf
  ·rename_i id2 a1 a2 a3 a4 hx;simp only[Option.some.injEq,FP.rd.injEq]at hf;subst hf;split at h
   ·rename_i e he;split at h
    ·rename_i hc;cases hq:strOf H (ρ x) with
     | none=>rw[hq]at h;cases h
     | some b=>
       rw[hq]at h;simp only[map_some,Option.some.injEq,Prod.mk.injEq]at h;obtain⟨rfl,rfl⟩:=h;refine⟨rfl,fun G hG=>?_⟩;have e2:strOf G (ρ x)=strOf H (ρ x):=by
        rw[hx];simp only[strOf,elemsOf,getRow,hG]
       rw[if_pos hc,e2,hq];rfl
    ·cases h
   ·rename_i he;rw[hx]at h;simp[evConvert]at h
  ·cases hf
 case lookup t x i c=>
  simp only[evOp]at h |-;split at hf
  ·cases hf
  ·rename_i id2 hx;simp only[Option.some.injEq,FP.rd.injEq]at hf;subst hf;rw[hx]at h |-;cases hq:evLookup P H t (.mpr id2) (ρ i) c with
   | none=>rw[hq]at h;cases h
   | some u=>
     rw[hq]at h;simp only[map_some,Option.some.injEq,Prod.mk.injEq]at h;obtain⟨rfl,rfl⟩:=h;refine⟨rfl,fun G hG=>?_⟩;have e:getMp G id2=getMp H id2:=by unfold getMp;rw[hG]
     have e2:evLookup P G t (.mpr id2) (ρ i) c=evLookup P H t (.mpr id2) (ρ i) c:=by simp only[evLookup,e]
     rw[e2,hq];rfl
  ·cases hf
 case call c=>
  obtain⟨callee,args,ats⟩:=c;cases callee with
  | builtin b=>
    cases b<;>simp at hf
    case len=>
     split at hf
     ·rename_i id2 hx;simp only[Option.some.injEq,FP.rd.injEq]at hf;subst hf;simp only[evOp,hx,evBuiltin]at h |-;split at h
      ·rename_i T _ _;cases hq:evLenH P H T (.mpr id2) with
       | none=>rw[hq]at h;cases h
       | some u=>
         rw[hq]at h;simp only[map_some,Option.some.injEq,Prod.mk.injEq]at h;obtain⟨rfl,rfl⟩:=h;refine⟨rfl,fun G hG=>?_⟩;have e2:evLenH P G T (.mpr id2)=evLenH P H T (.mpr id2):=by simp only[evLenH,lenMp,getMp,hG]
         rw[e2,hq];rfl
      ·rename_i hb _;cases hb
      ·rename_i hb _;cases hb
      ·cases h
     ·cases hf
  | value f=>simp at hf
  | invoke r m=>simp at hf
 case box e x=>split at hf<;>simp at hf
 case buildSlice t n ps=>split at hf<;>simp at hf
 all_goals simp at hf
theorem Gm {ρ:Operand->AV}{H H' G G':List MB}{o:Oper} (hf:footprint0 mu ρ o H H' = some (.gen G G')):G=H/\G' = H':=by
 obtain⟨dst,op,type,pos,after,guard⟩:=o;cases op<;>simp only[footprint0,reduceCtorEq]at hf
 case load t a=>split at hf<;>simp at hf;exact⟨hf.1.symm,hf.2.symm⟩
 case convert s d x=>split at hf<;>simp at hf
 case lookup t x i c=>
  split at hf
  ·cases hf
  ·cases hf
  ·simp at hf;exact⟨hf.1.symm,hf.2.symm⟩
 case call c=>
  obtain⟨callee,args,ats⟩:=c;cases callee with
  | builtin b=>
    cases b
    case len=>simp only at hf;split at hf<;>cases hf
    all_goals (simp at hf;try exact⟨hf.1.symm,hf.2.symm⟩)
  | value f=>simp at hf;exact⟨hf.2.1.symm,hf.2.2.symm⟩
  | invoke r m=>simp at hf;exact⟨hf.2.1.symm,hf.2.2.symm⟩
 case box e x=>split at hf<;>simp at hf;exact⟨hf.1.symm,hf.2.symm⟩
 case buildSlice t n ps=>split at hf<;>simp at hf;exact⟨hf.1.symm,hf.2.symm⟩
 all_goals (simp at hf;exact⟨hf.1.symm,hf.2.symm⟩)
theorem Fc {ρ:Operand->AV}{H H' K K':List MB}{o:Oper} :
  (footprint0 mu ρ o H H' = none->footprint0 mu ρ o K K' = none)/\(∀ id,footprint0 mu ρ o H H' = some (.rd id)->footprint0 mu ρ o K K' = some (.rd id)) /\
  (∀ G G',footprint0 mu ρ o H H' = some (.gen G G')->footprint0 mu ρ o K K' = some (.gen K K')):=by
 obtain⟨dst,op,type,pos,after,guard⟩:=o;cases op<;>simp only[footprint0]
 case load t a=>cases ρ a<;>simp
 case convert s d x=>cases ρ x<;>simp
 case lookup t x i c=>cases ρ x<;>simp
 case call c=>
  obtain⟨callee,args,ats⟩:=c;cases callee with
  | builtin b=>
    cases b
    case len=>simp only;split<;>simp
    all_goals simp
  | value f=>cases indDst mu dst<;>simp
  | invoke r m=>cases indDst mu dst<;>simp
 case box e x=>split<;>simp
 case buildSlice t n ps=>split<;>simp
 all_goals simp
theorem CS {ρ ρ':Operand->AV}{H H':List MB} (o:Oper) (h:∀ x∈o.op.operands,ρ x=ρ' x):footprint mu ρ o H H' = footprint mu ρ' o H H':=by
 unfold footprint;rw[CJ o h];congr 1;have h0:=CJ (mu:=mu) (H:=H) (H':=H') o h;obtain⟨dst,op,type,pos,after,guard⟩:=o;cases op<;>simp only[fineF]<;>try exact h0
 case store t a x=>
  have:ρ a=ρ' a:=h a (by simp[Op.operands]);rw[this];split
  ·rfl
  ·exact h0
theorem EW {ρ:Operand->AV}{H H':List MB}{o:Oper}{v:AV} (h:evOp P cf mu ρ H o=some (v,H')) (hf:footprint mu ρ o H H' = none):H' = H/\∀ G,evOp P cf mu ρ G o=some (v,G):=by
 unfold footprint at hf;split at hf
 ·refine Hz h ?_;obtain⟨dst,op,type,pos,after,guard⟩:=o;cases op<;>simp only[fineF,reduceCtorEq]at hf<;>try exact hf
  case store t a x=>
   split at hf
   ·cases hf
   ·exact hf
 ·exact Hz h hf
theorem EO {ρ:Operand->AV}{H H':List MB}{o:Oper}{v:AV}{id:Nat} (h:evOp P cf mu ρ H o=some (v,H')) (hf:footprint mu ρ o H H' = some (.rd id)) :
  H' = H/\∀ G,G[id]?=H[id]?->evOp P cf mu ρ G o=some (v,G):=by
 unfold footprint at hf;split at hf
 ·refine Ht h ?_;obtain⟨dst,op,type,pos,after,guard⟩:=o;cases op<;>simp only[fineF,reduceCtorEq,Option.some.injEq]at hf<;>try exact hf
  case store t a x=>
   split at hf
   ·cases hf
   ·exact hf
 ·exact Ht h hf
theorem F2 {ρ:Operand->AV}{H H' G G':List MB}{o:Oper} (hf:footprint mu ρ o H H' = some (.gen G G')):G=H/\G' = H':=by
 unfold footprint at hf;split at hf
 ·refine Gm (mu:=mu) (ρ:=ρ) (o:=o) ?_;obtain⟨dst,op,type,pos,after,guard⟩:=o;cases op<;>simp only[fineF,reduceCtorEq,Option.some.injEq]at hf<;>try exact hf
  case store t a x=>
   split at hf
   ·cases hf
   ·exact hf
 ·exact Gm hf
theorem Bw {ρ:Operand->AV}{H H':List MB}{o:Oper}:(∀ n,footprint0 mu ρ o H H'≠some (.mk n))/\(∀ n,footprint0 mu ρ o H H'≠some (.wr n)):=by
 obtain⟨dst,op,type,pos,after,guard⟩:=o;cases op<;>simp only[footprint0]
 case load t a=>cases ρ a<;>simp
 case convert s d x=>cases ρ x<;>simp
 case lookup t x i c=>cases ρ x<;>simp
 case call c=>
  obtain⟨callee,args,ats⟩:=c;cases callee with
  | builtin b=>
    cases b
    case len=>simp only;split<;>simp
    all_goals simp
  | value f=>cases indDst mu dst<;>simp
  | invoke r m=>cases indDst mu dst<;>simp
 case box e x=>split<;>simp
 case buildSlice t n ps=>split<;>simp
 all_goals simp
theorem HS {ρ:Operand->AV}{H H':List MB}{o:Oper}{v:AV}{n:Nat} (h:evOp P cf mu ρ H o=some (v,H')) (hf:footprint mu ρ o H H' = some (.mk n)) :
  n=H.length/\(∃ b,H' = H++[b]/\∀ G,G.length=H.length->evOp P cf mu ρ G o=some (v,G++[b]))/\∀ K K',K.length=H.length->footprint mu ρ o K K' = some (.mk n):=by
 unfold footprint at hf |-;split at hf
 ·rename_i hc;simp only[if_pos hc];obtain⟨dst,op,type,pos,after,guard⟩:=o;cases op<;>simp only[fineF,reduceCtorEq,Option.some.injEq,FP.mk.injEq]at hf |-<;>try exact absurd hf (Bw.1 _)
  case store t a x=>
   split at hf
   ·cases hf
   ·exact absurd hf (Bw.1 _)
  case alloc e=>
   subst hf;refine⟨rfl,?_,fun K _ hK=>hK⟩;simp only[evOp]at h |-;split at h
   ·rename_i z hz;split at h
    ·rename_i hz2;split at h
     ·rename_i ht;split at h
      ·rename_i h0;simp only[Option.some.injEq,Prod.mk.injEq]at h;obtain⟨rfl,rfl⟩:=h;exact⟨_,rfl,fun G hG=>by rw[if_pos hz2,if_pos ht,if_pos h0,hG]⟩
      ·cases h
     ·rename_i ht;simp only[Option.some.injEq,Prod.mk.injEq]at h;obtain⟨rfl,rfl⟩:=h;exact⟨_,rfl,fun G hG=>by rw[if_pos hz2,if_neg ht,hG]⟩
    ·cases h
   ·cases h
  case makeMap t r=>
   subst hf;refine⟨rfl,?_,fun K _ hK=>hK⟩;simp only[evOp]at h |-;split at h
   ·rename_i hk;split at h
    ·rename_i hz2;simp only[Option.some.injEq,Prod.mk.injEq]at h;obtain⟨rfl,rfl⟩:=h;exact⟨_,rfl,fun G hG=>by rw[if_pos hz2,hG]⟩
    ·cases h
   ·cases h
  case makeSlice t l c=>
   subst hf;refine⟨rfl,?_,fun K _ hK=>hK⟩;simp only[evOp,evMakeSlice]at h |-;split at h
   ·split at h
    ·split at h
     ·rename_i hz2;simp only[Option.some.injEq,Prod.mk.injEq]at h;obtain⟨rfl,rfl⟩:=h;exact⟨_,rfl,fun G hG=>by first|(rw[if_pos hz2,hG];done)|(simp only[*];rw[if_pos hz2])⟩
     ·cases h
    ·cases h
   ·cases h
 ·exact absurd hf (Bw.1 _)
theorem Fp {ρ:Operand->AV}{H H':List MB}{o:Oper}{v:AV}{id:Nat} (h:evOp P cf mu ρ H o=some (v,H')) (hf:footprint mu ρ o H H' = some (.wr id)) :
  (∃ b,H' = H.set id b/\∀ G,G[id]?=H[id]?->evOp P cf mu ρ G o=some (v,G.set id b))/\∀ K K',footprint mu ρ o K K' = some (.wr id):=by
 unfold footprint at hf |-;split at hf
 ·rename_i hc;simp only[if_pos hc];obtain⟨dst,op,type,pos,after,guard⟩:=o;cases op<;>simp only[fineF,reduceCtorEq,Option.some.injEq]at hf |-<;>try exact absurd hf (Bw.2 _)
  case store t a x=>
   split at hf
   ·rename_i i1 tot i j ha;simp only[Option.some.injEq,FP.wr.injEq]at hf;subst hf;simp only[ha];refine⟨?_,fun _ _=>trivial⟩;simp only[evOp,ha]at h |-;cases hs:evStore P H t (.rf i1 tot i j) (ρ x) with
    | none=>rw[hs]at h;cases h
    | some H2=>
      rw[hs]at h;simp only[map_some,Option.some.injEq,Prod.mk.injEq]at h;obtain⟨rfl,rfl⟩:=h;have key:∃ b,H2=H.set i1 b/\∀ G:List MB,G[i1]?=H[i1]?->evStore P G t (.rf i1 tot i j) (ρ x)=some (G.set i1 b):=by
       simp only[evStore]at hs |-;cases hr:getRow H i1 with
       | none=>rw[hr]at hs;cases hs
       | some q=>
         obtain⟨k,els,z⟩:=q;rw[hr]at hs;simp only at hs;have hrG:∀ G:List MB,G[i1]?=H[i1]?->getRow G i1=some (k,els,z):=fun G hG=>by rw[<- hr];unfold getRow;rw[hG]
         split at hs
         ·rename_i g1;split at hs
          ·rename_i y s e1 e2;split at hs
           ·rename_i g2;simp only[Option.some.injEq]at hs;exact⟨_,hs.symm,fun G hG=>by rw[hrG G hG];simp only;rw[if_pos g1];simp only[e1,e2];rw[if_pos g2]⟩
           ·cases hs
          ·cases hs
         ·cases hs
      obtain⟨b,k1,k2⟩:=key;exact⟨b,k1,fun G hG=>by rw[k2 G hG];rfl⟩
   ·exact absurd hf (Bw.2 _)
 ·exact absurd hf (Bw.2 _)
theorem Bp {ρ:Operand->AV}{H H' K K':List MB}{o:Oper} :
  (footprint mu ρ o H H' = none->footprint mu ρ o K K' = none)/\(∀ id,footprint mu ρ o H H' = some (.rd id)->footprint mu ρ o K K' = some (.rd id)) /\
  (∀ G G',footprint mu ρ o H H' = some (.gen G G')->footprint mu ρ o K K' = some (.gen K K')):=by
 unfold footprint;split
 ·have h0:=Fc (mu:=mu) (ρ:=ρ) (o:=o) (H:=H) (H':=H') (K:=K) (K':=K');obtain⟨dst,op,type,pos,after,guard⟩:=o;cases op<;>simp only[fineF]<;>first|exact h0|skip
  case store t a x=>
   split
   ·simp
   ·exact h0
  all_goals simp
 ·exact Fc
def fpOf (mu:List Nat) (ρ:Operand->AV) (o:Oper) (b:Bool) (H H':List MB):Option FP:=if b=true then footprint mu ρ o H H' else none
inductive Run (P:Program) (cf:CF) (mu:List Nat) (ops:Array Oper):List (Nat×Option FP)->St->St->Prop where
 | nil (s:St):Run P cf mu ops [] s s
 | cons {i:Nat}{o:Oper}{b:Bool}{f:Option FP}{s s1 s2:St}{l:List (Nat×Option FP)} (ho:ops[i]?=some o) (hw:evWanted ops.toList s o=some b)
    (h1:evOne P cf mu ops.toList o s=some s1) (hf:f=fpOf mu s.ev o b s.h s1.h) (hr:Run P cf mu ops l s1 s2):Run P cf mu ops ((i,f)::l) s s2
noncomputable def apartO:Option FP->Option FP->Bool
 | some p,some q=>p.apart q
 | _,_=>true
theorem wanted_put {ops:Array Oper}{o:Oper}{s:St}{d:Option Tmp}{v:AV}{H:List MB} (h:∀ t,d=some t->t ∉ o.looksAt ops):evWanted ops.toList (({ s with h:=H }:St).put d v) o=evWanted ops.toList s o:=by
 unfold evWanted;cases hg:o.guard with
 | none=>rfl
 | some p=>
   obtain⟨j,wnt⟩:=p;simp only[Array.getElem?_toList];cases hj:ops[j]? with
   | none=>rfl
   | some q=>
     cases hd:q.dst with
     | none=>simp[hd]
     | some e=>
       simp only[hd];cases d with
       | none=>rfl
       | some t=>
         have hne:t≠e:=fun e'=>h t rfl (by subst e';simp[Oper.looksAt,hg,hj,hd]);have hg:look (({ s with h:=H }:St).put (some t) v).t e=look s.t e:=by
          show look (if t<s.n then ins t v s.t else s.t) e=_;split
          ·exact Cc hne _
          ·rfl
         rw[hg]
theorem Hb {o:Oper}{s:St}{d:Option Tmp}{v:AV}{H:List MB} (h:∀ t,d=some t->t ∉ o.looksAt ops):∀ x∈o.op.operands,(({ s with h:=H }:St).put d v).ev x=s.ev x:=by
 intro x hx;cases d with
 | none=>rfl
 | some t=>
   cases x with
   | tmp u=>
     have hne:t≠u:=fun e=>h t rfl (by
      subst e;exact List.mem_append_left _ (List.mem_filterMap.2 ⟨.tmp t,by simpa using hx,rfl⟩))
     show lookD (({ s with h:=H }:St).put (some t) v).t u=lookD s.t u;show lookD (if t<s.n then ins t v s.t else s.t) u=_;split
     ·unfold lookD;rw[Cc hne _]
     ·rfl
   | _=>rfl
theorem put_comm {s:St}{d e:Option Tmp} (hne:∀ t,d=some t->e≠some t) (v u:AV) (H:List MB) :
  ({ (s.put d v) with h:=H }:St).put e u=(({ (s.put e u) with h:=H }:St).put d v):=by
 cases d with
 | none=>cases e<;>rfl
 | some t=>
   cases e with
   | none=>rfl
   | some q=>
     have:t≠q:=fun h=>hne t rfl (by rw[h])
     show ({ n:=s.n,t:=if q<s.n then ins q u (if t<s.n then ins t v s.t else s.t) else(if t<s.n then ins t v s.t else s.t),h:=H }:St) =
      { n:=s.n,t:=if t<s.n then ins t v (if q<s.n then ins q u s.t else s.t) else(if q<s.n then ins q u s.t else s.t),h:=H }
     by_cases a:t<s.n<;>by_cases b:q<s.n<;>simp only[a,b,if_true,if_false];rw[Ge (Ne.symm this) _]
theorem Dv {o:Oper}{s s1:St} (h:evOne P cf mu ops.toList o s=some s1) :
  (evWanted ops.toList s o=some true/\∃ v H,evOp P cf mu s.ev s.h o=some (v,H)/\s1=({ s with h:=H }:St).put o.dst v) ∨
  (evWanted ops.toList s o=some false/\s1=s.put o.dst (.tup [])):=by
 unfold evOne at h;split at h
 ·rename_i hw;split at h
  ·rename_i v H hop;simp at h;exact .inl ⟨hw,v,H,hop,h.symm⟩
  ·simp at h
 ·rename_i hw;simp at h;exact .inr ⟨hw,h.symm⟩
 ·simp at h
theorem neb {i j:Nat} (h:(!(i==j))=true):i≠j:=by simpa using h
theorem getElem?_snoc_ne {H:List MB}{b:MB}{j:Nat} (h:j≠H.length):(H++[b])[j]?=H[j]?:=by
 rcases lt_or_ge j H.length with h1|h1
 ·exact List.getElem?_append_left h1
 ·rw[List.getElem?_eq_none (by simp;omega),List.getElem?_eq_none h1]
theorem Do {H:List MB}{b y:MB}{j:Nat} (h:j≠H.length):H.set j y++[b]=(H++[b]).set j y:=by
 rcases lt_or_ge j H.length with h1|h1
 ·rw[List.set_append_left _ _ h1]
 ·rw[List.set_append_right _ _ h1,List.set_eq_of_length_le h1,List.set_eq_of_length_le (by simp;omega)]
theorem Run.swap {x i:Nat}{fx fi:Option FP}{l:List (Nat×Option FP)}{s s2:St} (h:Run P cf mu ops ((x,fx)::(i,fi)::l) s s2)
  (ha:∀ p q,ops[x]?=some p->ops[i]?=some q->p.apart ops q=true) (hf:apartO fx fi=true):Run P cf mu ops ((i,fi)::(x,fx)::l) s s2:=by
 cases h with
 | @cons _ ox bx _ _ s1 _ _ hox hwx h1x hfx hr=>
   cases hr with
   | @cons _ oi bi _ _ s3 _ _ hoi hwi h1i hfi hr2=>
     obtain⟨a1,a2,a3⟩:=Oper.apart_spec (ha ox oi hox hoi)
     have key:∃(vx vi:AV) (Hx Hi Gi:List MB),s1=({ s with h:=Hx }:St).put ox.dst vx/\s3=({ s1 with h:=Hi }:St).put oi.dst vi /\
       evWanted ops.toList s oi=some bi /\
       (bx=true->evOp P cf mu s.ev s.h ox=some (vx,Hx))/\(bx=false->vx=.tup []/\Hx=s.h) /\
       (bi=true->evOp P cf mu s.ev Hx oi=some (vi,Hi))/\(bi=false->vi=.tup []/\Hi=Hx) /\
       fx=fpOf mu s.ev ox bx s.h Hx/\fi=fpOf mu s.ev oi bi Hx Hi/\Gi=Hi:=by
      have hx:∃ vx Hx,s1=({ s with h:=Hx }:St).put ox.dst vx/\(bx=true->evOp P cf mu s.ev s.h ox=some (vx,Hx))/\(bx=false->vx=.tup []/\Hx=s.h):=by
       rcases Dv h1x with ⟨b1,v,H,b2,b3⟩|⟨b1,b2⟩
       ·rw[hwx]at b1;obtain rfl:=Option.some.inj b1;exact⟨v,H,b3,fun _=>b2,fun h=>by cases h⟩
       ·rw[hwx]at b1;obtain rfl:=Option.some.inj b1;exact⟨.tup [],s.h,b2,fun h=>(by cases h),fun _=>⟨rfl,rfl⟩⟩
      obtain⟨vx,Hx,e1,e2,e3⟩:=hx;have hs1h:s1.h=Hx:=by rw[e1,CR]
      have hwi':evWanted ops.toList s oi=some bi:=by rw[<- hwi,e1,wanted_put a1]
      have hev:∀ y∈oi.op.operands,s1.ev y=s.ev y:=by rw[e1];exact Hb a1
      have hi:∃ vi Hi,s3=({ s1 with h:=Hi }:St).put oi.dst vi/\(bi=true->evOp P cf mu s.ev Hx oi=some (vi,Hi))/\(bi=false->vi=.tup []/\Hi=Hx):=by
       rcases Dv h1i with ⟨b1,v,H,b2,b3⟩|⟨b1,b2⟩
       ·rw[hwi]at b1;obtain rfl:=Option.some.inj b1;refine⟨v,H,b3,fun _=>?_,fun h=>by cases h⟩;rw[<- b2,hs1h];exact(El oi hev).symm
       ·rw[hwi]at b1;obtain rfl:=Option.some.inj b1;refine⟨.tup [],Hx,?_,fun h=>(by cases h),fun _=>⟨rfl,rfl⟩⟩;rw[b2];congr 1;cases s1;simp at hs1h;rw[hs1h]
      obtain⟨vi,Hi,g1,g2,g3⟩:=hi;refine⟨vx,vi,Hx,Hi,Hi,e1,g1,hwi',e2,e3,g2,g3,by rw[hfx,hs1h],?_,rfl⟩;have hs3h:s3.h=Hi:=by rw[g1,CR]
      rw[hfi,hs1h,hs3h];unfold fpOf;rw[CS oi hev]
     obtain⟨vx,vi,Hx,Hi,_,e1,e2,hwi',x1,x2,i1,i2,f1,f2,_⟩:=key
     have other:∃ H1,(bi=true->evOp P cf mu s.ev s.h oi=some (vi,H1))/\(bi=false->H1=s.h)/\(bx=true->evOp P cf mu s.ev H1 ox=some (vx,Hi))/\(bx=false->H1=Hi) /\
       fi=fpOf mu s.ev oi bi s.h H1/\fx=fpOf mu s.ev ox bx H1 Hi:=by
      cases bx with
      | false=>
        obtain⟨_,rfl⟩:=x2 rfl;exact⟨Hi,i1,fun h=>(i2 h).2,fun h=>(by cases h),fun _=>rfl,f2,f1⟩
      | true=>
        have x1:=x1 rfl;cases bi with
        | false=>
          obtain⟨_,rfl⟩:=i2 rfl;exact⟨s.h,fun h=>(by cases h),fun _=>rfl,fun _=>x1,fun h=>(by cases h),f2,f1⟩
        | true=>
          have i1:=i1 rfl;have f1:fx=footprint mu s.ev ox s.h Hx:=f1;have f2:fi=footprint mu s.ev oi Hx Hi:=f2
          have goal:∀ H1,evOp P cf mu s.ev s.h oi=some (vi,H1)->evOp P cf mu s.ev H1 ox=some (vx,Hi)->fi=footprint mu s.ev oi s.h H1->fx=footprint mu s.ev ox H1 Hi ->
            ∃ H1,(true=true->evOp P cf mu s.ev s.h oi=some (vi,H1))/\(true=false->H1=s.h)/\(true=true->evOp P cf mu s.ev H1 ox=some (vx,Hi))/\(true=false->H1=Hi) /\
              fi=fpOf mu s.ev oi true s.h H1/\fx=fpOf mu s.ev ox true H1 Hi:=
           fun H1 c1 c2 c3 c4=>⟨H1,fun _=>c1,fun h=>(by cases h),fun _=>c2,fun h=>(by cases h),c3,c4⟩
          cases fx with
          | none=>
            obtain⟨rfl,nx⟩:=EW x1 f1.symm;exact goal Hi i1 (nx Hi) f2 (Bp.1 f1.symm).symm
          | some px=>
            cases px with
            | rd id=>
              obtain⟨rfl,nx⟩:=EO x1 f1.symm;have hsame:Hi[id]?=s.h[id]?:=by
               cases fi with
               | none=>rw[(EW i1 f2.symm).1]
               | some pi=>
                 cases pi with
                 | rd id'=>rw[(EO i1 f2.symm).1]
                 | gen G G'=>
                   obtain⟨rfl,rfl⟩:=F2 f2.symm;exact(FR hf).symm
                 | mk n=>
                   obtain⟨rfl,⟨b,rfl,_⟩,_⟩:=HS i1 f2.symm;exact getElem?_snoc_ne (neb hf)
                 | wr j=>
                   obtain⟨⟨b,rfl,_⟩,_⟩:=Fp i1 f2.symm;exact getElem?_set_ne (Ne.symm (neb hf))
              exact goal Hi i1 (nx Hi hsame) f2 (Bp.2.1 id f1.symm).symm
            | mk n=>
              obtain⟨hn,⟨b,rfl,nx⟩,lx⟩:=HS x1 f1.symm;cases fi with
              | none=>
                obtain⟨q1,ni⟩:=EW i1 f2.symm;subst q1;exact goal s.h (ni s.h) x1 (Bp.1 f2.symm).symm f1
              | some pi=>
                cases pi with
                | rd id=>
                  obtain⟨q1,ni⟩:=EO i1 f2.symm;subst q1;have hne:=neb hf;rw[hn]at hne;exact goal s.h (ni s.h (getElem?_snoc_ne (Ne.symm hne)).symm) x1 (Bp.2.1 id f2.symm).symm f1
                | wr j=>
                  obtain⟨⟨y,rfl,ni⟩,li⟩:=Fp i1 f2.symm;have hne:=neb hf;rw[hn]at hne;refine goal (s.h.set j y) (ni s.h (getElem?_snoc_ne (Ne.symm hne)).symm) ?_ (li _ _).symm (lx _ _ (by simp)).symm;rw[nx _ (by simp),Do (Ne.symm hne)]
                | gen K K'=>cases hf
                | mk m=>cases hf
            | wr j=>
              obtain⟨⟨y,rfl,nx⟩,lx⟩:=Fp x1 f1.symm;cases fi with
              | none=>
                obtain⟨q1,ni⟩:=EW i1 f2.symm;subst q1;exact goal s.h (ni s.h) x1 (Bp.1 f2.symm).symm f1
              | some pi=>
                cases pi with
                | rd id=>
                  obtain⟨q1,ni⟩:=EO i1 f2.symm;subst q1;exact goal s.h (ni s.h (getElem?_set_ne (neb hf)).symm) x1 (Bp.2.1 id f2.symm).symm f1
                | wr i=>
                  obtain⟨⟨u,rfl,ni⟩,li⟩:=Fp i1 f2.symm;have hne:=neb hf;refine goal (s.h.set i u) (ni s.h (getElem?_set_ne hne).symm) ?_ (li _ _).symm (lx _ _).symm;rw[nx _ (getElem?_set_ne (Ne.symm hne)),List.set_comm _ _ hne]
                | mk m=>
                  obtain⟨hm,⟨b,rfl,ni⟩,li⟩:=HS i1 f2.symm;have hne:=neb hf;rw[List.length_set]at hm;rw[hm]at hne;refine goal (s.h++[b]) (ni s.h (by simp)) ?_ (li _ _ (by simp)).symm (lx _ _).symm;rw[nx _ (getElem?_snoc_ne hne),Do hne]
                | gen K K'=>cases hf
            | gen G G'=>
              obtain⟨p1,p2⟩:=F2 f1.symm;cases fi with
              | none=>
                obtain⟨q1,ni⟩:=EW i1 f2.symm;subst q1;exact goal s.h (ni s.h) x1 (Bp.1 f2.symm).symm f1
              | some pi=>
                cases pi with
                | rd id=>
                  obtain⟨q1,ni⟩:=EO i1 f2.symm;subst q1;have hs:sameAt id G G' = true:=hf;rw[p1,p2]at hs;exact goal s.h (ni s.h (FR hs)) x1 (Bp.2.1 id f2.symm).symm f1
                | mk m=>cases hf
                | wr m=>cases hf
                | gen K K'=>
                  obtain⟨p3,p4⟩:=F2 f2.symm;have hq:heapEq G' G=true/\heapEq K' K=true:=by simpa [apartO,FP.apart] using hf
                  have q1:=CI _ _ hq.1;have q2:=CI _ _ hq.2;have q3:Hx=s.h:=by rw[<- p2,q1,p1]
                  have q4:Hi=Hx:=by rw[<- p4,q2,p3]
                  subst q4;rw[q3]at i1 x1 f1 f2;refine goal s.h ?_ ?_ ?_ ?_
                  ·exact i1
                  ·rw[q3];exact x1
                  ·exact f2
                  ·rw[q3];exact f1
     obtain⟨H1,o1,o2,o3,o4,o5,o6⟩:=other
     have one:∀(o:Oper) (t:St) (b:Bool) (v:AV) (H:List MB),evWanted ops.toList t o=some b->(b=true->evOp P cf mu t.ev t.h o=some (v,H))->(b=false->v=.tup []/\H=t.h) ->
       evOne P cf mu ops.toList o t=some (({ t with h:=H }:St).put o.dst v):=by
      intro o t b v H h1 h2 h3;unfold evOne;rw[h1];cases b with
      | true=>simp only[h2 rfl]
      | false=>
        obtain⟨rfl,rfl⟩:=h3 rfl;rfl
     have e3:=one oi s bi vi H1 hwi' o1 (fun h=>⟨(i2 h).1,o2 h⟩)
     have e4:=one ox (({ s with h:=H1 }:St).put oi.dst vi) bx vx Hi (by rw[wanted_put a3];exact hwx)
      (fun h=>by
        rw[CR,<- o3 h];exact El ox (Hb a3))
      (fun h=>⟨(x2 h).1,by rw[CR];exact(o4 h).symm⟩)
     have e5:(({ ((({ s with h:=H1 }:St).put oi.dst vi)) with h:=Hi }:St).put ox.dst vx)=s3:=by
      rw[e2,e1];have c1:({ (({ s with h:=H1 }:St).put oi.dst vi) with h:=Hi }:St)=({ s with h:=Hi }:St).put oi.dst vi:=by cases oi.dst<;>rfl
      have c2:({ (({ s with h:=Hx }:St).put ox.dst vx) with h:=Hi }:St)=({ s with h:=Hi }:St).put ox.dst vx:=by cases ox.dst<;>rfl
      rw[c1,c2];have:=put_comm (s:={ s with h:=Hi }) (d:=oi.dst) (e:=ox.dst) (fun t h h'=>a2 t h' h) vi vx Hi;have c3:∀(d:Option Tmp) (v:AV),({ (({ s with h:=Hi }:St).put d v) with h:=Hi }:St)=({ s with h:=Hi }:St).put d v:=by intro d v;cases d<;>rfl
      rw[c3,c3]at this;exact this
     rw[e5]at e4;refine .cons hoi hwi' e3 (by rw[CR];exact o5) (.cons hox (by rw[wanted_put a3];exact hwx) e4 ?_ hr2);have:s3.h=Hi:=by rw[e2,CR]
     rw[this,CR,o6];unfold fpOf;rw[CS ox (Hb a3)]
variable [VarTab]
set_option linter.unusedSectionVars false
open Go.RowKit
variable {B0:Nat}{w0:Base}{w:World}{I I0:Imm}{L L0:List Lay}
theorem MbOk.restrict {n:Nat}{m:MB}{l:Lay} (hb:MbOk B0 I L w m l) (hu:MB.under n m=true):MbOk B0 I (L.take n) w m l:=by
 cases m with
 | mp q es=>
   obtain⟨ents,clock,f1,f2,f3⟩:=MapOk.obj hb;refine⟨MapOk.ht hb,MapOk.hn hb,MapOk.hB hb,⟨ents,clock,f1,f2,fun i k v g=>?_⟩,MapOk.free hb⟩;obtain⟨g1,e,g2,g3,g4⟩:=f3 i k v g;have hE:∀ {es:List (AV×AV)},MB.underE n es=true->∀ {i:Nat}{k v:AV},es[i]?=some (k,v)->AV.under n k=true/\AV.under n v=true:=by
    intro es
    induction es with
    | nil=>intro _ i k v h;simp at h
    | cons e es ih=>
      obtain⟨a,b⟩:=e;intro hu i k v h;simp only[MB.underE,and_eq_true]at hu;cases i with
      | zero=>simp at h;obtain⟨rfl,rfl⟩:=h;exact⟨hu.1,hu.2.1⟩
      | succ i=>exact ih hu.2.2 (by simpa using h)
   have hu2:=hE (by simpa only[MB.under] using hu) g;exact⟨g1,e,g2,g3.restrict hu2.1,g4.restrict hu2.2⟩
 | lp st f k t ps c=>
   obtain⟨r,f1,f2,f3,f4,f5,f6⟩:=LpOk.obj hb;refine⟨LpOk.ht hb,LpOk.hn hb,LpOk.hB hb,⟨r,f1,f2,f3,f4,f5,f6.imp (fun h=>h) fun g=>⟨g.1,g.2.1,fun q hq=>⟨(g.2.2 q hq).1,(g.2.2 q hq).2.restrict ?_⟩⟩⟩,LpOk.nil hb,LpOk.free hb⟩;have hu2:AV.underL n (t.map (·.2))=true:=by simpa only[MB.under] using hu
   exact(AW _ _).1 hu2 _ (List.mem_map.2 ⟨q,hq,rfl⟩)
 | row k els z=>
   refine⟨hb.hk,hb.ht,hb.hsh,hb.hz,hb.hB,hb.wid,hb.fit,fun hn=>?_,hb.free⟩;obtain⟨cs,T,fr,f1,f2,f3,f4,f9f4⟩:=BlkOk.blk hb hn;refine⟨cs,T,fr,f1,f2,fun i j x y g1 g2 g3=>?_,f4,f9f4⟩;obtain⟨v,e1,e2,e3⟩:=f3 i j x y g1 g2 g3;have hu2:AV.underL n els=true:=by simpa only[MB.under] using hu
   exact⟨v,e1,e2,e3.restrict ((BT n x).1 ((AW n els).1 hu2 x (mem_of_getElem? g1)) y (mem_of_getElem? g2))⟩
 | tr Ty k els z=>
   obtain⟨hb,ht⟩:=hb;refine⟨⟨hb.hk,hb.ht,hb.hsh,hb.hz,hb.hB,hb.wid,hb.fit,fun hn=>?_,hb.free⟩,ht⟩;obtain⟨cs,T,fr,f1,f2,f3,f4,f9f4⟩:=BlkOk.blk hb hn;refine⟨cs,T,fr,f1,f2,fun i j x y g1 g2 g3=>?_,f4,f9f4⟩;obtain⟨v,e1,e2,e3⟩:=f3 i j x y g1 g2 g3;have hu2:AV.underL n els=true:=by simpa only[MB.under] using hu
   exact⟨v,e1,e2,e3.restrict ((BT n x).1 ((AW n els).1 hu2 x (mem_of_getElem? g1)) y (mem_of_getElem? g2))⟩
theorem StOk.below_len {s:St}{a:Act} (h:StOk B0 w0 I0 L0 s a w):L0.length<=s.h.length:=by
 obtain⟨I,L,h1,h2,_⟩:=h;rcases lt_or_ge s.h.length L0.length with g|g
 ·exfalso;obtain⟨l',e,_⟩:=h2.lay s.h.length _ (List.getElem?_eq_getElem g);have:=(List.getElem?_eq_some_iff.1 e).1;rw[h1.len]at this;omega
 ·exact g
theorem Rep.swp {n:Nat}{la lb:Lay}{K:List Lay} (hK:K.length=n) {v v':AV}{u:Value} (h:AV.swp n v v' = true) (hr:Rep I (K++[lb,la]) v' u):Rep I (K++[la,lb]) v u:=by
 have ext:∀ {x:AV}{u:Value},AV.under n x=true->Rep I (K++[lb,la]) x u->Rep I (K++[la,lb]) x u:=by
  intro x u hu hx;have:=hx.restrict hu;rw[<- hK,take_left' rfl]at this;refine this.mono ⟨.refl I,fun id l hl=>⟨l,?_,rfl,le_refl _,fun _=>rfl⟩⟩;rw[List.getElem?_append_left (List.getElem?_eq_some_iff.1 hl).1];exact hl
 have gen:(AV.beq v v'&&AV.under n v)=true->Rep I (K++[la,lb]) v u:=by
  intro h;simp only[and_eq_true]at h;have e:=AV.eq_of_beq _ _ h.1;subst e;exact ext h.2 hr
 by_cases hms:(∃ i k t o l,v=.ms i k t o l)/\∃ i k t o l,v' = .ms i k t o l
 ·obtain⟨⟨i,k,t,o,l,rfl⟩,i',k',t',o',l',rfl⟩:=hms;simp only[AV.swp,and_eq_true,beq_iff_eq,Bool.or_eq_true,decide_eq_true_eq]at h;obtain⟨⟨rfl,rfl,rfl,rfl⟩,h⟩:=h;rcases h with ⟨rfl,h⟩|⟨rfl,rfl⟩|⟨rfl,rfl⟩
  ·exact ext (by simp[AV.under,h]) hr
  ·have eL:∀ x,(K++[lb,la])[i+1]?=some x->(K++[la,lb])[i]?=some x:=by
    intro x hx;rw[getElem?_append_right (by omega),show i+1-K.length=1 by omega]at hx;rw[getElem?_append_right (by omega),show i-K.length=0 by omega]
    simpa using hx
   cases hr with
   | msn _ _ lx hL hk=>exact .msn _ k lx (eL _ hL) hk
   | ms _ _ _ _ _ lx b o' c hL ht hk hl hc hv=>exact .ms _ k t o l lx b o' c (eL _ hL) ht hk hl hc hv
  ·have eL:∀ x,(K++[lb,la])[i']?=some x->(K++[la,lb])[i' + 1]?=some x:=by
    intro x hx;rw[getElem?_append_right (by omega),show i'-K.length=0 by omega]at hx;rw[getElem?_append_right (by omega),show i' + 1-K.length=1 by omega]
    simpa using hx
   cases hr with
   | msn _ _ lx hL hk=>exact .msn _ k lx (eL _ hL) hk
   | ms _ _ _ _ _ lx b o' c hL ht hk hl hc hv=>exact .ms _ k t o l lx b o' c (eL _ hL) ht hk hl hc hv
 ·refine gen ?_;unfold AV.swp at h;split at h
  ·exact absurd ⟨⟨_,_,_,_,_,rfl⟩,_,_,_,_,_,rfl⟩ hms
  ·exact h
theorem FN {n:Nat}:∀ {t t':Tm},tmSwp n t t' = true->t.map (·.1)=t'.map (·.1)/\∀ q∈t,∃ q'∈t',q'.1=q.1/\AV.swp n q.2 q'.2=true
 | [],[],_=>⟨rfl,fun q h=>by simp at h⟩
 | [],_::_,h=>by simp[tmSwp]at h
 | _::_,[],h=>by simp[tmSwp]at h
 | (k,v)::t,(k',v')::t',h=>by
   simp only[tmSwp,and_eq_true,beq_iff_eq]at h;obtain⟨rfl,h1,h2⟩:=h;obtain⟨g1,g2⟩:=FN h2;refine⟨by simp[g1],fun q hq=>?_⟩;rcases List.mem_cons.1 hq with rfl|hq
   ·exact⟨(k,v'),List.mem_cons_self ..,rfl,h1⟩
   ·obtain⟨q',m,e⟩:=g2 q hq;exact⟨q',List.mem_cons_of_mem _ m,e⟩
theorem StOk.swp {s s2:St}{a:Act}{n:Nat} (h:StOk B0 w0 I0 L0 s2 a w) (hn:L0.length<=n) (hs:St.swp n s s2=true):StOk B0 w0 I0 L0 s a w:=by
 obtain⟨N,t,H⟩:=s;obtain⟨N2,t2,H2⟩:=s2;simp only[St.swp,and_eq_true,beq_iff_eq]at hs;obtain⟨rfl,ht,hH,hu,hT⟩:=hs;have hH:=CI _ _ hH;obtain⟨A,x,y,hAn,eA,eB,ua,ub⟩:∃ A x y,A.length=n/\H=A++[x,y]/\H2=A++[y,x]/\MB.under n x=true/\MB.under n y=true:=by
  match hd:H.drop n,hd2:H2.drop n,hT with
  | [x,y],[z,u],hT=>
    simp only[swpT,and_eq_true]at hT;have e1:=MB.eq_of_beq _ _ hT.1;have e2:=MB.eq_of_beq _ _ hT.2.1;subst e1;subst e2;refine⟨H.take n,x,y,?_,?_,?_,hT.2.2⟩
    ·have:=congrArg List.length hd;simp at this;simp;omega
    ·rw[<- hd,List.take_append_drop]
    ·rw[<- hd2,hH,List.take_append_drop]
 subst eA;subst eB;obtain⟨I,L,hi,hx,hdf,htm⟩:=h;have hlen:L.length=n+2:=by rw[hi.len];simp[hAn]
 obtain⟨K,lb,la,hK,rfl⟩:∃ K lb la,K.length=n/\L=K++[lb,la]:=by
  match hd:L.drop n with
  | [lb,la]=>exact⟨L.take n,lb,la,by simp;omega,by rw[<- hd,List.take_append_drop]⟩
  | []=>have:=congrArg List.length hd;simp at this;omega
  | [_]=>have:=congrArg List.length hd;simp at this;omega
  | _::_::_::_=>have:=congrArg List.length hd;simp at this;omega
 have hu:∀ m∈A,MB.under n m=true:=by
  intro m hm;rw[<- hAn,take_left' rfl]at hu;rw[<- hAn];exact List.all_eq_true.1 hu m hm
 have hAK:A.length=K.length:=by omega
 have hext:Ext I K I (K++[la,lb]):=⟨.refl I,fun id l hl=>⟨l,by rw[List.getElem?_append_left (List.getElem?_eq_some_iff.1 hl).1];exact hl,rfl,le_refl _,fun _=>rfl⟩⟩;have hmb:∀ {m:MB}{l:Lay},MbOk B0 I (K++[lb,la]) w m l->MB.under n m=true->MbOk B0 I (K++[la,lb]) w m l:=by
  intro m l hb hu;have:=hb.restrict hu;rw[<- hK,take_left' rfl]at this;exact this.mono hext (fun _ _=>rfl)
 have g0:∀ {α:Type} (X:List α) (p q:α),(X++[p,q])[X.length]?=some p:=by
  intro α X p q;rw[getElem?_append_right (le_refl _),Nat.sub_self];rfl
 have g1:∀ {α:Type} (X:List α) (p q:α),(X++[p,q])[X.length+1]?=some q:=by
  intro α X p q;rw[getElem?_append_right (by omega),show X.length+1-X.length=1 by omega];rfl
 have gl:∀ {α:Type} (X:List α) (p q:α) {i:Nat},i<X.length->(X++[p,q])[i]?=X[i]?:=fun X p q i h=>List.getElem?_append_left h;have cas:∀ {i:Nat}{l:Lay},(K++[la,lb])[i]?=some l->(i<n/\K[i]?=some l)∨(i=n/\l=la)∨(i=n+1/\l=lb):=by
  intro i l h;rcases lt_or_ge i n with h1|h1
  ·rw[gl _ _ _ (by omega)]at h;exact .inl ⟨h1,h⟩
  ·have h2:=(List.getElem?_eq_some_iff.1 h).1;simp at h2;rcases lt_or_ge n i with h3|h3
   ·have:i=K.length+1:=by omega
    subst this;rw[g1]at h;exact .inr (.inr ⟨by omega,(Option.some.inj h).symm⟩)
   ·have:i=K.length:=by omega
    subst this;rw[g0]at h;exact .inr (.inl ⟨by omega,(Option.some.inj h).symm⟩)
 have bak:∀ {i:Nat}{l:Lay},(K++[la,lb])[i]?=some l->∃ j,(K++[lb,la])[j]?=some l/\((i<n/\j=i)∨(i=n/\j=n+1)∨(i=n+1/\j=n)):=by
  intro i l h;rcases cas h with ⟨h1,h2⟩|⟨h1,rfl⟩|⟨h1,rfl⟩
  ·exact⟨i,by rw[gl _ _ _ (by omega)];exact h2,.inl ⟨h1,rfl⟩⟩
  ·exact⟨n+1,by rw[<- hK];exact g1 _ _ _,.inr (.inl ⟨h1,rfl⟩)⟩
  ·exact⟨n,by rw[<- hK];exact g0 _ _ _,.inr (.inr ⟨h1,rfl⟩)⟩
 obtain⟨tk,tm⟩:=FN ht;refine⟨I,K++[la,lb],⟨hi.below,hi.base,by simp[hAK],fun id m l hm hl=>?_,fun i j l l' h1 h2 n1 n2 h3=>?_,hi.imm,hi.old⟩,⟨hx.imm,fun id l hl=>?_⟩,hdf,htm.1,?_,fun q hq=>?_⟩
 ·rcases cas hl with ⟨c1,c2⟩|⟨rfl,rfl⟩|⟨rfl,rfl⟩
  ·have hm':A[id]?=some m:=by rw[gl _ _ _ (by omega)]at hm;exact hm
   refine hmb (hi.blk id m l (by rw[gl _ _ _ (by omega)];exact hm') (by rw[gl _ _ _ (by omega)];exact c2)) (hu m (mem_of_getElem? hm'))
  ·rw[<- hAn,g0]at hm;obtain rfl:=Option.some.inj hm;exact hmb (hi.blk (A.length+1) _ _ (g1 _ _ _) (by rw[hAK];exact g1 _ _ _)) ua
  ·rw[<- hAn,g1]at hm;obtain rfl:=Option.some.inj hm;exact hmb (hi.blk A.length _ _ (g0 _ _ _) (by rw[hAK];exact g0 _ _ _)) ub
 ·obtain⟨i',e1,c1⟩:=bak h1;obtain⟨j',e2,c2⟩:=bak h2;have:=hi.inj i' j' l l' e1 e2 n1 n2 h3;omega
 ·obtain⟨l',e,r⟩:=hx.lay id l hl;have:=(List.getElem?_eq_some_iff.1 hl).1;rw[gl _ _ _ (by omega)]at e;exact⟨l',by rw[gl _ _ _ (by omega)];exact e,r⟩
 ·have h3:List.Pairwise (fun a b:Nat×AV=>b.1<a.1) t2:=htm.2.1;have h4:List.Pairwise (fun a b:Nat=>b<a) (t.map (·.1)):=by
   rw[show t.map (·.1)=t2.map (·.1) from tk];exact List.pairwise_map.2 h3
  exact List.pairwise_map.1 h4
 ·obtain⟨q',hq',e,hv⟩:=tm q hq;obtain⟨v1,v2⟩:=htm.2.2 q' hq';rw[e]at v1 v2;exact⟨v1,v2.swp hK hv⟩
end Go.Ev
