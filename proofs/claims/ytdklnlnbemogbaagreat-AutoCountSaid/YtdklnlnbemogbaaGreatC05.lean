/- Statements whose order is open: every order comes to what the order of the text comes to. -/
import Derived.Test.YtdklnlnbemogbaaGreatC04
set_option linter.unusedVariables false
set_option linter.unusedSimpArgs false
namespace Go.Ev
open Go.RowKit
variable {P:Program}{cf:CF}{mu:List Nat}{ops:Array Oper}
mutual
theorem AV.eq_of_beq:∀(a b:AV),AV.beq a b=true→a=b
 | .top,b,h=>by cases b<;>simp[AV.beq]at h<;>rfl
 | .int k n,b,h=>by cases b<;>simp[AV.beq]at h;obtain⟨rfl,rfl⟩:=h;rfl
 | .bool x,b,h=>by cases b<;>simp[AV.beq]at h;subst h;rfl
 | .str s,b,h=>by cases b<;>simp[AV.beq]at h;subst h;rfl
 | .nilp,b,h=>by cases b<;>simp[AV.beq]at h<;>rfl
 | .nilf,b,h=>by cases b<;>simp[AV.beq]at h<;>rfl
 | .nili,b,h=>by cases b<;>simp[AV.beq]at h<;>rfl
 | .nilm,b,h=>by cases b<;>simp[AV.beq]at h<;>rfl
 | .sl t xs,b,h=>by cases b<;>simp[AV.beq]at h;obtain⟨rfl,h2⟩:=h;rw[AV.eq_of_beqL xs _ h2]
 | .pt xs,b,h=>by cases b<;>simp[AV.beq]at h;rw[AV.eq_of_beqL xs _ h]
 | .rf _ _ _ _,b,h=>by cases b<;>simp[AV.beq]at h;obtain⟨rfl,rfl,rfl,rfl⟩:=h;rfl
 | .ms _ _ _ _ _,b,h=>by cases b<;>simp[AV.beq]at h;obtain⟨rfl,rfl,rfl,rfl,rfl⟩:=h;rfl
 | .mpr _,b,h=>by cases b<;>simp[AV.beq]at h;subst h;rfl
 | .yld _,b,h=>by cases b<;>simp[AV.beq]at h;subst h;rfl
 | .clo _ xs,b,h=>by cases b<;>simp[AV.beq]at h;obtain⟨rfl,h2⟩:=h;rw[AV.eq_of_beqL xs _ h2]
 | .clb _ xs,b,h=>by cases b<;>simp[AV.beq]at h;obtain⟨rfl,h2⟩:=h;rw[AV.eq_of_beqL xs _ h2]
 | .agg xs,b,h=>by cases b<;>simp[AV.beq]at h;rw[AV.eq_of_beqL xs _ h]
 | .tup xs,b,h=>by cases b<;>simp[AV.beq]at h;rw[AV.eq_of_beqL xs _ h]
 | .ifc _ x,b,h=>by cases b<;>simp[AV.beq]at h;obtain⟨rfl,h2⟩:=h;rw[AV.eq_of_beq x _ h2]
 | .psl _ _ _,b,h=>by cases b<;>simp[AV.beq]at h;obtain⟨rfl,rfl,rfl⟩:=h;rfl
theorem AV.eq_of_beqL:∀(a b:List AV),AV.beqL a b=true→a=b
 | [],[],_=>rfl
 | [],_::_,h=>by simp[AV.beqL]at h
 | _::_,[],h=>by simp[AV.beqL]at h
 | x::xs,y::ys,h=>by
   simp[AV.beqL]at h
   rw[AV.eq_of_beq x y h.1,AV.eq_of_beqL xs ys h.2]
end
theorem MB.eq_of_beqE:∀(a b:List (AV×AV)),MB.beqE a b=true→a=b
 | [],[],_=>rfl
 | [],_::_,h=>by simp[MB.beqE]at h
 | _::_,[],h=>by simp[MB.beqE]at h
 | (x,y)::xs,(x',y')::ys,h=>by
   simp[MB.beqE]at h
   rw[AV.eq_of_beq x x' h.1,AV.eq_of_beq y y' h.2.1,MB.eq_of_beqE xs ys h.2.2]
theorem MB.eq_of_beqT:∀(a b:List (Nat×AV)),MB.beqT a b=true→a=b
 | [],[],_=>rfl
 | [],_::_,h=>by simp[MB.beqT]at h
 | _::_,[],h=>by simp[MB.beqT]at h
 | (x,y)::xs,(x',y')::ys,h=>by
   simp[MB.beqT]at h
   rw[h.1,AV.eq_of_beq y y' h.2.1,MB.eq_of_beqT xs ys h.2.2]
theorem codeEq_eq {a b:Code×Code} (h:codeEq a b=true):a=b:=by
 unfold codeEq at h
 simpa using h
theorem MB.eq_of_beq (a b:MB) (h:MB.beq a b=true):a=b:=by
 cases a<;>cases b<;>simp[MB.beq]at h
 ·obtain⟨rfl,rfl,h⟩:=h;rw[AV.eq_of_beqL _ _ h]
 ·obtain⟨rfl,h⟩:=h;rw[MB.eq_of_beqE _ _ h]
 ·obtain⟨rfl,rfl,rfl,h1,rfl,h2⟩:=h;rw[MB.eq_of_beqT _ _ h1,codeEq_eq h2]
theorem heapEq_eq:∀(a b:List MB),heapEq a b=true→a=b
 | [],[],_=>rfl
 | [],_::_,h=>by simp[heapEq]at h
 | _::_,[],h=>by simp[heapEq]at h
 | x::xs,y::ys,h=>by
   simp[heapEq]at h
   rw[MB.eq_of_beq x y h.1,heapEq_eq xs ys h.2]
theorem sameAt_eq {id:Nat}{H H':List MB} (h:sameAt id H H' = true):H[id]?=H'[id]?:=by
 unfold sameAt at h
 split at h
 ·rename_i x y h1 h2
  rw[h1,h2,MB.eq_of_beq _ _ h]
 ·rename_i h1 h2;rw[h1,h2]
 ·simp at h
theorem evOp_congr {ρ ρ':Operand→AV}{H:List MB} (o:Oper) (h:∀ x∈o.op.operands,ρ x=ρ' x):evOp P cf mu ρ H o=evOp P cf mu ρ' H o:=by
 obtain⟨dst,op,type,pos,after,guard⟩:=o
 have pairs:∀ ps:Array (Nat×Operand),(∀ x∈(ps.toList.map (·.2)).toArray,ρ x=ρ' x)→(ps.toList.map fun q=>(q.1,ρ q.2))=(ps.toList.map fun q=>(q.1,ρ' q.2)):=by
  intro ps hp
  refine List.map_congr_left fun p hm=>?_
  rw[hp p.2 (by simp;exact⟨p.1,by simpa using hm⟩)]
 have lst:∀ xs:Array Operand,(∀ x∈xs,ρ x=ρ' x)→xs.toList.map ρ=xs.toList.map ρ':=fun xs hx=>List.map_congr_left fun x hm=>hx x (by simpa using hm)
 cases op<;>simp only[Op.operands]at h<;>simp only[evOp]
 case move x=>rw[h x (by simp)]
 case assign x=>rw[h x (by simp)]
 case pick c a b=>rw[h c (by simp),h a (by simp),h b (by simp)]
 case box e x=>rw[h x (by simp)]
 case build t ps=>rw[pairs ps h]
 case buildSlice t n ps=>rw[pairs ps h]
 case load t a=>rw[h a (by simp)]
 case store t a x=>rw[h a (by simp),h x (by simp)]
 case nilCheck x=>rw[h x (by simp)]
 case binOp op t x y yt=>rw[h x (by simp),h y (by simp)]
 case unOp op t x=>rw[h x (by simp)]
 case convert s d x=>rw[h x (by simp)]
 case makeFunc fn first cap=>
  cases fn<;>simp only[]
  rw[lst cap (fun x hx=>h x (by simp[hx])),lst first (fun x hx=>h x (by simp[hx]))]
 case makeSlice t l c=>rw[h l (by simp),h c (by simp)]
 case slice t x lo hi mx=>
  rw[h x (by simp)]
  have e1:lo.map ρ=lo.map ρ':=by cases lo with|none=>rfl|some y=>simp only[Option.map_some];rw[h y (by simp)]
  have e2:hi.map ρ=hi.map ρ':=by cases hi with|none=>rfl|some y=>simp only[Option.map_some];rw[h y (by simp)]
  have e3:mx.map ρ=mx.map ρ':=by cases mx with|none=>rfl|some y=>simp only[Option.map_some];rw[h y (by simp)]
  rw[e1,e2,e3]
 case fieldAddr t x f=>rw[h x (by simp)]
 case field t x f=>rw[h x (by simp)]
 case indexAddr t x i=>rw[h x (by simp),h i (by simp)]
 case index t x i=>rw[h x (by simp),h i (by simp)]
 case extract x i=>rw[h x (by simp)]
 case makeMap t r=>
  have e1:r.map ρ=r.map ρ':=by cases r with|none=>rfl|some y=>simp only[Option.map_some];rw[h y (by simp)]
  rw[e1]
 case lookup t x i c=>rw[h x (by simp),h i (by simp)]
 case mapUpdate t m k v=>rw[h m (by simp),h k (by simp),h v (by simp)]
 case insert t m k v=>rw[h m (by simp),h k (by simp),h v (by simp)]
 case call c=>
  obtain⟨callee,args,ats⟩:=c
  have ha:args.toList.map ρ=args.toList.map ρ':=lst args (fun x hx=>h x (by simp[Call.operands,hx]))
  cases callee with
  | builtin b=>simp only[];rw[ha]
  | value f=>simp only[evCall];rw[ha,h f (by simp[Call.operands])]
  | invoke r m=>rfl
theorem footprint0_congr {ρ ρ':Operand→AV}{H H':List MB} (o:Oper) (h:∀ x∈o.op.operands,ρ x=ρ' x):footprint0 mu ρ o H H' = footprint0 mu ρ' o H H':=by
 obtain⟨dst,op,type,pos,after,guard⟩:=o
 cases op<;>simp only[Op.operands]at h<;>simp only[footprint0]
 case load t a=>rw[h a (by simp)]
 case convert s d x=>rw[h x (by simp)]
 case lookup t x i c=>rw[h x (by simp)]
 case call c=>
  obtain⟨callee,args,ats⟩:=c
  have ha:args.toList.map ρ=args.toList.map ρ':=List.map_congr_left fun x hm=>h x (by simp[Call.operands];exact .inr (by simpa using hm))
  rw[ha]
theorem nofoot0 {ρ:Operand→AV}{H H':List MB}{o:Oper}{v:AV} (h:evOp P cf mu ρ H o=some (v,H')) (hf:footprint0 mu ρ o H H' = none):H' = H∧∀ G,evOp P cf mu ρ G o=some (v,G):=by
 obtain⟨dst,op,type,pos,after,guard⟩:=o
 have pm:∀(q:Option AV),q.map (fun v=>(v,H))=some (v,H')→H' = H∧∀ G:List MB,q.map (fun v=>(v,G))=some (v,G):=by
  intro q hq
  cases q with
  | none=>simp at hq
  | some u=>simp at hq;obtain⟨rfl,rfl⟩:=hq;exact⟨rfl,fun G=>rfl⟩
 cases op<;>simp only[evOp]at h ⊢<;>simp only[footprint0,reduceCtorEq]at hf
 case move x=>simp at h;obtain⟨rfl,rfl⟩:=h;exact⟨rfl,fun G=>rfl⟩
 case assign x=>simp at h;obtain⟨rfl,rfl⟩:=h;exact⟨rfl,fun G=>rfl⟩
 case pick c a b=>
  split at h
  ·rename_i t ht
   simp at h;obtain⟨rfl,rfl⟩:=h;exact⟨rfl,fun G=>rfl⟩
  ·simp at h
 case build t ps=>exact pm _ h
 case box e x=>
  split at h
  ·rename_i hok
   split at h
   ·rename_i hm
    simp at h;obtain⟨rfl,rfl⟩:=h
    exact⟨rfl,fun G=>by rw[if_pos hok,if_pos hm]⟩
   ·rename_i hm;rw[if_neg hm]at hf;simp at hf
  ·simp at h
 case buildSlice t n ps=>
  split at h
  ·rename_i es hes
   split at h
   ·rename_i hm;rw[if_pos hm]at hf;simp at hf
   ·rename_i hm
    simp at h;obtain⟨rfl,rfl⟩:=h
    exact⟨rfl,fun G=>by rw[if_neg hm]⟩
  ·simp at h
 case load t a=>
  split at h
  ·rename_i cs hcs
   split at hf
   ·rename_i ds hd
    simp only[hd,cellsAt,Option.some.injEq]at hcs ⊢
    subst hcs
    exact pm _ h
   ·simp at hf
   ·simp at hf
  ·simp at h
 case nilCheck x=>
  split at h
  ·simp at h;obtain⟨rfl,rfl⟩:=h;exact⟨rfl,fun G=>rfl⟩
  ·simp at h;obtain⟨rfl,rfl⟩:=h;exact⟨rfl,fun G=>rfl⟩
  ·simp at h;obtain⟨rfl,rfl⟩:=h;exact⟨rfl,fun G=>rfl⟩
  ·simp at h
 case binOp op t x y yt=>exact pm _ h
 case unOp op t x=>exact pm _ h
 case convert s d x=>
  split at h
  ·rename_i e he
   split at h
   ·rename_i hc
    have key:∀ G,strOf G (ρ x)=strOf H (ρ x):=fun G=>by
     cases hx:ρ x<;>first|rfl|(rw[hx]at hf;cases hf)
    obtain⟨h1,h2⟩:=(by
     cases hq:strOf H (ρ x) with
     | none=>rw[hq]at h;cases h
     | some b=>
       rw[hq]at h
       simp only[Option.map_some,Option.some.injEq,Prod.mk.injEq]at h
       obtain⟨rfl,rfl⟩:=h
       exact⟨rfl,fun G=>by rw[if_pos hc,key,hq];rfl⟩:H' = H∧∀ G,(if tyInt P e=some .u8∧tyStr P d=true then(strOf G (ρ x)).map fun b=>(AV.str b,G) else none)=some (v,G))
    exact⟨h1,h2⟩
   ·cases h
  ·exact pm _ h
 case makeFunc fn first cap=>
  cases fn<;>simp only[reduceCtorEq]at h ⊢
  split at h
  ·rename_i h0
   simp at h;obtain⟨rfl,rfl⟩:=h;exact⟨rfl,fun G=>by rw[if_pos h0]⟩
  split at h
  ·rename_i h0 h1
   simp at h;obtain⟨rfl,rfl⟩:=h;exact⟨rfl,fun G=>by rw[if_neg h0,if_pos h1]⟩
  ·simp at h
 case slice t x lo hi mx=>
  split at h
  ·have key:∀(n:Nat) (e:TypeId) (q:AV) (a b c:Option AV),evSliceArr P H n e q a b c=some (v,H')→H' = H∧∀ G,evSliceArr P G n e q a b c=some (v,G):=by
    intro n e q a b c hq
    unfold evSliceArr at hq ⊢
    split at hq
    ·split at hq
     ·rename_i s hs
      split at hq
      ·rename_i g1
       split at hq
       ·rename_i hh g2
        split at hq
        ·rename_i ll g3
         simp at hq;obtain⟨rfl,rfl⟩:=hq
         exact⟨rfl,fun G=>by rw[if_pos g1]⟩
        ·simp at hq
       ·simp at hq
      ·simp at hq
     ·simp at hq
    ·simp at hq
   exact key _ _ _ _ _ _ h
  ·rename_i ht
   have key:∀(q:AV) (a b c:Option AV),evSlice P H t q a b c=some (v,H')→H' = H∧∀ G,evSlice P G t q a b c=some (v,G):=by
    intro q a b c hq
    unfold evSlice at hq ⊢
    split at hq
    ·split at hq
     ·rename_i g1
      split at hq
      ·rename_i hh g2
       split at hq
       ·rename_i ll g3
        simp at hq;obtain⟨rfl,rfl⟩:=hq
        exact⟨rfl,fun G=>by first|(rw[if_pos g1];done)|(rw[if_pos g1];simp only[g2,g3])⟩
       ·simp at hq
      ·simp at hq
     ·simp at hq
    ·split at hq
     ·rename_i e he
      split at hq
      ·rename_i s hs
       split at hq
       ·rename_i g1
        split at hq
        ·rename_i hh g2
         split at hq
         ·rename_i ll g3
          simp at hq;obtain⟨rfl,rfl⟩:=hq
          exact⟨rfl,fun G=>by first|(rw[if_pos g1];done)|(rw[if_pos g1];simp only[g2,g3])⟩
         ·simp at hq
        ·simp at hq
       ·simp at hq
      ·simp at hq
     ·simp at hq
    ·split at hq
     ·rename_i e he
      split at hq
      ·rename_i s hs
       split at hq
       ·rename_i g1
        split at hq
        ·rename_i mm g0
         split at hq
         ·rename_i hh g2
          split at hq
          ·rename_i ll g3
           simp at hq;obtain⟨rfl,rfl⟩:=hq
           exact⟨rfl,fun G=>by first|(rw[if_pos g1];done)|(rw[if_pos g1];simp only[g0,g2,g3])⟩
          ·simp at hq
         ·simp at hq
        ·simp at hq
       ·simp at hq
      ·simp at hq
     ·simp at hq
    ·split at hq
     ·rename_i e he
      split at hq
      ·rename_i s hs
       split at hq
       ·rename_i g1
        split at hq
        ·rename_i hh g2
         split at hq
         ·rename_i ll g3
          simp at hq;obtain⟨rfl,rfl⟩:=hq
          exact⟨rfl,fun G=>by first|(rw[if_pos g1];done)|(rw[if_pos g1];simp only[g2,g3])⟩
         ·simp at hq
        ·simp at hq
       ·simp at hq
      ·simp at hq
     ·simp at hq
    ·simp at hq
   exact key _ _ _ _ h
 case fieldAddr t x f=>exact pm _ h
 case field t x f=>exact pm _ h
 case indexAddr t x i=>exact pm _ h
 case index t x i=>exact pm _ h
 case extract x i=>
  split at h
  ·exact pm _ h
  ·simp at h
 case lookup t x i c=>
  split at hf
  ·rename_i hx
   rw[hx]at h
   have e:∀ G,evLookup P G t (ρ x) (ρ i) c=evLookup P H t .nilm (ρ i) c:=fun G=>by rw[hx];rfl
   obtain⟨h1,h2⟩:=pm _ h
   exact⟨h1,fun G=>by rw[e];exact h2 G⟩
  ·cases hf
  ·cases hf
 case call c=>
  obtain⟨callee,args,ats⟩:=c
  cases callee with
  | value f=>
    simp only at hf h ⊢
    split at hf
    ·rename_i hi
     simp only[if_pos hi]at h ⊢
     have alone:∀(g:Nat) (as:List AV),evAlone cf g as H=some (v,H')→H' = H∧∀ G,evAlone cf g as G=some (v,G):=by
      intro g as hq
      unfold evAlone at hq ⊢
      split at hq
      ·rename_i hu
       split at hq
       ·rename_i r0 h0
        split at hq
        ·rename_i h1
         simp only[Option.some.injEq,Prod.mk.injEq]at hq
         obtain⟨rfl,rfl⟩:=hq
         exact⟨rfl,fun G=>by rw[if_pos hu];first|rw[if_pos h1]|(rw[h0];simp only[];rw[if_pos h1])⟩
        ·cases hq
       ·cases hq
      ·cases hq
     simp only[evCall,cfn]at h ⊢
     split at h
     ·split at h
      ·cases h
      ·rename_i hg
       simp only[if_neg hg]
       exact alone _ _ h
     ·split at h
      ·cases h
      ·rename_i hg
       simp only[if_neg hg]
       exact alone _ _ h
     ·exact alone _ _ h
     ·cases h
    ·cases hf
  | invoke r m=>simp[evCall]at h
  | builtin b=>
    simp only at h hf ⊢
    have key:∀(ts:List TypeId) (as:List AV),(b=.len∧∀ id,as≠[.mpr id])∨b=.min∨b=.max→evBuiltin P b ts as H=some (v,H')→H' = H∧∀ G,evBuiltin P b ts as G=some (v,G):=by
     intro ts as hb hq
     unfold evBuiltin at hq ⊢
     split at hq
     ·split at hq
      ·rename_i _ x _ _ T
       have e:∀ G,evLenH P G T x=evLenH P H T x:=fun G=>by
        rcases hb with ⟨_,h2⟩|h2|h2
        ·cases x<;>first|rfl|exact absurd rfl (h2 _)
        ·cases h2
        ·cases h2
       obtain⟨h1,h2⟩:=pm _ hq
       exact⟨h1,fun G=>by rw[e];exact h2 G⟩
      ·rcases hb with ⟨h,_⟩|h|h<;>cases h
      ·cases hq
     ·split at hq
      ·rcases hb with ⟨h,_⟩|h|h<;>cases h
      ·exact pm _ hq
      ·exact pm _ hq
      ·simp at hq
     ·simp at hq
    cases b<;>simp only[reduceCtorEq]at hf
    case len=>
     refine key _ _ (.inl ⟨rfl,fun id e=>?_⟩) h
     rw[e]at hf
     cases hf
    case min=>exact key _ _ (.inr (.inl rfl)) h
    case max=>exact key _ _ (.inr (.inr rfl)) h
 all_goals simp at h
theorem rdfoot0 {ρ:Operand→AV}{H H':List MB}{o:Oper}{v:AV}{id:Nat} (h:evOp P cf mu ρ H o=some (v,H')) (hf:footprint0 mu ρ o H H' = some (.rd id)) :
  H' = H∧∀ G,G[id]?=H[id]?→evOp P cf mu ρ G o=some (v,G):=by
 obtain⟨dst,op,type,pos,after,guard⟩:=o
 cases op<;>simp only[footprint0,reduceCtorEq]at hf
 case load t a=>
  simp only[evOp]at h ⊢
  split at h
  ·rename_i cs hcs
   split at hf
   ·simp at hf
   ·rename_i i1 i2 i3 i4 hd
    simp at hf;subst hf
    cases hm:mkVal P t cs with
    | none=>rw[hm]at h;simp at h
    | some u=>
      rw[hm]at h;simp at h;obtain⟨rfl,rfl⟩:=h
      refine⟨rfl,fun G hG=>?_⟩
      have:cellsAt G (ρ a)=some cs:=by
       rw[← hcs,hd]
       simp only[cellsAt,getRow,hG]
      rw[this]
      simp[hm]
   ·simp at hf
  ·simp at h
 case convert s d x=>
  simp only[evOp]at h ⊢
  split at hf
  ·rename_i id2 a1 a2 a3 a4 hx
   simp only[Option.some.injEq,FP.rd.injEq]at hf
   subst hf
   split at h
   ·rename_i e he
    split at h
    ·rename_i hc
     cases hq:strOf H (ρ x) with
     | none=>rw[hq]at h;cases h
     | some b=>
       rw[hq]at h
       simp only[Option.map_some,Option.some.injEq,Prod.mk.injEq]at h
       obtain⟨rfl,rfl⟩:=h
       refine⟨rfl,fun G hG=>?_⟩
       have e2:strOf G (ρ x)=strOf H (ρ x):=by
        rw[hx]
        simp only[strOf,elemsOf,getRow,hG]
       rw[if_pos hc,e2,hq];rfl
    ·cases h
   ·rename_i he
    rw[hx]at h
    simp[evConvert]at h
  ·cases hf
 case lookup t x i c=>
  simp only[evOp]at h ⊢
  split at hf
  ·cases hf
  ·rename_i id2 hx
   simp only[Option.some.injEq,FP.rd.injEq]at hf
   subst hf
   rw[hx]at h ⊢
   cases hq:evLookup P H t (.mpr id2) (ρ i) c with
   | none=>rw[hq]at h;cases h
   | some u=>
     rw[hq]at h
     simp only[Option.map_some,Option.some.injEq,Prod.mk.injEq]at h
     obtain⟨rfl,rfl⟩:=h
     refine⟨rfl,fun G hG=>?_⟩
     have e:getMp G id2=getMp H id2:=by unfold getMp;rw[hG]
     have e2:evLookup P G t (.mpr id2) (ρ i) c=evLookup P H t (.mpr id2) (ρ i) c:=by simp only[evLookup,e]
     rw[e2,hq];rfl
  ·cases hf
 case call c=>
  obtain⟨callee,args,ats⟩:=c
  cases callee with
  | builtin b=>
    cases b<;>simp at hf
    case len=>
     split at hf
     ·rename_i id2 hx
      simp only[Option.some.injEq,FP.rd.injEq]at hf
      subst hf
      simp only[evOp,hx,evBuiltin]at h ⊢
      split at h
      ·rename_i T _ _
       cases hq:evLenH P H T (.mpr id2) with
       | none=>rw[hq]at h;cases h
       | some u=>
         rw[hq]at h
         simp only[Option.map_some,Option.some.injEq,Prod.mk.injEq]at h
         obtain⟨rfl,rfl⟩:=h
         refine⟨rfl,fun G hG=>?_⟩
         have e2:evLenH P G T (.mpr id2)=evLenH P H T (.mpr id2):=by simp only[evLenH,lenMp,getMp,hG]
         rw[e2,hq];rfl
      ·rename_i hb _;cases hb
      ·cases h
     ·cases hf
  | value f=>simp at hf
  | invoke r m=>simp at hf
 case box e x=>split at hf<;>simp at hf
 case buildSlice t n ps=>split at hf<;>simp at hf
 all_goals simp at hf
theorem genfoot0 {ρ:Operand→AV}{H H' G G':List MB}{o:Oper} (hf:footprint0 mu ρ o H H' = some (.gen G G')):G=H∧G' = H':=by
 obtain⟨dst,op,type,pos,after,guard⟩:=o
 cases op<;>simp only[footprint0,reduceCtorEq]at hf
 case load t a=>split at hf<;>simp at hf;exact⟨hf.1.symm,hf.2.symm⟩
 case convert s d x=>split at hf<;>simp at hf
 case lookup t x i c=>
  split at hf
  ·cases hf
  ·cases hf
  ·simp at hf;exact⟨hf.1.symm,hf.2.symm⟩
 case call c=>
  obtain⟨callee,args,ats⟩:=c
  cases callee with
  | builtin b=>
    cases b
    case len=>simp only at hf;split at hf<;>cases hf
    all_goals (simp at hf;try exact⟨hf.1.symm,hf.2.symm⟩)
  | value f=>simp at hf;exact⟨hf.2.1.symm,hf.2.2.symm⟩
  | invoke r m=>simp at hf;exact⟨hf.2.1.symm,hf.2.2.symm⟩
 case box e x=>split at hf<;>simp at hf;exact⟨hf.1.symm,hf.2.symm⟩
 case buildSlice t n ps=>split at hf<;>simp at hf;exact⟨hf.1.symm,hf.2.symm⟩
 all_goals (simp at hf;exact⟨hf.1.symm,hf.2.symm⟩)
theorem foot_any0 {ρ:Operand→AV}{H H' K K':List MB}{o:Oper} :
  (footprint0 mu ρ o H H' = none→footprint0 mu ρ o K K' = none)∧(∀ id,footprint0 mu ρ o H H' = some (.rd id)→footprint0 mu ρ o K K' = some (.rd id)) ∧
  (∀ G G',footprint0 mu ρ o H H' = some (.gen G G')→footprint0 mu ρ o K K' = some (.gen K K')):=by
 obtain⟨dst,op,type,pos,after,guard⟩:=o
 cases op<;>simp only[footprint0]
 case load t a=>cases ρ a<;>simp
 case convert s d x=>cases ρ x<;>simp
 case lookup t x i c=>cases ρ x<;>simp
 case call c=>
  obtain⟨callee,args,ats⟩:=c
  cases callee with
  | builtin b=>
    cases b
    case len=>simp only;split<;>simp
    all_goals simp
  | value f=>cases indDst mu dst<;>simp
  | invoke r m=>cases indDst mu dst<;>simp
 case box e x=>split<;>simp
 case buildSlice t n ps=>split<;>simp
 all_goals simp
theorem footprint_congr {ρ ρ':Operand→AV}{H H':List MB} (o:Oper) (h:∀ x∈o.op.operands,ρ x=ρ' x):footprint mu ρ o H H' = footprint mu ρ' o H H':=by
 unfold footprint
 rw[footprint0_congr o h]
 congr 1
 have h0:=footprint0_congr (mu:=mu) (H:=H) (H':=H') o h
 obtain⟨dst,op,type,pos,after,guard⟩:=o
 cases op<;>simp only[fineF]<;>try exact h0
 case store t a x=>
  have:ρ a=ρ' a:=h a (by simp[Op.operands])
  rw[this]
  split
  ·rfl
  ·exact h0
theorem nofoot {ρ:Operand→AV}{H H':List MB}{o:Oper}{v:AV} (h:evOp P cf mu ρ H o=some (v,H')) (hf:footprint mu ρ o H H' = none):H' = H∧∀ G,evOp P cf mu ρ G o=some (v,G):=by
 unfold footprint at hf
 split at hf
 ·refine nofoot0 h ?_
  obtain⟨dst,op,type,pos,after,guard⟩:=o
  cases op<;>simp only[fineF,reduceCtorEq]at hf<;>try exact hf
  case store t a x=>
   split at hf
   ·cases hf
   ·exact hf
 ·exact nofoot0 h hf
theorem rdfoot {ρ:Operand→AV}{H H':List MB}{o:Oper}{v:AV}{id:Nat} (h:evOp P cf mu ρ H o=some (v,H')) (hf:footprint mu ρ o H H' = some (.rd id)) :
  H' = H∧∀ G,G[id]?=H[id]?→evOp P cf mu ρ G o=some (v,G):=by
 unfold footprint at hf
 split at hf
 ·refine rdfoot0 h ?_
  obtain⟨dst,op,type,pos,after,guard⟩:=o
  cases op<;>simp only[fineF,reduceCtorEq,Option.some.injEq]at hf<;>try exact hf
  case store t a x=>
   split at hf
   ·cases hf
   ·exact hf
 ·exact rdfoot0 h hf
theorem genfoot {ρ:Operand→AV}{H H' G G':List MB}{o:Oper} (hf:footprint mu ρ o H H' = some (.gen G G')):G=H∧G' = H':=by
 unfold footprint at hf
 split at hf
 ·refine genfoot0 (mu:=mu) (ρ:=ρ) (o:=o) ?_
  obtain⟨dst,op,type,pos,after,guard⟩:=o
  cases op<;>simp only[fineF,reduceCtorEq,Option.some.injEq]at hf<;>try exact hf
  case store t a x=>
   split at hf
   ·cases hf
   ·exact hf
 ·exact genfoot0 hf
theorem foot0_not {ρ:Operand→AV}{H H':List MB}{o:Oper}:(∀ n,footprint0 mu ρ o H H'≠some (.mk n))∧(∀ n,footprint0 mu ρ o H H'≠some (.wr n)):=by
 obtain⟨dst,op,type,pos,after,guard⟩:=o
 cases op<;>simp only[footprint0]
 case load t a=>cases ρ a<;>simp
 case convert s d x=>cases ρ x<;>simp
 case lookup t x i c=>cases ρ x<;>simp
 case call c=>
  obtain⟨callee,args,ats⟩:=c
  cases callee with
  | builtin b=>
    cases b
    case len=>simp only;split<;>simp
    all_goals simp
  | value f=>cases indDst mu dst<;>simp
  | invoke r m=>cases indDst mu dst<;>simp
 case box e x=>split<;>simp
 case buildSlice t n ps=>split<;>simp
 all_goals simp
theorem mkfoot {ρ:Operand→AV}{H H':List MB}{o:Oper}{v:AV}{n:Nat} (h:evOp P cf mu ρ H o=some (v,H')) (hf:footprint mu ρ o H H' = some (.mk n)) :
  n=H.length∧(∃ b,H' = H++[b]∧∀ G,G.length=H.length→evOp P cf mu ρ G o=some (v,G++[b]))∧∀ K K',K.length=H.length→footprint mu ρ o K K' = some (.mk n):=by
 unfold footprint at hf ⊢
 split at hf
 ·rename_i hc
  simp only[if_pos hc]
  obtain⟨dst,op,type,pos,after,guard⟩:=o
  cases op<;>simp only[fineF,reduceCtorEq,Option.some.injEq,FP.mk.injEq]at hf ⊢<;>try exact absurd hf (foot0_not.1 _)
  case store t a x=>
   split at hf
   ·cases hf
   ·exact absurd hf (foot0_not.1 _)
  case alloc e=>
   subst hf
   refine⟨rfl,?_,fun K _ hK=>hK⟩
   simp only[evOp]at h ⊢
   split at h
   ·rename_i z hz
    split at h
    ·rename_i hz2
     simp only[Option.some.injEq,Prod.mk.injEq]at h
     obtain⟨rfl,rfl⟩:=h
     exact⟨_,rfl,fun G hG=>by rw[if_pos hz2,hG]⟩
    ·cases h
   ·cases h
  case makeMap t r=>
   subst hf
   refine⟨rfl,?_,fun K _ hK=>hK⟩
   simp only[evOp]at h ⊢
   split at h
   ·rename_i hk
    split at h
    ·rename_i hz2
     simp only[Option.some.injEq,Prod.mk.injEq]at h
     obtain⟨rfl,rfl⟩:=h
     exact⟨_,rfl,fun G hG=>by rw[if_pos hz2,hG]⟩
    ·cases h
   ·cases h
  case makeSlice t l c=>
   subst hf
   refine⟨rfl,?_,fun K _ hK=>hK⟩
   simp only[evOp,evMakeSlice]at h ⊢
   split at h
   ·split at h
    ·split at h
     ·rename_i hz2
      simp only[Option.some.injEq,Prod.mk.injEq]at h
      obtain⟨rfl,rfl⟩:=h
      exact⟨_,rfl,fun G hG=>by first|(rw[if_pos hz2,hG];done)|(simp only[*];rw[if_pos hz2])⟩
     ·cases h
    ·cases h
   ·cases h
 ·exact absurd hf (foot0_not.1 _)
theorem wrfoot {ρ:Operand→AV}{H H':List MB}{o:Oper}{v:AV}{id:Nat} (h:evOp P cf mu ρ H o=some (v,H')) (hf:footprint mu ρ o H H' = some (.wr id)) :
  (∃ b,H' = H.set id b∧∀ G,G[id]?=H[id]?→evOp P cf mu ρ G o=some (v,G.set id b))∧∀ K K',footprint mu ρ o K K' = some (.wr id):=by
 unfold footprint at hf ⊢
 split at hf
 ·rename_i hc
  simp only[if_pos hc]
  obtain⟨dst,op,type,pos,after,guard⟩:=o
  cases op<;>simp only[fineF,reduceCtorEq,Option.some.injEq]at hf ⊢<;>try exact absurd hf (foot0_not.2 _)
  case store t a x=>
   split at hf
   ·rename_i i1 tot i j ha
    simp only[Option.some.injEq,FP.wr.injEq]at hf
    subst hf
    simp only[ha]
    refine⟨?_,fun _ _=>trivial⟩
    simp only[evOp,ha]at h ⊢
    cases hs:evStore P H t (.rf i1 tot i j) (ρ x) with
    | none=>rw[hs]at h;cases h
    | some H2=>
      rw[hs]at h
      simp only[Option.map_some,Option.some.injEq,Prod.mk.injEq]at h
      obtain⟨rfl,rfl⟩:=h
      have key:∃ b,H2=H.set i1 b∧∀ G:List MB,G[i1]?=H[i1]?→evStore P G t (.rf i1 tot i j) (ρ x)=some (G.set i1 b):=by
       simp only[evStore]at hs ⊢
       cases hr:getRow H i1 with
       | none=>rw[hr]at hs;cases hs
       | some q=>
         obtain⟨k,els,z⟩:=q
         rw[hr]at hs
         simp only at hs
         have hrG:∀ G:List MB,G[i1]?=H[i1]?→getRow G i1=some (k,els,z):=fun G hG=>by rw[← hr];unfold getRow;rw[hG]
         split at hs
         ·rename_i g1
          split at hs
          ·rename_i y s e1 e2
           split at hs
           ·rename_i g2
            simp only[Option.some.injEq]at hs
            exact⟨_,hs.symm,fun G hG=>by rw[hrG G hG];simp only;rw[if_pos g1];simp only[e1,e2];rw[if_pos g2]⟩
           ·cases hs
          ·cases hs
         ·cases hs
      obtain⟨b,k1,k2⟩:=key
      exact⟨b,k1,fun G hG=>by rw[k2 G hG];rfl⟩
   ·exact absurd hf (foot0_not.2 _)
 ·exact absurd hf (foot0_not.2 _)
theorem foot_any {ρ:Operand→AV}{H H' K K':List MB}{o:Oper} :
  (footprint mu ρ o H H' = none→footprint mu ρ o K K' = none)∧(∀ id,footprint mu ρ o H H' = some (.rd id)→footprint mu ρ o K K' = some (.rd id)) ∧
  (∀ G G',footprint mu ρ o H H' = some (.gen G G')→footprint mu ρ o K K' = some (.gen K K')):=by
 unfold footprint
 split
 ·have h0:=foot_any0 (mu:=mu) (ρ:=ρ) (o:=o) (H:=H) (H':=H') (K:=K) (K':=K')
  obtain⟨dst,op,type,pos,after,guard⟩:=o
  cases op<;>simp only[fineF]<;>first|exact h0|skip
  case store t a x=>
   split
   ·simp
   ·exact h0
  all_goals simp
 ·exact foot_any0
def fpOf (mu:List Nat) (ρ:Operand→AV) (o:Oper) (b:Bool) (H H':List MB):Option FP:=if b=true then footprint mu ρ o H H' else none
inductive Run (P:Program) (cf:CF) (mu:List Nat) (ops:Array Oper):List (Nat×Option FP)→St→St→Prop where
 | nil (s:St):Run P cf mu ops [] s s
 | cons {i:Nat}{o:Oper}{b:Bool}{f:Option FP}{s s1 s2:St}{l:List (Nat×Option FP)} (ho:ops[i]?=some o) (hw:evWanted ops.toList s o=some b)
    (h1:evOne P cf mu ops.toList o s=some s1) (hf:f=fpOf mu s.ev o b s.h s1.h) (hr:Run P cf mu ops l s1 s2):Run P cf mu ops ((i,f)::l) s s2
noncomputable def apartO:Option FP→Option FP→Bool
 | some p,some q=>p.apart q
 | _,_=>true
theorem wanted_put {ops:Array Oper}{o:Oper}{s:St}{d:Option Tmp}{v:AV}{H:List MB} (h:∀ t,d=some t→t ∉ o.looksAt ops):evWanted ops.toList (({ s with h:=H }:St).put d v) o=evWanted ops.toList s o:=by
 unfold evWanted
 cases hg:o.guard with
 | none=>rfl
 | some p=>
   obtain⟨j,wnt⟩:=p
   simp only[Array.getElem?_toList]
   cases hj:ops[j]? with
   | none=>rfl
   | some q=>
     cases hd:q.dst with
     | none=>simp[hd]
     | some e=>
       simp only[hd]
       cases d with
       | none=>rfl
       | some t=>
         have hne:t≠e:=fun e'=>h t rfl (by subst e';simp[Oper.looksAt,hg,hj,hd])
         have hg:look (({ s with h:=H }:St).put (some t) v).t e=look s.t e:=by
          show look (if t<s.n then ins t v s.t else s.t) e=_
          split
          ·exact look_ins_ne hne _
          ·rfl
         rw[hg]
theorem ev_put {o:Oper}{s:St}{d:Option Tmp}{v:AV}{H:List MB} (h:∀ t,d=some t→t ∉ o.looksAt ops):∀ x∈o.op.operands,(({ s with h:=H }:St).put d v).ev x=s.ev x:=by
 intro x hx
 cases d with
 | none=>rfl
 | some t=>
   cases x with
   | tmp u=>
     have hne:t≠u:=fun e=>h t rfl (by
      subst e
      exact List.mem_append_left _ (List.mem_filterMap.2 ⟨.tmp t,by simpa using hx,rfl⟩))
     show lookD (({ s with h:=H }:St).put (some t) v).t u=lookD s.t u
     show lookD (if t<s.n then ins t v s.t else s.t) u=_
     split
     ·unfold lookD;rw[look_ins_ne hne _]
     ·rfl
   | _=>rfl
theorem put_comm {s:St}{d e:Option Tmp} (hne:∀ t,d=some t→e≠some t) (v u:AV) (H:List MB) :
  ({ (s.put d v) with h:=H }:St).put e u=(({ (s.put e u) with h:=H }:St).put d v):=by
 cases d with
 | none=>cases e<;>rfl
 | some t=>
   cases e with
   | none=>rfl
   | some q=>
     have:t≠q:=fun h=>hne t rfl (by rw[h])
     show ({ n:=s.n,t:=if q<s.n then ins q u (if t<s.n then ins t v s.t else s.t) else(if t<s.n then ins t v s.t else s.t),h:=H }:St) =
      { n:=s.n,t:=if t<s.n then ins t v (if q<s.n then ins q u s.t else s.t) else(if q<s.n then ins q u s.t else s.t),h:=H }
     by_cases a:t<s.n<;>by_cases b:q<s.n<;>simp only[a,b,if_true,if_false]
     rw[ins_comm (Ne.symm this) _]
theorem evOne_parts {o:Oper}{s s1:St} (h:evOne P cf mu ops.toList o s=some s1) :
  (evWanted ops.toList s o=some true∧∃ v H,evOp P cf mu s.ev s.h o=some (v,H)∧s1=({ s with h:=H }:St).put o.dst v) ∨
  (evWanted ops.toList s o=some false∧s1=s.put o.dst (.tup [])):=by
 unfold evOne at h
 split at h
 ·rename_i hw
  split at h
  ·rename_i v H hop
   simp at h
   exact .inl ⟨hw,v,H,hop,h.symm⟩
  ·simp at h
 ·rename_i hw
  simp at h
  exact .inr ⟨hw,h.symm⟩
 ·simp at h
theorem neb {i j:Nat} (h:(!(i==j))=true):i≠j:=by simpa using h
theorem getElem?_snoc_ne {H:List MB}{b:MB}{j:Nat} (h:j≠H.length):(H++[b])[j]?=H[j]?:=by
 rcases Nat.lt_or_ge j H.length with h1|h1
 ·exact List.getElem?_append_left h1
 ·rw[List.getElem?_eq_none (by simp;omega),List.getElem?_eq_none h1]
theorem set_snoc_ne {H:List MB}{b y:MB}{j:Nat} (h:j≠H.length):H.set j y++[b]=(H++[b]).set j y:=by
 rcases Nat.lt_or_ge j H.length with h1|h1
 ·rw[List.set_append_left _ _ h1]
 ·rw[List.set_append_right _ _ h1,List.set_eq_of_length_le h1,List.set_eq_of_length_le (by simp;omega)]
theorem Run.swap {x i:Nat}{fx fi:Option FP}{l:List (Nat×Option FP)}{s s2:St} (h:Run P cf mu ops ((x,fx)::(i,fi)::l) s s2)
  (ha:∀ p q,ops[x]?=some p→ops[i]?=some q→p.apart ops q=true) (hf:apartO fx fi=true):Run P cf mu ops ((i,fi)::(x,fx)::l) s s2:=by
 cases h with
 | @cons _ ox bx _ _ s1 _ _ hox hwx h1x hfx hr=>
   cases hr with
   | @cons _ oi bi _ _ s3 _ _ hoi hwi h1i hfi hr2=>
     obtain⟨a1,a2,a3⟩:=Oper.apart_spec (ha ox oi hox hoi)
     have key:∃(vx vi:AV) (Hx Hi Gi:List MB),s1=({ s with h:=Hx }:St).put ox.dst vx∧s3=({ s1 with h:=Hi }:St).put oi.dst vi ∧
       evWanted ops.toList s oi=some bi ∧
       (bx=true→evOp P cf mu s.ev s.h ox=some (vx,Hx))∧(bx=false→vx=.tup []∧Hx=s.h) ∧
       (bi=true→evOp P cf mu s.ev Hx oi=some (vi,Hi))∧(bi=false→vi=.tup []∧Hi=Hx) ∧
       fx=fpOf mu s.ev ox bx s.h Hx∧fi=fpOf mu s.ev oi bi Hx Hi∧Gi=Hi:=by
      have hx:∃ vx Hx,s1=({ s with h:=Hx }:St).put ox.dst vx∧(bx=true→evOp P cf mu s.ev s.h ox=some (vx,Hx))∧(bx=false→vx=.tup []∧Hx=s.h):=by
       rcases evOne_parts h1x with ⟨b1,v,H,b2,b3⟩|⟨b1,b2⟩
       ·rw[hwx]at b1;obtain rfl:=Option.some.inj b1
        exact⟨v,H,b3,fun _=>b2,fun h=>by cases h⟩
       ·rw[hwx]at b1;obtain rfl:=Option.some.inj b1
        exact⟨.tup [],s.h,b2,fun h=>(by cases h),fun _=>⟨rfl,rfl⟩⟩
      obtain⟨vx,Hx,e1,e2,e3⟩:=hx
      have hs1h:s1.h=Hx:=by rw[e1,put_h]
      have hwi':evWanted ops.toList s oi=some bi:=by rw[← hwi,e1,wanted_put a1]
      have hev:∀ y∈oi.op.operands,s1.ev y=s.ev y:=by rw[e1];exact ev_put a1
      have hi:∃ vi Hi,s3=({ s1 with h:=Hi }:St).put oi.dst vi∧(bi=true→evOp P cf mu s.ev Hx oi=some (vi,Hi))∧(bi=false→vi=.tup []∧Hi=Hx):=by
       rcases evOne_parts h1i with ⟨b1,v,H,b2,b3⟩|⟨b1,b2⟩
       ·rw[hwi]at b1;obtain rfl:=Option.some.inj b1
        refine⟨v,H,b3,fun _=>?_,fun h=>by cases h⟩
        rw[← b2,hs1h];exact(evOp_congr oi hev).symm
       ·rw[hwi]at b1;obtain rfl:=Option.some.inj b1
        refine⟨.tup [],Hx,?_,fun h=>(by cases h),fun _=>⟨rfl,rfl⟩⟩
        rw[b2];congr 1
        cases s1;simp at hs1h;rw[hs1h]
      obtain⟨vi,Hi,g1,g2,g3⟩:=hi
      refine⟨vx,vi,Hx,Hi,Hi,e1,g1,hwi',e2,e3,g2,g3,by rw[hfx,hs1h],?_,rfl⟩
      have hs3h:s3.h=Hi:=by rw[g1,put_h]
      rw[hfi,hs1h,hs3h]
      unfold fpOf
      rw[footprint_congr oi hev]
     obtain⟨vx,vi,Hx,Hi,_,e1,e2,hwi',x1,x2,i1,i2,f1,f2,_⟩:=key
     have other:∃ H1,(bi=true→evOp P cf mu s.ev s.h oi=some (vi,H1))∧(bi=false→H1=s.h)∧(bx=true→evOp P cf mu s.ev H1 ox=some (vx,Hi))∧(bx=false→H1=Hi) ∧
       fi=fpOf mu s.ev oi bi s.h H1∧fx=fpOf mu s.ev ox bx H1 Hi:=by
      cases bx with
      | false=>
        obtain⟨_,rfl⟩:=x2 rfl
        exact⟨Hi,i1,fun h=>(i2 h).2,fun h=>(by cases h),fun _=>rfl,f2,f1⟩
      | true=>
        have x1:=x1 rfl
        cases bi with
        | false=>
          obtain⟨_,rfl⟩:=i2 rfl
          exact⟨s.h,fun h=>(by cases h),fun _=>rfl,fun _=>x1,fun h=>(by cases h),f2,f1⟩
        | true=>
          have i1:=i1 rfl
          have f1:fx=footprint mu s.ev ox s.h Hx:=f1
          have f2:fi=footprint mu s.ev oi Hx Hi:=f2
          have goal:∀ H1,evOp P cf mu s.ev s.h oi=some (vi,H1)→evOp P cf mu s.ev H1 ox=some (vx,Hi)→fi=footprint mu s.ev oi s.h H1→fx=footprint mu s.ev ox H1 Hi →
            ∃ H1,(true=true→evOp P cf mu s.ev s.h oi=some (vi,H1))∧(true=false→H1=s.h)∧(true=true→evOp P cf mu s.ev H1 ox=some (vx,Hi))∧(true=false→H1=Hi) ∧
              fi=fpOf mu s.ev oi true s.h H1∧fx=fpOf mu s.ev ox true H1 Hi:=
           fun H1 c1 c2 c3 c4=>⟨H1,fun _=>c1,fun h=>(by cases h),fun _=>c2,fun h=>(by cases h),c3,c4⟩
          cases fx with
          | none=>
            obtain⟨rfl,nx⟩:=nofoot x1 f1.symm
            exact goal Hi i1 (nx Hi) f2 (foot_any.1 f1.symm).symm
          | some px=>
            cases px with
            | rd id=>
              obtain⟨rfl,nx⟩:=rdfoot x1 f1.symm
              have hsame:Hi[id]?=s.h[id]?:=by
               cases fi with
               | none=>rw[(nofoot i1 f2.symm).1]
               | some pi=>
                 cases pi with
                 | rd id'=>rw[(rdfoot i1 f2.symm).1]
                 | gen G G'=>
                   obtain⟨rfl,rfl⟩:=genfoot f2.symm
                   exact(sameAt_eq hf).symm
                 | mk n=>
                   obtain⟨rfl,⟨b,rfl,_⟩,_⟩:=mkfoot i1 f2.symm
                   exact getElem?_snoc_ne (neb hf)
                 | wr j=>
                   obtain⟨⟨b,rfl,_⟩,_⟩:=wrfoot i1 f2.symm
                   exact List.getElem?_set_ne (Ne.symm (neb hf))
              exact goal Hi i1 (nx Hi hsame) f2 (foot_any.2.1 id f1.symm).symm
            | mk n=>
              obtain⟨hn,⟨b,rfl,nx⟩,lx⟩:=mkfoot x1 f1.symm
              cases fi with
              | none=>
                obtain⟨q1,ni⟩:=nofoot i1 f2.symm
                subst q1
                exact goal s.h (ni s.h) x1 (foot_any.1 f2.symm).symm f1
              | some pi=>
                cases pi with
                | rd id=>
                  obtain⟨q1,ni⟩:=rdfoot i1 f2.symm
                  subst q1
                  have hne:=neb hf
                  rw[hn]at hne
                  exact goal s.h (ni s.h (getElem?_snoc_ne (Ne.symm hne)).symm) x1 (foot_any.2.1 id f2.symm).symm f1
                | wr j=>
                  obtain⟨⟨y,rfl,ni⟩,li⟩:=wrfoot i1 f2.symm
                  have hne:=neb hf
                  rw[hn]at hne
                  refine goal (s.h.set j y) (ni s.h (getElem?_snoc_ne (Ne.symm hne)).symm) ?_ (li _ _).symm (lx _ _ (by simp)).symm
                  rw[nx _ (by simp),set_snoc_ne (Ne.symm hne)]
                | gen K K'=>cases hf
                | mk m=>cases hf
            | wr j=>
              obtain⟨⟨y,rfl,nx⟩,lx⟩:=wrfoot x1 f1.symm
              cases fi with
              | none=>
                obtain⟨q1,ni⟩:=nofoot i1 f2.symm
                subst q1
                exact goal s.h (ni s.h) x1 (foot_any.1 f2.symm).symm f1
              | some pi=>
                cases pi with
                | rd id=>
                  obtain⟨q1,ni⟩:=rdfoot i1 f2.symm
                  subst q1
                  exact goal s.h (ni s.h (List.getElem?_set_ne (neb hf)).symm) x1 (foot_any.2.1 id f2.symm).symm f1
                | wr i=>
                  obtain⟨⟨u,rfl,ni⟩,li⟩:=wrfoot i1 f2.symm
                  have hne:=neb hf
                  refine goal (s.h.set i u) (ni s.h (List.getElem?_set_ne hne).symm) ?_ (li _ _).symm (lx _ _).symm
                  rw[nx _ (List.getElem?_set_ne (Ne.symm hne)),List.set_comm _ _ hne]
                | mk m=>
                  obtain⟨hm,⟨b,rfl,ni⟩,li⟩:=mkfoot i1 f2.symm
                  have hne:=neb hf
                  rw[List.length_set]at hm
                  rw[hm]at hne
                  refine goal (s.h++[b]) (ni s.h (by simp)) ?_ (li _ _ (by simp)).symm (lx _ _).symm
                  rw[nx _ (getElem?_snoc_ne hne),set_snoc_ne hne]
                | gen K K'=>cases hf
            | gen G G'=>
              obtain⟨p1,p2⟩:=genfoot f1.symm
              cases fi with
              | none=>
                obtain⟨q1,ni⟩:=nofoot i1 f2.symm
                subst q1
                exact goal s.h (ni s.h) x1 (foot_any.1 f2.symm).symm f1
              | some pi=>
                cases pi with
                | rd id=>
                  obtain⟨q1,ni⟩:=rdfoot i1 f2.symm
                  subst q1
                  have hs:sameAt id G G' = true:=hf
                  rw[p1,p2]at hs
                  exact goal s.h (ni s.h (sameAt_eq hs)) x1 (foot_any.2.1 id f2.symm).symm f1
                | mk m=>cases hf
                | wr m=>cases hf
                | gen K K'=>
                  obtain⟨p3,p4⟩:=genfoot f2.symm
                  have hq:heapEq G' G=true∧heapEq K' K=true:=by simpa [apartO,FP.apart] using hf
                  have q1:=heapEq_eq _ _ hq.1
                  have q2:=heapEq_eq _ _ hq.2
                  have q3:Hx=s.h:=by rw[← p2,q1,p1]
                  have q4:Hi=Hx:=by rw[← p4,q2,p3]
                  subst q4
                  rw[q3]at i1 x1 f1 f2
                  refine goal s.h ?_ ?_ ?_ ?_
                  ·exact i1
                  ·rw[q3];exact x1
                  ·exact f2
                  ·rw[q3];exact f1
     obtain⟨H1,o1,o2,o3,o4,o5,o6⟩:=other
     have one:∀(o:Oper) (t:St) (b:Bool) (v:AV) (H:List MB),evWanted ops.toList t o=some b→(b=true→evOp P cf mu t.ev t.h o=some (v,H))→(b=false→v=.tup []∧H=t.h) →
       evOne P cf mu ops.toList o t=some (({ t with h:=H }:St).put o.dst v):=by
      intro o t b v H h1 h2 h3
      unfold evOne
      rw[h1]
      cases b with
      | true=>simp only[h2 rfl]
      | false=>
        obtain⟨rfl,rfl⟩:=h3 rfl
        rfl
     have e3:=one oi s bi vi H1 hwi' o1 (fun h=>⟨(i2 h).1,o2 h⟩)
     have e4:=one ox (({ s with h:=H1 }:St).put oi.dst vi) bx vx Hi (by rw[wanted_put a3];exact hwx)
      (fun h=>by
        rw[put_h,← o3 h]
        exact evOp_congr ox (ev_put a3))
      (fun h=>⟨(x2 h).1,by rw[put_h];exact(o4 h).symm⟩)
     have e5:(({ ((({ s with h:=H1 }:St).put oi.dst vi)) with h:=Hi }:St).put ox.dst vx)=s3:=by
      rw[e2,e1]
      have c1:({ (({ s with h:=H1 }:St).put oi.dst vi) with h:=Hi }:St)=({ s with h:=Hi }:St).put oi.dst vi:=by cases oi.dst<;>rfl
      have c2:({ (({ s with h:=Hx }:St).put ox.dst vx) with h:=Hi }:St)=({ s with h:=Hi }:St).put ox.dst vx:=by cases ox.dst<;>rfl
      rw[c1,c2]
      have:=put_comm (s:={ s with h:=Hi }) (d:=oi.dst) (e:=ox.dst) (fun t h h'=>a2 t h' h) vi vx Hi
      have c3:∀(d:Option Tmp) (v:AV),({ (({ s with h:=Hi }:St).put d v) with h:=Hi }:St)=({ s with h:=Hi }:St).put d v:=by intro d v;cases d<;>rfl
      rw[c3,c3]at this
      exact this
     rw[e5]at e4
     refine .cons hoi hwi' e3 (by rw[put_h];exact o5) (.cons hox (by rw[wanted_put a3];exact hwx) e4 ?_ hr2)
     have:s3.h=Hi:=by rw[e2,put_h]
     rw[this,put_h,o6]
     unfold fpOf
     rw[footprint_congr ox (ev_put a3)]
end Go.Ev
namespace Go.Ev
open Go.RowKit
variable {ro:Option Nat}{P:Program}{cf:CF}{mu:List Nat}{ops:Array Oper}{B0:Nat}{w0:Base}{w:World}{I0:Imm}{L0:List Lay}
def Free (ops:Array Oper) (x i:Nat×Option FP):Prop:=
 (∀ p q,ops[x.1]?=some p→ops[i.1]?=some q→p.apart ops q=true)∧apartO x.2 i.2=true
theorem Run.front {i:Nat×Option FP}{B:List (Nat×Option FP)}:∀(A:List (Nat×Option FP)) {s s':St},Run P cf mu ops (A++i::B) s s'→(∀ x∈A,Free ops x i)→Run P cf mu ops (i::(A++B)) s s'
 | [],s,s',h,_=>h
 | x::A,s,s',h,hf=>by
   cases h with
   | cons ho hw h1 hfp hr=>
     have h2:=Run.front A hr (fun y hy=>hf y (List.mem_cons_of_mem _ hy))
     have h3:=hf _ (List.mem_cons_self ..)
     exact(Run.cons ho hw h1 hfp h2).swap h3.1 h3.2
theorem run_of_D:∀(l:List Oper) (i:Nat) {s s':St}{fl:List (Nat×FP)},(∀ j,l[j]?=ops[i+j]?)→evOpsD P cf mu ops.toList i l s=some (fl,s') →
  ∃ rem,Run P cf mu ops rem s s'∧rem.map (·.1)=List.range' i l.length∧fl=rem.filterMap (fun p=>p.2.map fun q=>(p.1,q))
 | [],i,s,s',fl,_,h=>by
   simp[evOpsD]at h;obtain⟨rfl,rfl⟩:=h
   exact⟨[],.nil s,rfl,rfl⟩
 | o::l,i,s,s',fl,hl,h=>by
   simp only[evOpsD]at h
   split at h
   ·rename_i b hw
    split at h
    ·rename_i s1 h1
     split at h
     ·rename_i fl' s2 h2
      simp only[Option.some.injEq,Prod.mk.injEq]at h
      obtain⟨e1,rfl⟩:=h
      have ho:ops[i]?=some o:=by have:=hl 0;simpa using this.symm
      obtain⟨rem,r1,r2,r3⟩:=run_of_D l (i+1) (fun j=>by have:=hl (j+1);simpa [Nat.add_assoc,Nat.add_comm 1 j] using this) h2
      refine⟨(i,fpOf mu s.ev o b s.h s1.h)::rem,.cons ho hw h1 rfl r1,by simp[r2,List.range'_succ],?_⟩
      rw[← e1]
      unfold fpOf
      cases hq:(if b=true then footprint mu s.ev o s.h s1.h else none) with
      | none=>simp[r3]
      | some p=>simp[r3]
     ·simp at h
    ·simp at h
   ·simp at h
theorem pairs_of:∀(rem:List (Nat×Option FP)),pairsOk ops (rem.filterMap (fun p=>p.2.map fun q=>(p.1,q)))=true →
  rem.Pairwise (fun x i=>dEdgeT ops ops.size i.1 x.1=true∨apartO x.2 i.2=true)
 | [],_=>.nil
 | (i,f)::rem,h=>by
   cases f with
   | none=>
     simp only[List.filterMap_cons,Option.map_none]at h
     refine .cons (fun y _=>.inr rfl) (pairs_of rem h)
   | some p=>
     simp only[List.filterMap_cons,Option.map_some,pairsOk,Bool.and_eq_true]at h
     refine .cons (fun y hy=>?_) (pairs_of rem h.2)
     obtain⟨j,g⟩:=y
     cases g with
     | none=>exact .inr rfl
     | some q=>
       have:=List.all_eq_true.1 h.1 (j,q) (List.mem_filterMap.2 ⟨(j,some q),hy,rfl⟩)
       simp only[Bool.or_eq_true]at this
       exact this
theorem drawOk_spec (h:drawOk ops=true) :
  (∀ i o e,ops[i]?=some o→e∈o.after→Region.binds .any e=true→e.on<i) ∧
  (∀ i x,i<ops.size→x<i→dEdge ops i x=true∨∀ p q,ops[x]?=some p→ops[i]?=some q→p.apart ops q=true):=by
 simp only[drawOk,Bool.and_eq_true]at h
 obtain⟨h1,h2⟩:=h
 constructor
 ·intro i o e ho he hb
  have hi:i<ops.size:=(Array.getElem?_eq_some_iff.1 ho).1
  have:=List.all_eq_true.1 h1 i (List.mem_range.2 hi)
  simp only[ho]at this
  have:=List.all_eq_true.1 this e (by simpa using he)
  simpa [hb] using this
 ·intro i x hi hx
  have:=List.all_eq_true.1 h2 i (List.mem_range.2 hi)
  have:=List.all_eq_true.1 this x (List.mem_range.2 hx)
  simp only[Bool.or_eq_true]at this
  rcases this with h|h
  ·exact .inl h
  ·refine .inr fun p q hp hq=>?_
   simp only[hp,hq]at h
   exact h
theorem apart_comm {p q:Oper} (h:p.apart ops q=true):q.apart ops p=true:=by
 obtain⟨h1,h2,h3⟩:=Oper.apart_spec h
 unfold Oper.apart
 cases hq:q.dst with
 | none=>
   cases hp:p.dst with
   | none=>rfl
   | some d=>
     have a:=h1 d hp
     simp[a]
 | some e=>
   have b:=h3 e hq
   cases hp:p.dst with
   | none=>simp[b]
   | some d=>
     have a:=h1 d hp
     have c:d≠e:=fun e'=>h2 d hp (by rw[hq,e'])
     simp[a,b,c]
theorem dEdgeT_done (hd:drawOk ops=true) {R:List Nat} (hR:∀ j∈R,j<ops.size) (hcl:∀ j y,j<ops.size→j ∉ R→dEdge ops j y=true→y ∉ R) :
  ∀(n i x:Nat),(∀ y,dEdge ops i y=true→y ∉ R)→dEdgeT ops n i x=true→x ∉ R
 | 0,i,x,_,h=>by simp[dEdgeT]at h
 | n+1,i,x,hi,h=>by
   simp only[dEdgeT,Bool.or_eq_true,List.any_eq_true,List.mem_range,Bool.and_eq_true]at h
   rcases h with h|⟨y,hy,h1,h2⟩
   ·exact hi x h
   ·exact dEdgeT_done hd hR hcl n y x (fun z hz=>hcl y z hy (hi y h1) hz) h2
theorem wpAny_of_runT (hcf:CfOk P cf) (hd:drawOk ops=true) {Q:Exit→Act→World→Prop}{s':St} (hQ:∀ a w,StOk B0 w0 I0 L0 s' a w→Q .normal a w) :
  ∀(fuel:Nat) (rem:List (Nat×Option FP)) (listed:Array Bool) (s:St) (a:Act) (w:World),Run P cf mu ops rem s s'→StOk B0 w0 I0 L0 s a w →
   rem.Pairwise (fun x i=>x.1≠i.1∧dEdge ops x.1 i.1=false)→(∀ j,listed.getD j true=false↔j∈rem.map (·.1))→listed.size=ops.size→rem.length≤fuel →
   (∀ j y,j<ops.size→j ∉ rem.map (·.1)→dEdge ops j y=true→y ∉ rem.map (·.1)) →
   rem.Pairwise (fun x i=>dEdgeT ops ops.size i.1 x.1=true∨apartO x.2 i.2=true)→wpAnyIn (wd ro) 0 P .any ops Q fuel listed a w:=by
 obtain⟨hd1,hd2⟩:=drawOk_spec hd
 intro fuel
 induction fuel with
 | zero=>
   intro rem listed s a w hr hs hsort hl hsz hf hcl hp
   have:rem=[]:=List.length_eq_zero_iff.1 (by omega)
   subst this
   cases hr
   refine⟨?_,hQ a w hs⟩
   cases hrr:Region.ready .any ops listed with
   | nil=>rfl
   | cons x xs=>
     have hx:x∈Region.ready .any ops listed:=by rw[hrr];exact List.mem_cons_self ..
     rw[mem_ready]at hx
     have:=(hl x).1 hx.1
     simp at this
 | succ fuel ih=>
   intro rem listed s a w hr hs hsort hl hsz hf hcl hp
   have hlt:∀ j,j∈rem.map (·.1)→j<ops.size:=by
    intro j hj
    have:=(hl j).2 hj
    rcases Nat.lt_or_ge j listed.size with g|g
    ·omega
    ·simp[Array.getElem?_eq_none g]at this
   constructor
   ·intro hnil
    cases rem with
    | nil=>cases hr;exact hQ a w hs
    | cons x rem=>
      exfalso
      have hxm:x.1∈(x::rem).map (·.1):=by simp
      have hx:=hlt x.1 hxm
      have:x.1∈Region.ready .any ops listed:=by
       rw[mem_ready]
       refine⟨(hl x.1).2 hxm,ops[x.1],by simp[hx],fun e he hb=>?_⟩
       have h1:=hd1 x.1 _ e (Array.getElem?_eq_getElem hx) he hb
       have hde:dEdge ops x.1 e.on=true:=by
        simp only[dEdge,Array.getElem?_eq_getElem hx]
        exact List.any_eq_true.2 ⟨e,by simpa using he,by simp[hb]⟩
       have h2:e.on ∉ (x::rem).map (·.1):=by
        intro hm
        obtain⟨y,hy,hye⟩:=List.mem_map.1 hm
        rcases List.mem_cons.1 hy with g|g
        ·subst g;omega
        ·have:=((List.pairwise_cons.1 hsort).1 y g).2
         rw[hye,hde]at this
         cases this
       have h3:¬ listed.getD e.on true=false:=fun h=>h2 ((hl e.on).1 h)
       have h4:e.on<listed.size:=by omega
       simp[Array.getD_eq_getD_getElem?,h4]at h3 ⊢
       exact h3
      rw[hnil]at this
      simp at this
   ·intro i hi
    have hi':=mem_ready.1 hi
    have him:=(hl i).1 hi'.1
    have hready:∀ y,dEdge ops i y=true→y ∉ rem.map (·.1):=by
     intro y hde hm
     obtain⟨_,o,ho,hall⟩:=hi'
     simp only[dEdge,ho]at hde
     obtain⟨e,he,hbe⟩:=List.any_eq_true.1 hde
     simp only[Bool.and_eq_true,beq_iff_eq]at hbe
     have h1:=hall e (by simpa using he) hbe.1
     rw[hbe.2]at h1
     have h2:=(hl y).2 hm
     have h3:y<listed.size:=by
      have:=hlt y hm
      omega
     simp[Array.getD_eq_getD_getElem?,h3]at h1 h2
     rw[h1]at h2
     cases h2
    obtain⟨⟨i',f⟩,hmem,hie⟩:=List.mem_map.1 him
    simp at hie;subst hie
    obtain⟨A,B,rfl⟩:=List.append_of_mem hmem
    have hilt:=hlt i' him
    have hsort':=List.pairwise_append.1 hsort
    have hp':=List.pairwise_append.1 hp
    have hfree:∀ x∈A,Free ops x (i',f):=by
     intro x hx
     have hxm:x.1∈(A++(i',f)::B).map (·.1):=List.mem_map.2 ⟨x,List.mem_append_left _ hx,rfl⟩
     have hxlt:=hlt x.1 hxm
     obtain⟨hne,hxd⟩:=hsort'.2.2 x hx (i',f) (List.mem_cons_self ..)
     have hne:x.1≠i':=hne
     have h1:dEdge ops i' x.1=false:=by
      cases hde:dEdge ops i' x.1 with
      | false=>rfl
      | true=>exact absurd hxm (hready _ hde)
     refine⟨?_,?_⟩
     ·rcases Nat.lt_or_gt_of_ne hne with g|g
      ·rcases hd2 i' x.1 hilt g with g|g
       ·rw[h1]at g;cases g
       ·exact g
      ·rcases hd2 x.1 i' hxlt g with g|g
       ·rw[hxd]at g;cases g
       ·exact fun p q hp hq=>apart_comm (g q p hq hp)
     ·rcases hp'.2.2 x hx (i',f) (List.mem_cons_self ..) with g|g
      ·exact absurd hxm (dEdgeT_done hd hlt hcl _ _ _ hready g)
      ·exact g
    have hr2:=Run.front A hr hfree
    cases hr2 with
    | @cons _ o b _ _ s1 _ _ ho hw h1 hfp hrest=>
      have hnot:i' ∉ (A++B).map (·.1):=by
       intro hm
       obtain⟨y,hy,hye⟩:=List.mem_map.1 hm
       rcases List.mem_append.1 hy with g|g
       ·exact(hsort'.2.2 y g (i',f) (List.mem_cons_self ..)).1 hye
       ·exact((List.pairwise_cons.1 hsort'.2.1).1 y g).1 hye.symm
      have hmem2:∀ j,j∈(A++(i',f)::B).map (·.1)↔j=i'∨j∈(A++B).map (·.1):=by
       intro j
       simp only[List.map_append,List.map_cons,List.mem_append,List.mem_cons]
       constructor
       ·rintro(g|g|g)
        ·exact .inr (.inl g)
        ·exact .inl g
        ·exact .inr (.inr g)
       ·rintro(g|g|g)
        ·exact .inr (.inl g)
        ·exact .inl g
        ·exact .inr (.inr g)
      have key:=evOne_sound ro (P:=P) (Q:=Q) (K:=wpAnyIn (wd ro) 0 P .any ops Q fuel (listed.setIfInBounds i' true)) hcf h1 hs (fun a' w' hs'=>by
       refine ih (A++B) _ s1 a' w' hrest hs' ?_ ?_ (by simp[hsz]) (by simp at hf ⊢;omega) ?_ ?_
       ·exact List.pairwise_append.2 ⟨hsort'.1,(List.pairwise_cons.1 hsort'.2.1).2,fun x hx y hy=>hsort'.2.2 x hx y (List.mem_cons_of_mem _ hy)⟩
       ·intro j
        by_cases e:i' = j
        ·subst e
         have:(listed.setIfInBounds i' true).getD i' true=true:=by
          have:i'<listed.size:=by omega
          simp[Array.getD_eq_getD_getElem?,this]
         rw[this]
         exact⟨fun h=>(by cases h),fun h=>absurd h hnot⟩
        ·rw[getD_set_ne true e,hl j,hmem2 j]
         exact⟨fun g=>g.elim (fun g=>absurd g.symm e) id,.inr⟩
       ·intro j y hj hjn hde
        by_cases e:j=i'
        ·subst e
         exact fun hm=>hready y hde ((hmem2 y).2 (.inr hm))
        ·exact fun hm=>hcl j y hj (fun g=>((hmem2 j).1 g).elim e hjn) hde ((hmem2 y).2 (.inr hm))
       ·exact List.pairwise_append.2 ⟨hp'.1,(List.pairwise_cons.1 hp'.2.1).2,fun x hx y hy=>hp'.2.2 x hx y (List.mem_cons_of_mem _ hy)⟩)
      unfold wpOpIn
      simp only[ho]
      split
      ·rename_i hwn;rw[if_pos hwn]at key;exact key
      ·rename_i hwn;rw[if_neg hwn]at key;exact⟨wd_about,key⟩
theorem wpAny_of_two (hcf:CfOk P cf) (hd:drawOk ops=true) {Q:Exit→Act→World→Prop}{s':St} (hQ:∀ a w,StOk B0 w0 I0 L0 s' a w→Q .normal a w) (p q:Nat) (hpq:p≠q) :
  ∀(fuel:Nat) (rem rem2:List (Nat×Option FP)) (listed:Array Bool) (s:St) (a:Act) (w:World),Run P cf mu ops rem s s'→Run P cf mu ops rem2 s s'→StOk B0 w0 I0 L0 s a w →
   rem.Pairwise (fun x i=>x.1≠i.1∧dEdge ops x.1 i.1=false)→rem2.Pairwise (fun x i=>x.1≠i.1∧dEdge ops x.1 i.1=false) →
   (∀ j,listed.getD j true=false↔j∈rem.map (·.1))→(∀ j,j∈rem2.map (·.1)↔j∈rem.map (·.1))→listed.size=ops.size→rem.length≤fuel→rem2.length≤fuel →
   (∀ j y,j<ops.size→j ∉ rem.map (·.1)→dEdge ops j y=true→y ∉ rem.map (·.1))→p∈rem.map (·.1)→q∈rem.map (·.1) →
   rem.Pairwise (fun x i=>¬ (x.1=q∧i.1=p))→rem2.Pairwise (fun x i=>¬ (x.1=p∧i.1=q)) →
   rem.Pairwise (fun x i=>dEdgeT ops ops.size i.1 x.1=true∨apartO x.2 i.2=true∨(x.1=p∧i.1=q))→rem2.Pairwise (fun x i=>dEdgeT ops ops.size i.1 x.1=true∨apartO x.2 i.2=true∨(x.1=q∧i.1=p)) →
   wpAnyIn (wd ro) 0 P .any ops Q fuel listed a w:=by
 obtain⟨hd1,hd2⟩:=drawOk_spec hd
 intro fuel
 induction fuel with
 | zero=>
   intro rem rem2 listed s a w hr hr2 hs hsort hsort2 hl hl2 hsz hf hf2 hcl hpm hqm ho ho2 hp hp2
   have:rem=[]:=List.length_eq_zero_iff.1 (by omega)
   subst this
   simp at hpm
 | succ fuel ih=>
   intro rem rem2 listed s a w hr hr2 hs hsort hsort2 hl hl2 hsz hf hf2 hcl hpm hqm ho ho2 hp hp2
   have hlt:∀ j,j∈rem.map (·.1)→j<ops.size:=by
    intro j hj
    have:=(hl j).2 hj
    rcases Nat.lt_or_ge j listed.size with g|g
    ·omega
    ·simp[Array.getElem?_eq_none g]at this
   have hlt2:∀ j,j∈rem2.map (·.1)→j<ops.size:=fun j hj=>hlt j ((hl2 j).1 hj)
   have hcl2:∀ j y,j<ops.size→j ∉ rem2.map (·.1)→dEdge ops j y=true→y ∉ rem2.map (·.1):=fun j y hj hjn hde hm=>hcl j y hj (fun g=>hjn ((hl2 j).2 g)) hde ((hl2 y).1 hm)
   constructor
   ·intro hnil
    cases rem with
    | nil=>simp at hpm
    | cons x rem=>
      exfalso
      have hxm:x.1∈(x::rem).map (·.1):=by simp
      have hx:=hlt x.1 hxm
      have:x.1∈Region.ready .any ops listed:=by
       rw[mem_ready]
       refine⟨(hl x.1).2 hxm,ops[x.1],by simp[hx],fun e he hb=>?_⟩
       have h1:=hd1 x.1 _ e (Array.getElem?_eq_getElem hx) he hb
       have hde:dEdge ops x.1 e.on=true:=by
        simp only[dEdge,Array.getElem?_eq_getElem hx]
        exact List.any_eq_true.2 ⟨e,by simpa using he,by simp[hb]⟩
       have h2:e.on ∉ (x::rem).map (·.1):=by
        intro hm
        obtain⟨y,hy,hye⟩:=List.mem_map.1 hm
        rcases List.mem_cons.1 hy with g|g
        ·subst g;omega
        ·have:=((List.pairwise_cons.1 hsort).1 y g).2
         rw[hye,hde]at this
         cases this
       have h3:¬ listed.getD e.on true=false:=fun h=>h2 ((hl e.on).1 h)
       have h4:e.on<listed.size:=by omega
       simp[Array.getD_eq_getD_getElem?,h4]at h3 ⊢
       exact h3
      rw[hnil]at this
      simp at this
   ·intro i hi
    have hi':=mem_ready.1 hi
    have him:=(hl i).1 hi'.1
    have hready:∀ y,dEdge ops i y=true→y ∉ rem.map (·.1):=by
     intro y hde hm
     obtain⟨_,o,ho,hall⟩:=hi'
     simp only[dEdge,ho]at hde
     obtain⟨e,he,hbe⟩:=List.any_eq_true.1 hde
     simp only[Bool.and_eq_true,beq_iff_eq]at hbe
     have h1:=hall e (by simpa using he) hbe.1
     rw[hbe.2]at h1
     have h2:=(hl y).2 hm
     have h3:y<listed.size:=by
      have:=hlt y hm
      omega
     simp[Array.getD_eq_getD_getElem?,h3]at h1 h2
     rw[h1]at h2
     cases h2
    have hready2:∀ y,dEdge ops i y=true→y ∉ rem2.map (·.1):=fun y h g=>hready y h ((hl2 y).1 g)
    have front:∀(R:List (Nat×Option FP)) (p q:Nat),Run P cf mu ops R s s'→(∀ j∈R.map (·.1),j<ops.size)→(∀ j y,j<ops.size→j ∉ R.map (·.1)→dEdge ops j y=true→y ∉ R.map (·.1))→i∈R.map (·.1) →
      (∀ y,dEdge ops i y=true→y ∉ R.map (·.1))→R.Pairwise (fun x i=>x.1≠i.1∧dEdge ops x.1 i.1=false) →
      R.Pairwise (fun x i=>dEdgeT ops ops.size i.1 x.1=true∨apartO x.2 i.2=true∨(x.1=p∧i.1=q))→(i=q→p ∉ R.map (·.1)∨R.Pairwise (fun x i=>¬ (x.1=p∧i.1=q))) →
      ∃ A B f,R=A++(i,f)::B∧Run P cf mu ops ((i,f)::(A++B)) s s':=by
     intro R p q hr hlt hcl him hready hsort hp hno
     obtain⟨⟨i',f⟩,hmem,hie⟩:=List.mem_map.1 him
     simp at hie;subst hie
     obtain⟨A,B,rfl⟩:=List.append_of_mem hmem
     have hilt:=hlt i' him
     have hsort':=List.pairwise_append.1 hsort
     have hp':=List.pairwise_append.1 hp
     refine⟨A,B,f,rfl,Run.front A hr fun x hx=>?_⟩
     have hxm:x.1∈(A++(i',f)::B).map (·.1):=List.mem_map.2 ⟨x,List.mem_append_left _ hx,rfl⟩
     have hxlt:=hlt x.1 hxm
     obtain⟨hne,hxd⟩:=hsort'.2.2 x hx (i',f) (List.mem_cons_self ..)
     have hne:x.1≠i':=hne
     have h1:dEdge ops i' x.1=false:=by
      cases hde:dEdge ops i' x.1 with
      | false=>rfl
      | true=>exact absurd hxm (hready _ hde)
     refine⟨?_,?_⟩
     ·rcases Nat.lt_or_gt_of_ne hne with g|g
      ·rcases hd2 i' x.1 hilt g with g|g
       ·rw[h1]at g;cases g
       ·exact g
      ·rcases hd2 x.1 i' hxlt g with g|g
       ·rw[hxd]at g;cases g
       ·exact fun p q hp hq=>apart_comm (g q p hq hp)
     ·rcases hp'.2.2 x hx (i',f) (List.mem_cons_self ..) with g|g|g
      ·exact absurd hxm (dEdgeT_done hd hlt hcl _ _ _ hready g)
      ·exact g
      ·obtain⟨g1,g2⟩:=g
       rcases hno g2 with h|h
       ·exact absurd (g1 ▸ hxm) h
       ·exact absurd ⟨g1,g2⟩ ((List.pairwise_append.1 h).2.2 x hx (i',f) (List.mem_cons_self ..))
    have memAB:∀(A B:List (Nat×Option FP)) (f:Option FP) (j:Nat),j∈(A++(i,f)::B).map (·.1)↔j=i∨j∈(A++B).map (·.1):=by
     intro A B f j
     simp only[List.map_append,List.map_cons,List.mem_append,List.mem_cons]
     constructor
     ·rintro(g|g|g)
      ·exact .inr (.inl g)
      ·exact .inl g
      ·exact .inr (.inr g)
     ·rintro(g|g|g)
      ·exact .inr (.inl g)
      ·exact .inl g
      ·exact .inr (.inr g)
    have dropP:∀ {r:Nat×Option FP→Nat×Option FP→Prop} (A B:List (Nat×Option FP)) (f:Option FP),(A++(i,f)::B).Pairwise r→(A++B).Pairwise r:=by
     intro r A B f h
     have h':=List.pairwise_append.1 h
     exact List.pairwise_append.2 ⟨h'.1,(List.pairwise_cons.1 h'.2.1).2,fun x hx y hy=>h'.2.2 x hx y (List.mem_cons_of_mem _ hy)⟩
    have notAB:∀(A B:List (Nat×Option FP)) (f:Option FP),(A++(i,f)::B).Pairwise (fun x i=>x.1≠i.1∧dEdge ops x.1 i.1=false)→i ∉ (A++B).map (·.1):=by
     intro A B f h hm
     have h':=List.pairwise_append.1 h
     obtain⟨y,hy,hye⟩:=List.mem_map.1 hm
     rcases List.mem_append.1 hy with g|g
     ·exact(h'.2.2 y g (i,f) (List.mem_cons_self ..)).1 hye
     ·exact((List.pairwise_cons.1 h'.2.1).1 y g).1 hye.symm
    have ilt:=hlt i him
    have listedAB:∀(A B:List (Nat×Option FP)) (f:Option FP),(∀ j,listed.getD j true=false↔j∈(A++(i,f)::B).map (·.1))→i ∉ (A++B).map (·.1)→∀ j,(listed.setIfInBounds i true).getD j true=false↔j∈(A++B).map (·.1):=by
     intro A B f hl hnot j
     by_cases e:i=j
     ·subst e
      have:(listed.setIfInBounds i true).getD i true=true:=by
       have:i<listed.size:=by omega
       simp[Array.getD_eq_getD_getElem?,this]
      rw[this]
      exact⟨fun h=>(by cases h),fun h=>absurd h hnot⟩
     ·rw[getD_set_ne true e,hl j,memAB A B f j]
      exact⟨fun g=>g.elim (fun g=>absurd g.symm e) id,.inr⟩
    have clAB:∀(A B:List (Nat×Option FP)) (f:Option FP),(∀ y,dEdge ops i y=true→y ∉ (A++(i,f)::B).map (·.1))→(∀ j y,j<ops.size→j ∉ (A++(i,f)::B).map (·.1)→dEdge ops j y=true→y ∉ (A++(i,f)::B).map (·.1)) →
      ∀ j y,j<ops.size→j ∉ (A++B).map (·.1)→dEdge ops j y=true→y ∉ (A++B).map (·.1):=by
     intro A B f hready hcl j y hj hjn hde
     by_cases e:j=i
     ·subst e
      exact fun hm=>hready y hde ((memAB A B f y).2 (.inr hm))
     ·exact fun hm=>hcl j y hj (fun g=>((memAB A B f j).1 g).elim e hjn) hde ((memAB A B f y).2 (.inr hm))
    have alone:∀(R:List (Nat×Option FP)) (p q:Nat),Run P cf mu ops R s s'→(∀ j,listed.getD j true=false↔j∈R.map (·.1))→R.length≤fuel+1→(∀ j y,j<ops.size→j ∉ R.map (·.1)→dEdge ops j y=true→y ∉ R.map (·.1)) →
      (∀ y,dEdge ops i y=true→y ∉ R.map (·.1))→R.Pairwise (fun x i=>x.1≠i.1∧dEdge ops x.1 i.1=false) →
      R.Pairwise (fun x i=>dEdgeT ops ops.size i.1 x.1=true∨apartO x.2 i.2=true∨(x.1=p∧i.1=q))→i=p→p≠q →
      wpOpIn (wd ro) 0 P ops Q i (wpAnyIn (wd ro) 0 P .any ops Q fuel (listed.setIfInBounds i true)) a w:=by
     intro R p q hr hl hf hcl hready hsort hp hip hpq
     have him:=(hl i).1 hi'.1
     have hlt:∀ j,j∈R.map (·.1)→j<ops.size:=by
      intro j hj
      have:=(hl j).2 hj
      rcases Nat.lt_or_ge j listed.size with g|g
      ·omega
      ·simp[Array.getElem?_eq_none g]at this
     obtain⟨A,B,f,rfl,hr2⟩:=front R p q hr hlt hcl him hready hsort hp (fun h=>absurd (hip.symm.trans h) hpq)
     have hnot:=notAB A B f hsort
     cases hr2 with
     | @cons _ o b _ _ s1 _ _ ho hw h1 hfp hrest=>
       have key:=evOne_sound ro (P:=P) (Q:=Q) (K:=wpAnyIn (wd ro) 0 P .any ops Q fuel (listed.setIfInBounds i true)) hcf h1 hs (fun a' w' hs'=>by
        refine wpAny_of_runT hcf hd hQ fuel (A++B) _ s1 a' w' hrest hs' (dropP A B f hsort) (listedAB A B f hl hnot) (by simp[hsz]) (by simp at hf ⊢;omega) (clAB A B f hready hcl) ?_
        refine(dropP A B f hp).imp_of_mem (fun {x y} hx hy h=>?_)
        rcases h with h|h|h
        ·exact .inl h
        ·exact .inr h
        ·exact absurd (List.mem_map.2 ⟨x,hx,h.1.trans hip.symm⟩) hnot)
       unfold wpOpIn
       simp only[ho]
       split
       ·rename_i hwn;rw[if_pos hwn]at key;exact key
       ·rename_i hwn;rw[if_neg hwn]at key;exact⟨wd_about,key⟩
    by_cases hip:i=p
    ·exact alone rem p q hr hl hf hcl hready hsort hp hip hpq
    by_cases hiq:i=q
    ·exact alone rem2 q p hr2 (fun j=>(hl j).trans (hl2 j).symm) hf2 hcl2 hready2 hsort2 hp2 hiq (Ne.symm hpq)
    obtain⟨A,B,f,rfl,hra⟩:=front rem p q hr hlt hcl him hready hsort hp (fun h=>absurd h hiq)
    obtain⟨A2,B2,f2,rfl,hrb⟩:=front rem2 q p hr2 hlt2 hcl2 ((hl2 i).2 him) hready2 hsort2 hp2 (fun h=>absurd h hip)
    have hnot:=notAB A B f hsort
    have hnot2:=notAB A2 B2 f2 hsort2
    cases hra with
    | @cons _ o b _ _ s1 _ _ ho1 hw h1 hfp hrest=>
      cases hrb with
      | @cons _ o' b' _ _ s1' _ _ ho1' hw' h1' hfp' hrest'=>
        rw[ho1]at ho1';obtain rfl:=Option.some.inj ho1'
        rw[h1]at h1';obtain rfl:=Option.some.inj h1'
        have key:=evOne_sound ro (P:=P) (Q:=Q) (K:=wpAnyIn (wd ro) 0 P .any ops Q fuel (listed.setIfInBounds i true)) hcf h1 hs (fun a' w' hs'=>by
         refine ih (A++B) (A2++B2) _ s1 a' w' hrest hrest' hs' (dropP A B f hsort) (dropP A2 B2 f2 hsort2) (listedAB A B f hl hnot) (fun j=>?_) (by simp[hsz]) (by simp at hf ⊢;omega) (by simp at hf2 ⊢;omega) (clAB A B f hready hcl)
          (((memAB A B f p).1 hpm).resolve_left (Ne.symm hip)) (((memAB A B f q).1 hqm).resolve_left (Ne.symm hiq)) (dropP A B f ho) (dropP A2 B2 f2 ho2) (dropP A B f hp) (dropP A2 B2 f2 hp2)
         have h:=hl2 j
         rw[memAB A2 B2 f2 j,memAB A B f j]at h
         constructor
         ·intro g
          exact(h.1 (.inr g)).resolve_left (fun e=>hnot2 (e ▸ g))
         ·intro g
          exact(h.2 (.inr g)).resolve_left (fun e=>hnot (e ▸ g)))
        unfold wpOpIn
        simp only[ho1]
        split
        ·rename_i hwn;rw[if_pos hwn]at key;exact key
        ·rename_i hwn;rw[if_neg hwn]at key;exact⟨wd_about,key⟩
theorem run_of_I:∀(l:List Nat) {s s':St}{fl:List (Nat×FP)},evOpsI P cf mu ops.toList l s=some (fl,s') →
  ∃ rem,Run P cf mu ops rem s s'∧rem.map (·.1)=l∧fl=rem.filterMap (fun p=>p.2.map fun q=>(p.1,q))
 | [],s,s',fl,h=>by
   simp[evOpsI]at h;obtain⟨rfl,rfl⟩:=h
   exact⟨[],.nil s,rfl,rfl⟩
 | i::l,s,s',fl,h=>by
   simp only[evOpsI]at h
   split at h
   ·simp at h
   ·rename_i o ho
    split at h
    ·rename_i b hw
     split at h
     ·rename_i s1 h1
      split at h
      ·rename_i fl' s2 h2
       simp only[Option.some.injEq,Prod.mk.injEq]at h
       obtain⟨e1,rfl⟩:=h
       obtain⟨rem,r1,r2,r3⟩:=run_of_I l h2
       refine⟨(i,fpOf mu s.ev o b s.h s1.h)::rem,.cons (by simpa using ho) hw h1 rfl r1,by simp[r2],?_⟩
       rw[← e1]
       unfold fpOf
       cases hq:(if b=true then footprint mu s.ev o s.h s1.h else none) with
       | none=>simp[r3]
       | some p=>simp[r3]
      ·simp at h
     ·simp at h
    ·simp at h
theorem pairs_ofX (p q:Nat):∀(rem:List (Nat×Option FP)),pairsX ops p q (rem.filterMap (fun p=>p.2.map fun q=>(p.1,q)))=true →
  rem.Pairwise (fun x i=>dEdgeT ops ops.size i.1 x.1=true∨apartO x.2 i.2=true∨(x.1=p∧i.1=q))
 | [],_=>.nil
 | (i,f)::rem,h=>by
   cases f with
   | none=>
     simp only[List.filterMap_cons,Option.map_none]at h
     refine .cons (fun y _=>.inr (.inl rfl)) (pairs_ofX p q rem h)
   | some f=>
     simp only[List.filterMap_cons,Option.map_some,pairsX,Bool.and_eq_true]at h
     refine .cons (fun y hy=>?_) (pairs_ofX p q rem h.2)
     obtain⟨j,g⟩:=y
     cases g with
     | none=>exact .inr (.inl rfl)
     | some g=>
       have:=List.all_eq_true.1 h.1 (j,g) (List.mem_filterMap.2 ⟨(j,some g),hy,rfl⟩)
       simp only[Bool.or_eq_true,Bool.and_eq_true,beq_iff_eq]at this
       exact this
theorem ordOk_spec (p q:Nat):∀(l:List Nat),ordOk ops p q l=true→(∀ x∈l,x<ops.size)∧l.Pairwise (fun x i=>(x≠i∧dEdge ops x i=false)∧¬ (x=p∧i=q))
 | [],_=>⟨fun x h=>by simp at h,.nil⟩
 | x::l,h=>by
   simp only[ordOk,Bool.and_eq_true,decide_eq_true_eq,List.all_eq_true,Bool.not_eq_true',beq_eq_false_iff_ne,Bool.and_eq_false_iff]at h
   obtain⟨⟨h1,h2⟩,h3⟩:=h
   obtain⟨g1,g2⟩:=ordOk_spec p q l h3
   refine⟨fun y hy=>?_,.cons (fun y hy=>?_) g2⟩
   ·rcases List.mem_cons.1 hy with e|e
    ·rw[e];exact h1
    ·exact g1 y e
   ·obtain⟨a1,a2,a3⟩:=h2 y hy
    refine⟨⟨a2,a1⟩,fun e=>?_⟩
    rcases a3 with a|a
    ·exact a e.1
    ·exact a e.2
theorem tmEq_eq:∀(t t':Tm),tmEq t t' = true→t=t'
 | [],[],_=>rfl
 | [],_::_,h=>by simp[tmEq]at h
 | _::_,[],h=>by simp[tmEq]at h
 | (k,v)::t,(k',v')::t',h=>by
   simp only[tmEq,Bool.and_eq_true,beq_iff_eq]at h
   rw[h.1,AV.eq_of_beq _ _ h.2.1,tmEq_eq t t' h.2.2]
theorem St.eq_of_beq {s s':St} (h:St.beq s s' = true):s=s':=by
 obtain⟨n,t,hh⟩:=s
 obtain⟨n',t',hh'⟩:=s'
 simp only[St.beq,Bool.and_eq_true,beq_iff_eq]at h
 rw[h.1,tmEq_eq _ _ h.2.1,heapEq_eq _ _ h.2.2]
theorem evRegion_sound (hcf:CfOk P cf) (hm:P.follows .mixedOrders=true) {id:Nat}{alt:Option (Nat×Nat×List Nat)}{draw:Bool}{s s':St}{a:Act} (h:evRegion P cf mu ops alt draw s=some s') (hs:StOk B0 w0 I0 L0 s a w)
  {Q:Exit→Act→World→Prop} (hQ:∀ a w,StOk B0 w0 I0 L0 s' a w→Q .normal a w):(Code.region id ops draw).wpIn (wd ro) 0 P Q a w:=by
 unfold evRegion at h
 cases draw with
 | false=>
   simp only[Bool.false_eq_true,if_false]at h
   exact wpIn_region_L (evOps_sound ro hcf ops.toList h hs hQ)
 | true=>
   simp only[if_true]at h
   have listed0:∀(n:Nat) j,(Array.replicate n false).getD j true=false↔j<n:=by
    intro n j
    by_cases g:j<n
    ·simp[Array.getD_eq_getD_getElem?,g]
    ·simp[Array.getD_eq_getD_getElem?,g]
   split at h
   ·split at h
    ·rename_i fl s1 hD
     split at h
     ·rename_i hc
      simp at h;subst h
      obtain⟨rem,r1,r2,r3⟩:=run_of_D ops.toList 0 (fun j=>by simp) hD
      rw[r3]at hc
      have hp:=pairs_of rem hc.2
      have hlen:rem.length=ops.size:=by
       have:=congrArg List.length r2
       simpa using this
      obtain⟨hd1,hd2⟩:=drawOk_spec hc.1
      have hrm:∀ j,j∈rem.map (·.1)↔j<ops.size:=by
       intro j
       rw[r2]
       simp only[Array.length_toList,List.mem_range'_1,Nat.zero_le,Nat.zero_add,true_and]
      have hltp:(rem.map (·.1)).Pairwise (·< ·):=by rw[r2];exact List.pairwise_lt_range'
      have hlt:=List.pairwise_map.1 hltp
      have hdlt:∀ i x,i<ops.size→dEdge ops i x=true→x<i:=by
       intro i x hi hde
       simp only[dEdge,Array.getElem?_eq_getElem hi]at hde
       obtain⟨e,he,hbe⟩:=List.any_eq_true.1 hde
       simp only[Bool.and_eq_true,beq_iff_eq]at hbe
       rw[← hbe.2]
       exact hd1 i _ e (Array.getElem?_eq_getElem hi) (by simpa using he) hbe.1
      refine wpIn_region_any hm (wpAny_of_runT hcf hc.1 hQ ops.size rem _ s a _ r1 hs.drew ?_ ?_ (by simp) (by omega) ?_ hp)
      ·refine hlt.imp_of_mem (fun {x i} hx hi h=>⟨by omega,?_⟩)
       cases hde:dEdge ops x.1 i.1 with
       | false=>rfl
       | true=>
         have:=hdlt x.1 i.1 ((hrm x.1).1 (List.mem_map.2 ⟨x,hx,rfl⟩)) hde
         omega
      ·intro j
       rw[hrm,listed0]
      ·intro j y hj hjn
       exact absurd ((hrm j).2 hj) hjn
     ·simp at h
    ·simp at h
   ·rename_i p q ord
    split at h
    ·rename_i fl s1 hD
     split at h
     ·rename_i fl2 s2 hI
      split at h
      ·rename_i hc
       simp at h;subst h
       obtain⟨c1,c2,c3,c4,c5⟩:=hc
       have e12:=St.eq_of_beq c5
       subst e12
       obtain⟨rem,r1,r2,r3⟩:=run_of_D ops.toList 0 (fun j=>by simp) hD
       obtain⟨rem2,q1,q2,q3⟩:=run_of_I ord hI
       rw[r3]at c3
       rw[q3]at c4
       have hp:=pairs_ofX p q rem c3
       have hp2:=pairs_ofX q p rem2 c4
       simp only[altO,Bool.and_eq_true,decide_eq_true_eq,beq_iff_eq]at c2
       obtain⟨⟨hpq,hqlt⟩,hol,hall,hok⟩:=c2
       obtain⟨g1,g2⟩:=ordOk_spec p q ord hok
       have hmem:∀ j,j∈ord↔j<ops.size:=fun j=>⟨g1 j,fun h=>by
        have:=List.all_eq_true.1 hall j (List.mem_range.2 h)
        simpa using this⟩
       have hlen:rem.length=ops.size:=by
        have:=congrArg List.length r2
        simpa using this
       have hlen2:rem2.length=ops.size:=by
        have:=congrArg List.length q2
        simpa [hol] using this
       have hrm:∀ j,j∈rem.map (·.1)↔j<ops.size:=by
        intro j
        rw[r2]
        simp only[Array.length_toList,List.mem_range'_1,Nat.zero_le,Nat.zero_add,true_and]
       obtain⟨hd1,hd2⟩:=drawOk_spec c1
       have hltp:(rem.map (·.1)).Pairwise (·< ·):=by rw[r2];exact List.pairwise_lt_range'
       have hlt:=List.pairwise_map.1 hltp
       have hdlt:∀ i x,i<ops.size→dEdge ops i x=true→x<i:=by
        intro i x hi hde
        simp only[dEdge,Array.getElem?_eq_getElem hi]at hde
        obtain⟨e,he,hbe⟩:=List.any_eq_true.1 hde
        simp only[Bool.and_eq_true,beq_iff_eq]at hbe
        rw[← hbe.2]
        exact hd1 i _ e (Array.getElem?_eq_getElem hi) (by simpa using he) hbe.1
       have hord1:rem.Pairwise (fun x i=>x.1≠i.1∧dEdge ops x.1 i.1=false):=by
        refine hlt.imp_of_mem (fun {x i} hx hi h=>⟨by omega,?_⟩)
        cases hde:dEdge ops x.1 i.1 with
        | false=>rfl
        | true=>
          have:=hdlt x.1 i.1 ((hrm x.1).1 (List.mem_map.2 ⟨x,hx,rfl⟩)) hde
          omega
       have g2':(rem2.map (·.1)).Pairwise (fun x i=>(x≠i∧dEdge ops x i=false)∧¬ (x=p∧i=q)):=by rw[q2];exact g2
       have g3:=List.pairwise_map.1 g2'
       refine wpIn_region_any hm (wpAny_of_two hcf c1 hQ p q (by omega) ops.size rem rem2 _ s a _ r1 q1 hs.drew hord1 (g3.imp (fun h=>h.1)) ?_ ?_ (by simp) (by omega) (by omega) ?_ ((hrm p).2 (by omega)) ((hrm q).2 hqlt) ?_ (g3.imp (fun h=>h.2)) hp hp2)
       ·intro j
        rw[hrm,listed0]
       ·intro j
        rw[hrm,q2,hmem]
       ·intro j y hj hjn
        exact absurd ((hrm j).2 hj) hjn
       ·refine hlt.imp (fun {x i} h e=>?_)
        omega
      ·simp at h
     ·simp at h
    ·simp at h
end Go.Ev
