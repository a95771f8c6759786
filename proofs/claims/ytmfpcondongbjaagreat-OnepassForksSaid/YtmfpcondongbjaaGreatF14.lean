/- Functions of the program, each with what it computes; no further conditions. -/
import Derived.Test.YtmfpcondongbjaaGreatF07
import Derived.Test.YtmfpcondongbjaaGreatF08
import Derived.Test.YtmfpcondongbjaaGreatF13
import Derived.Test.YtmfpcondongbjaaGreatF11
import Derived.Test.YtmfpcondongbjaaGreatF10
import Derived.Shelf.SlLaysF0
import Derived.Shelf.SlLaysF
import Derived.Test.YtmfpcondongbjaaGreatProg
import Derived.Shelf.SlSortCmp.NoneTotal
import Derived.Shelf.SlSortCmp.Whole1
set_option linter.unusedVariables false
set_option linter.unusedSimpArgs false
namespace Go.Ev
attribute [local go_sem] evBin List.length_append List.map_append
section
attribute [local go_sem] evAppend evBuild splice tySzE List.head?_drop Nat.mul_one sameAt_zero sameAt_two sameAt_three sameAt_four sameAt_five room_ok
open Go.Proofs Go.RowKit Go.IntWalk
set_option maxRecDepth 100000
set_option maxHeartbeats 8000000
theorem f140 (a:Int) (H:List MB):call Tryz.prog pol1 140 [I a] H=some (.bool false,H):=by
 refine call_run Tryz.func140 rfl rfl rfl rfl rfl rfl (fun _=>rfl) (by simp[AV.plain,AV.plainL,plain_ints,plain_span,plain_ins,plain_prg]) (by simp[AV.plain,AV.plainL,plain_ints,plain_span,plain_ins,plain_prg]) ?_ H
 simp +contextual (disch:=omega) only[Tryz.f140,dd140,go_sem,simprocAttr,mu140,↓wrap_up,↓wrap_down,↓wrap_pred,↓wrap_sub_nat]
 exact fzEq rfl (by simp)
theorem f108 (a b:Int) (H:List MB):call Tryz.prog pol1 108 [I a,I b] H=some (I (cmpI a b),H):=by
 have h1:=f140 a
 have h2:=f140 b
 refine call_run Tryz.func108 rfl rfl rfl rfl rfl rfl (fun _=>rfl) (by simp[AV.plain,AV.plainL,plain_ints,plain_span,plain_ins,plain_prg]) (by simp[AV.plain,AV.plainL,plain_ints,plain_span,plain_ins,plain_prg]) ?_ H
 unfold cmpI
 simp +contextual (disch:=omega) only[Tryz.f108,dd108,go_sem,simprocAttr,mu108,↓wrap_up,↓wrap_down,↓wrap_pred,↓wrap_sub_nat,h1,h2]
 exact⟨fun h=>fzEq rfl rfl,fun h=>⟨fun h=>fzEq rfl rfl,fun h=>fzEq rfl rfl⟩⟩
theorem f107 (p q:Int×Int) (H:List MB):call Tryz.prog pol1 107 [spanAV p,spanAV q] H=some (I (cmpI p.1 q.1),H):=by
 have h1:=f108 p.1 q.1
 refine call_run Tryz.func107 rfl rfl rfl rfl rfl rfl (fun _=>rfl) (by simp[AV.plain,AV.plainL,plain_ints,plain_span,plain_ins,plain_prg]) (by simp[AV.plain,AV.plainL,plain_ints,plain_span,plain_ins,plain_prg]) ?_ H
 simp +contextual (disch:=omega) only[Tryz.f107,dd107,go_sem,simprocAttr,mu107,↓wrap_up,↓wrap_down,↓wrap_pred,↓wrap_sub_nat,h1]
 exact fzEq rfl rfl
theorem f74 (i:Ins) (H:List MB):call Tryz.prog pol1 74 [insAV i] H=some (.bool (i.op == 5),H):=by
 refine call_run Tryz.func74 rfl rfl rfl rfl rfl rfl (fun _=>rfl) (by simp[AV.plain,AV.plainL,plain_ints,plain_span,plain_ins,plain_prg]) (by simp[AV.plain,AV.plainL,plain_ints,plain_span,plain_ins,plain_prg]) ?_ H
 simp +contextual (disch:=omega) only[Tryz.f74,dd74,go_sem,simprocAttr,mu74,↓wrap_up,↓wrap_down,↓wrap_pred,↓wrap_sub_nat]
 exact fzEq rfl rfl
theorem f77 (n:Int) (H:List MB):call Tryz.prog pol1 77 [I n] H=some (.bool true,H):=by
 refine call_run Tryz.func77 rfl rfl rfl rfl rfl rfl (fun _=>rfl) (by simp[AV.plain,AV.plainL,plain_ints,plain_span,plain_ins,plain_prg]) (by simp[AV.plain,AV.plainL,plain_ints,plain_span,plain_ins,plain_prg]) ?_ H
 simp +contextual (disch:=omega) only[Tryz.f77,dd77,go_sem,simprocAttr,mu77,↓wrap_up,↓wrap_down,↓wrap_pred,↓wrap_sub_nat]
 exact fzEq rfl rfl
theorem f104 (l:List Ins) (hl:l.length≤1000000):∃ n:Int,(n ≥ 0↔l.any (fun i=>i.op == 5)=true)∧∀ H,call Tryz.prog pol1 104 [.sl false (l.map insAV),.clo 74 []] H=some (I n,H):=by
 have hx:∃ r:AV,(∃ n:Int,r=I n∧(n ≥ 0↔l.any (fun i=>i.op == 5)=true))∧∀ H,call Tryz.prog pol1 104 [.sl false (l.map insAV),.clo 74 []] H=some (r,H):=by
  refine call_runA Tryz.func104 rfl rfl rfl rfl rfl rfl (fun _=>rfl) (by simp[AV.plain,AV.plainL,plain_ints,plain_span,plain_ins,plain_prg]) ?_ ?_
  ·rintro r ⟨n,rfl,_⟩;rfl
  ·simp +contextual (disch:=omega) only[Tryz.f104,dd104,go_sem,simprocAttr,mu104,↓wrap_up,↓wrap_down,↓wrap_pred,↓wrap_sub_nat]
   refine W_count (M:=(mskOf (pol1.mask 104) (pol1.gc 104) (pol1.acts 104) 0 2)) rfl l.length (fun i=>(⟨19,[(8,I i),(7,I l.length),(1,.clo 74 []),(0,.sl false (l.map insAV))],[]⟩:St)) (fun i=>∀ k p,k < i→l[k]?=some p→p.op≠5) ?_ ?_ (fun k p h=>by omega) _ (by first|rfl|(refine prep_cut rfl (by rfl) (by rfl) (by rfl) ?_ ?_<;>simp[AV.underL,AV.under,MB.under,underL_plain,under_plain,plain_ints,plain_span,plain_ins,plain_prg,-List.map_take]))
   ·intro i hi hg
    obtain⟨p,hp⟩:∃ p,l[i]?=some p:=⟨_,List.getElem?_eq_getElem hi⟩
    have hf:=f74 p
    have hp':(l.map insAV)[i]?=some (insAV p):=by simp[hp]
    by_cases h5:p.op=5
    ·have:l.any (fun i=>i.op == 5)=true:=List.any_eq_true.2 ⟨p,List.mem_of_getElem? hp,by simp[h5]⟩
     rw[h5]at hf
     simp +contextual (disch:=omega) only[Tryz.f104,dd104,go_sem,simprocAttr,mu104,↓wrap_up,↓wrap_down,↓wrap_pred,↓wrap_sub_nat,hp',hf]
     exact⟨_,⟨_,rfl,by simp[this]⟩,_,fz_plain _ rfl⟩
    ·have h5':(p.op == 5)=false:=by simp[h5]
     rw[h5']at hf
     simp +contextual (disch:=omega) only[Tryz.f104,dd104,go_sem,simprocAttr,mu104,↓wrap_up,↓wrap_down,↓wrap_pred,↓wrap_sub_nat,hp',hf]
     refine⟨fun k q hk hq=>?_,(by first|rfl|(refine prep_cut rfl (by rfl) (by rfl) (by rfl) ?_ ?_<;>simp[AV.underL,AV.under,MB.under,underL_plain,under_plain,plain_ints,plain_span,plain_ins,plain_prg,-List.map_take]))⟩
     rcases Nat.lt_succ_iff_lt_or_eq.1 hk with h|rfl
     ·exact hg k q h hq
     ·rw[hp]at hq;cases hq;exact h5
   ·intro hg
    have:l.any (fun i=>i.op == 5)=false:=by
     rw[List.any_eq_false]
     intro p hp
     obtain⟨k,hk,e⟩:=List.getElem_of_mem hp
     have:=hg k p hk (by rw[← e];exact List.getElem?_eq_getElem hk)
     simp[this]
    simp +contextual (disch:=omega) only[Tryz.f104,dd104,go_sem,simprocAttr,mu104,↓wrap_up,↓wrap_down,↓wrap_pred,↓wrap_sub_nat]
    exact⟨_,⟨_,rfl,by simp[this]⟩,_,fz_plain _ rfl⟩
 obtain⟨r,⟨n,rfl,h1⟩,h2⟩:=hx
 exact⟨n,h1,h2⟩
theorem f73 (l:List Ins) (hl:l.length≤1000000) (H:List MB):call Tryz.prog pol1 73 [.sl false (l.map insAV),.clo 74 []] H=some (.bool (l.any (fun i=>i.op == 5)),H):=by
 obtain⟨n,h1,h2⟩:=f104 l hl
 refine call_run Tryz.func73 rfl rfl rfl rfl rfl rfl (fun _=>rfl) (by simp[AV.plain,AV.plainL,plain_ins]) (by simp[AV.plain]) ?_ H
 simp +contextual (disch:=omega) only[Tryz.f73,dd73,go_sem,simprocAttr,mu73,↓wrap_up,↓wrap_down,↓wrap_pred,↓wrap_sub_nat,h2]
 refine fzEq rfl ?_
 cases hb:l.any (fun i=>i.op == 5) with
 | true=>simp[h1.2 hb]
 | false=>
   have:¬ n ≥ 0:=fun e=>by rw[h1.1 e]at hb;cases hb
   simp[this]
def acceptG (g:Prg):Int:=if validG g≠0 then validG g else if g.ins.any (fun i=>i.op == 5) then 10 else 0
theorem f35 (g:Prg) (hb:PrgB g) (H:List MB):call Tryz.prog pol1 35 [prgAV g] H=some (I (acceptG g),H):=by
 have hv:=f30 g hb
 obtain⟨hl,hs⟩:=hb
 have hc:=f73 g.ins hl
 refine call_run Tryz.func35 rfl rfl rfl rfl rfl rfl (fun _=>rfl) (by simp[AV.plain,AV.plainL,plain_ints,plain_span,plain_ins,plain_prg]) (by simp[AV.plain,AV.plainL,plain_ints,plain_span,plain_ins,plain_prg]) ?_ H
 unfold acceptG
 by_cases h1:validG g=0
 ·rw[h1]at hv
  rw[if_neg (by simp[h1])]
  cases hb:g.ins.any (fun i=>i.op == 5)<;>rw[hb]at hc
  ·simp +contextual (disch:=omega) only[Tryz.f35,dd35,go_sem,simprocAttr,mu35,↓wrap_up,↓wrap_down,↓wrap_pred,↓wrap_sub_nat,hv,hc]
   exact fzEq rfl rfl
  ·simp +contextual (disch:=omega) only[Tryz.f35,dd35,go_sem,simprocAttr,mu35,↓wrap_up,↓wrap_down,↓wrap_pred,↓wrap_sub_nat,hv,hc]
   exact fzEq rfl rfl
 ·rw[if_pos h1]
  simp +contextual (disch:=omega) only[Tryz.f35,dd35,go_sem,simprocAttr,mu35,↓wrap_up,↓wrap_down,↓wrap_pred,↓wrap_sub_nat,hv]
  exact fzEq rfl rfl
end
section
attribute [local go_sem] evAppend evBuild splice tySzE List.head?_drop Nat.mul_one sameAt_zero sameAt_two sameAt_three sameAt_four sameAt_five room_ok
open Go.Proofs Go.RowKit Go.IntWalk
set_option maxRecDepth 100000
set_option maxHeartbeats 8000000
abbrev NV (n:Nat):AV:=I (n:Int)
theorem plain_nv (l:List Nat):AV.plainL (l.map NV)=true:=by
 induction l with
 | nil=>rfl
 | cons a l ih=>simp[AV.plainL,ih];rfl
theorem plain_bools (l:List Bool):AV.plainL (l.map AV.bool)=true:=by
 induction l with
 | nil=>rfl
 | cons a l ih=>simp[AV.plainL,ih];rfl
theorem keptOk_same (n:Nat):∀ K:List MB,keptOk n K K=true
 | []=>rfl
 | x::K=>by simp[keptOk,MB.beq_refl,keptOk_same n K]
theorem keptOk_app (n:Nat) (G:List MB):∀ K:List MB,keptOk n K (K++G)=true
 | []=>by cases G<;>rfl
 | x::K=>by simp[keptOk,MB.beq_refl,keptOk_app n G K]
theorem f76 (l:List Ins) (st:Nat) (f:Nat) (cs:List AV) (H:List MB):call Tryz.prog pol1 76 [.sl false (l.map insAV),NV st,.clo f cs] H =
  some (.clo 111 [.rf (H.length+1) 1 0 0,.rf (H.length+2) 1 0 0,.rf H.length 1 0 0],H++[.row 1 [.sl false (l.map insAV)] 0,.row 1 [NV st] 0,.row 1 [.clo f cs] 0]):=by
 refine call_run2 (pol:=pol1) Tryz.func76 rfl rfl rfl rfl (frzArgs_mix H _ 0 (by
  have h1:AV.plain (.sl false (l.map insAV))=true:=by simp[AV.plain,plain_ins]
  have h2:pol1.byref 76 2=true:=by kernel_rfl
  have h3:AV.plain (NV st)=true:=rfl
  simp[mixOk,h1,h2,h3])) ?_
 simp +contextual (disch:=omega) only[Tryz.f76,dd76,go_sem,simprocAttr,mu76,↓wrap_up,↓wrap_down,↓wrap_pred,↓wrap_sub_nat,List.append_assoc,List.length_append]
 rfl
abbrev enH (b0:MB) (came:List Bool) (fk:Bool) (N:Nat) (K:List MB):List MB:=b0::.row 1 (came.map AV.bool) 0::.row 1 [.ms 1 1 N 0 N] 0::.row 1 [.bool fk] 0::K
theorem f105 (b0:MB) (came:List Bool) (fk:Bool) (a:Nat) (c:Bool) (K:List MB) (ha:came[a]?=some c) :
  call Tryz.prog pol1 105 [NV a,.rf 3 1 0 0,.rf 2 1 0 0] (enH b0 came fk came.length K)=some (.bool (!(fk || c)),enH b0 (came.set a true) (fk || c) came.length K):=by
 have hlt:a < came.length:=(List.getElem?_eq_some_iff.1 ha).1
 have hg:(came.map AV.bool)[a]?=some (.bool c):=by simp[ha]
 have hset:((came.map AV.bool).set a (.bool true))=(came.set a true).map AV.bool:=by rw[List.map_set]
 have hp:=fun n=>underL_plain n _ (plain_bools (came.set a true))
 refine call_run2 (pol:=pol1) Tryz.func105 rfl rfl rfl rfl (frzArgs_mix _ _ 0 rfl) ?_
 cases fk
 ·simp +contextual (disch:=omega) only[Tryz.f105,dd105,go_sem,simprocAttr,mu105,↓wrap_up,↓wrap_down,↓wrap_pred,↓wrap_sub_nat,hg,hset]
  refine retPol_keep rfl rfl rfl ?_ ?_
  ·simp[-List.map_set,keptOk,MB.beq_refl,MB.under,AV.underL,AV.under,hp,keptOk_same]
  ·simp
 ·simp +contextual (disch:=omega) only[Tryz.f105,dd105,go_sem,simprocAttr,mu105,↓wrap_up,↓wrap_down,↓wrap_pred,↓wrap_sub_nat,hg,hset]
  refine retPol_keep rfl rfl rfl ?_ ?_
  ·simp[-List.map_set,keptOk,MB.beq_refl,MB.under,AV.underL,AV.under,hp,keptOk_same]
  ·simp
abbrev Stk:=List (Nat×List Bool)
abbrev wayAV (w:Nat×List Bool):AV:=.agg (NV w.1::w.2.map AV.bool)
def runS {σ:Type} (ins:List Ins) (en:σ→Nat→Bool×σ) (yi:σ→Nat→List Bool→Bool×σ):Nat→Stk→σ→Option σ
 | _,[],s=>some s
 | 0,_::_,_=>none
 | k+1,(a,m)::st,s=>
   match (en s a).1 with
   | false=>some (en s a).2
   | true=>
     match ins[a]? with
     | none=>none
     | some i=>
       if i.op=2 then runS ins en yi k ((i.x.toNat,m)::(i.y.toNat,m)::st) (en s a).2
       else if i.op=3 then runS ins en yi k ((i.x.toNat,m)::st) (en s a).2
       else if i.op=4 then runS ins en yi k ((a+1,m.set i.n.toNat true)::st) (en s a).2
       else if i.op=1∨i.op=0 then
        match (yi (en s a).2 a m).1 with
        | true=>runS ins en yi k st (yi (en s a).2 a m).2
        | false=>some (yi (en s a).2 a m).2
       else runS ins en yi k st (en s a).2
def LeadsR (ins:List Ins):Prop:=∀ n i,ins[n]?=some i→(i.op=2∨i.op=3→0≤i.x∧i.x.toNat < ins.length)∧(i.op=2→0≤i.y∧i.y.toNat < ins.length)∧(i.op=4→n+1 < ins.length∧0≤i.n∧i.n < 18)
def StkOk (ins:List Ins) (st:Stk):Prop:=∀ w∈st,w.1 < ins.length∧w.2.length=18
abbrev m0S:List Bool:=List.replicate 18 false
theorem bld195a (n:Int):evBuild Tryz.prog 195 [(0,I n)]=some (.agg (I n::m0S.map AV.bool)):=by
 simp[evBuild,ty195,fillC,splice,AV.cells,AV.ok]
theorem bld195b (n:Int) (m:List Bool) (hm:m.length=18):evBuild Tryz.prog 195 [(0,I n),(1,.agg (m.map AV.bool))]=some (.agg (I n::m.map AV.bool)):=by
 have h1:(m.map AV.bool).all AV.ok=true:=by simp[AV.ok]
 have h2:∀ z:List AV,z.length=18→(I n::z).take 1++(m.map AV.bool++(I n::z).drop (1+(m.map AV.bool).length))=I n::m.map AV.bool:=by
  intro z hz
  simp[hm,hz]
 simp[evBuild,ty195,fillC,splice,AV.cells,AV.ok,hm]
theorem kept_under (n:Nat):∀(xs ys:List MB),(∀ y∈ys.take xs.length,MB.under n y=true)→keptOk n xs ys=true
 | [],ys,_=>by cases ys<;>rfl
 | x::xs,[],_=>rfl
 | x::xs,y::ys,h=>by
   simp only[keptOk,h y (by simp),Bool.true_or,Bool.true_and]
   exact kept_under n xs ys (fun z hz=>h z (by simp[hz]))
theorem evAppend_mid {H:List MB} {sT xT e k by_ id:Nat} {ze x:AV} {xs js ys:List AV} (he:tyElem Tryz.prog sT=some e) (hxT:tyNotInt Tryz.prog xT=true) (hk:tySz Tryz.prog e=some k) (hby:tyBytes Tryz.prog e=some by_) (hze:tyZero Tryz.prog e=some ze) (hzl:ze.cells.length=k) (hk0:0 < k)
  (hs:srcElems Tryz.prog H e x=some ys) (hw:ys.all (fun y=>decide (y.cells.length=k) && y.cells.all AV.ok)=true) (hy:ys≠[]) (hr:getRow H id=some (k,xs++js,0)) (hroom:roomFor (xs.length+ys.length) by_=true) :
  evAppend Tryz.prog H sT xT (.ms id k (xs.length+js.length) 0 xs.length) x =
   some (.ms id k (xs.length+ys.length+(js.drop ys.length).length) 0 (xs.length+ys.length),H.set id (.row k (xs++(ys++js.drop ys.length)) 0)):=by
 unfold evAppend
 simp only[he,hxT,hk,hby,hze,hs]
 rw[if_pos ⟨hw,hk0,hzl⟩]
 simp only[hr]
 rw[if_pos ⟨by simp,trivial,trivial,by omega⟩]
 cases ys with
 | nil=>exact absurd rfl hy
 | cons y ys=>
   rw[if_pos ⟨by omega,hroom⟩]
   have ht:(xs++js).take (0+xs.length)=xs:=by simp
   rw[ht]
   by_cases hc:0+xs.length+(y::ys).length≤xs.length+js.length
   ·rw[if_pos hc]
    have h1:(xs++js).drop (0+xs.length+(y::ys).length)=js.drop (y::ys).length:=by
     rw[Nat.zero_add,List.drop_append]
     simp
    rw[h1]
    have h2:xs.length+(y::ys).length+(js.drop (y::ys).length).length=xs.length+js.length:=by
     simp only[List.length_drop];omega
    rw[h2]
   ·rw[if_neg hc]
    have h1:js.drop (y::ys).length=[]:=List.drop_eq_nil_of_le (by omega)
    rw[h1]
    simp
end
section
attribute [local go_sem] tySzE List.head?_drop Nat.mul_one sameAt_zero sameAt_two sameAt_three sameAt_four sameAt_five room_ok
open Go.Proofs Go.RowKit Go.IntWalk
set_option maxRecDepth 100000
set_option maxHeartbeats 16000000
theorem take18 (m:List Bool) (h:m.length=18):(m.map AV.bool).take 18=m.map AV.bool:=List.take_of_length_le (by simp[h])
theorem ok_bools (m:List Bool):(m.map AV.bool).all AV.ok=true:=by simp[AV.ok]
theorem m0S_len:m0S.length=18:=rfl
theorem splM (x:AV) (m:List Bool) (n:Nat) (hn:n < m.length):splice (x::m.map AV.bool) (1+n) [.bool true]=x::(m.set n true).map AV.bool:=by
 unfold splice
 rw[List.map_set,List.set_eq_take_append_cons_drop,if_pos (by simpa using hn)]
 simp only[List.length_cons,List.length_nil]
 rw[show 1+n=n+1 by omega,List.take_succ_cons,show n+1+(0+1)=(n+1)+1 by omega,List.drop_succ_cons]
 rfl
theorem spl19 (c0 c1 c2 c3 c4 c5 c6 c7 c8 c9 c10 c11 c12 c13 c14 c15 c16 c17 c18 x:AV) (m:List Bool) (hm:m.length=18):splice [c0,c1,c2,c3,c4,c5,c6,c7,c8,c9,c10,c11,c12,c13,c14,c15,c16,c17,c18] 0 (x::m.map AV.bool)=x::m.map AV.bool:=by
 simp[splice,hm]
theorem spl5 (a b c d e a' b' c' d' e':AV):splice [a,b,c,d,e] 0 [a',b',c',d',e']=[a',b',c',d',e']:=rfl
theorem plain_way (w:Nat×List Bool) (n:Nat):AV.under n (wayAV w)=true:=by
 have:=underL_plain n _ (plain_bools w.2)
 simp[AV.under,AV.underL,this]
theorem under_ways (n:Nat) (l:List (Nat×List Bool)):AV.underL n (l.map wayAV)=true:=by
 induction l with
 | nil=>rfl
 | cons a l ih=>simp only[List.map_cons,AV.underL,plain_way a n,ih,Bool.and_self]
abbrev wayI (w:Int×List Bool):AV:=.agg (I w.1::w.2.map AV.bool)
theorem prep_it {N n:Nat} {A G:List MB} {E:List AV} {t t':Tm} (hN:A.length=N) (hu:A.all (MB.under (N+1))=true) (hk:keepT (some [5,3,2,0]) t=t') (ht:AV.underL (N+1) (t'.map (·.2))=true) (hE:AV.underL (N+1) E=true) :
  prep ⟨some [5,3,2,0],some (N+1),[]⟩ ⟨n,t,A++(.row 19 E 0::G)⟩=⟨n,t',A++[.row 19 E 0]⟩:=by
 refine prep_cut rfl rfl hk ?_ ht ?_
 ·rw[List.take_append,hN,List.take_of_length_le (by omega)]
  simp[Nat.add_sub_cancel_left]
 ·simp[hu,MB.under,hE]
theorem f111 {σ:Type} (hp:σ→List MB) (Pr:Nat→σ→Prop) (ins:List Ins) (N iY iS iE iI fe st0:Nat) (cs:List AV) (en:σ→Nat→Bool×σ) (yi:σ→Nat→List Bool→Bool×σ)
  (hN:∀ s,(hp s).length=N) (hu:∀ s n,N≤n→(hp s).all (MB.under n)=true) (hfe:(fe=1000000000)=False) (hl:ins.length≤10000) (hst:st0 < ins.length) (hw:LeadsR ins)
  (hS:∀ s,(hp s)[iS]?=some (.row 1 [NV st0] 0)) (hE:∀ s,(hp s)[iE]?=some (.row 1 [.clo fe cs] 0)) (hI:∀ s,(hp s)[iI]?=some (.row 1 [.sl false (ins.map insAV)] 0)) (hY:iY < N)
  (he:∀ f s a K,Pr (f+1) s→a < ins.length→call Tryz.prog pol1 fe (NV a::cs) (hp s++K)=some (.bool (en s a).1,hp (en s a).2++K))
  (hy:∀ f s a m K,Pr (f+1) s→a < ins.length→m.length=18→∃ G,call Tryz.prog pol1 1000000000 [.yld iY,NV a,.agg (m.map AV.bool)] (hp s++K)=some (.bool (yi s a m).1,hp (yi s a m).2++(K++G)))
  (hPe:∀ f s a,Pr (f+1) s→a < ins.length→Pr (f+1) (en s a).2) (hPy:∀ f s a m,Pr (f+1) s→m.length=18→(yi s a m).1=true→Pr f (yi s a m).2) (hPm:∀ f s,Pr (f+1) s→Pr f s) :
  ∀ k s s',Pr k s→k≤100000→runS ins en yi k [(st0,m0S)] s=some s'→call Tryz.prog pol1 111 [.yld iY,.rf iS 1 0 0,.rf iE 1 0 0,.rf iI 1 0 0] (hp s)=some (.tup [],hp s'):=by
 intro k s s' hP hk hrun
 have gS:∀ s B,(hp s++B)[iS]?=some (.row 1 [NV st0] 0):=fun s B=>by rw[List.getElem?_append_left (List.getElem?_eq_some_iff.1 (hS s)).1];exact hS s
 have gE:∀ s B,(hp s++B)[iE]?=some (.row 1 [.clo fe cs] 0):=fun s B=>by rw[List.getElem?_append_left (List.getElem?_eq_some_iff.1 (hE s)).1];exact hE s
 have gI:∀ s B,(hp s++B)[iI]?=some (.row 1 [.sl false (ins.map insAV)] 0):=fun s B=>by rw[List.getElem?_append_left (List.getElem?_eq_some_iff.1 (hI s)).1];exact hI s
 have g0:∀ s B,(hp s++B)[N]?=B[0]?:=fun s B=>by rw[List.getElem?_append_right (by rw[hN];exact Nat.le_refl _),hN,Nat.sub_self]
 have g1:∀ s B,(hp s++B)[N+1]?=B[1]?:=fun s B=>by rw[List.getElem?_append_right (by rw[hN];omega),hN];congr 1;omega
 have g2:∀ s B,(hp s++B)[N+2]?=B[2]?:=fun s B=>by rw[List.getElem?_append_right (by rw[hN];omega),hN];congr 1;omega
 have z1:∀ s B v,(hp s++B).set (N+1) v=hp s++B.set 1 v:=fun s B v=>by rw[List.set_append_right _ _ (by rw[hN];omega),hN];congr 2;omega
 have z2:∀ s B v,(hp s++B).set (N+2) v=hp s++B.set 2 v:=fun s B v=>by rw[List.set_append_right _ _ (by rw[hN];omega),hN];congr 2;omega
 have hlen:∀ s,(hp s).length=N:=hN
 have gS0:=hS s
 have bI:iI < N:=by rw[← hN s];exact(List.getElem?_eq_some_iff.1 (hI s)).1
 have bE:iE < N:=by rw[← hN s];exact(List.getElem?_eq_some_iff.1 (hE s)).1
 have hend:∀ s1 G,retPol pol1 111 (hp s) (.tup []) (hp s1++G)=some (.tup [],hp s1):=fun s1 G=>by
  refine retPol_keep rfl rfl rfl (kept_under _ _ _ fun y hy=>?_) (by rw[hN,← hN s1];exact List.take_left' rfl)
  rw[hN,← hN s1,List.take_left' rfl]at hy
  have:=List.all_eq_true.1 (hu s1 _ (Nat.le_refl _)) y hy
  rwa [hN]
 refine call_run2 (pol:=pol1) Tryz.func111 rfl rfl rfl rfl (frzArgs_mix _ _ 0 rfl) ?_
 have b1:=bld195a (st0:Int)
 simp +contextual (disch:=omega) only[Tryz.f111,dd111,go_sem,simprocAttr,evAppend,splice,mu111,↓wrap_up,↓wrap_down,↓wrap_pred,↓wrap_sub_nat,gS0,b1,hlen,m0S_len,ok_bools]
 have fin:∀(stk2:Stk) (js2 E2:List AV) (s3:σ) (G:List MB) (t:Tm),E2=stk2.reverse.map wayAV++js2→(∀ n,AV.underL n js2=true) →
   keepT (some [5,3,2,0]) t=[(5,.ms N 19 (stk2.length+js2.length) 0 stk2.length),(3,.rf iI 1 0 0),(2,.rf iE 1 0 0),(0,.yld iY)] →
   prep ⟨some [5,3,2,0],some (N+1),[]⟩ ⟨87,t,hp s3++(.row 19 E2 0::G)⟩=⟨87,[(5,.ms N 19 (stk2.length+js2.length) 0 stk2.length),(3,.rf iI 1 0 0),(2,.rf iE 1 0 0),(0,.yld iY)],hp s3++[.row 19 (stk2.reverse.map wayAV++js2) 0]⟩:=by
  intro stk2 js2 E2 s3 G t hE2 hj ht
  subst hE2
  exact prep_it (hN s3) (hu s3 _ (Nat.le_succ _)) ht (by simp[AV.underL,AV.under];omega) (by rw[underL_append,under_ways,hj];rfl)
 have hdr:∀(js:List AV) (k:Nat),(∀ n,AV.underL n js=true)→∀ n,AV.underL n (js.drop k)=true:=fun js k h n=>by
  rw[underL_iff]
  intro c hc
  exact(underL_iff n js).1 (h n) c (List.mem_of_mem_drop hc)
 refine W_for (σ:=(Nat×List AV)×(Stk×σ)) (M:=⟨some [5,3,2,0],some (N+1),[]⟩) (by rfl) (fun x=>(⟨87,[(5,.ms N 19 (x.2.1.length+x.1.2.length) 0 x.2.1.length),(3,.rf iI 1 0 0),(2,.rf iE 1 0 0),(0,.yld iY)],hp x.2.2++[.row 19 (x.2.1.reverse.map wayAV++x.1.2) 0]⟩:St))
  (fun x=>StkOk ins x.2.1∧Pr x.1.1 x.2.2∧(∀ n,AV.underL n x.1.2=true)∧x.2.1.length+x.1.1≤200002∧runS ins en yi x.1.1 x.2.1 x.2.2=some s') (fun x=>x.1.1) ((k,[]),([(st0,m0S)],s)) ?_ ?_ _ ?_
 ·rintro⟨⟨f,js⟩,stk,s1⟩ ⟨hk1,hP1,hju,hf,hr⟩
  simp only at hk1 hP1 hju hf hr ⊢
  cases stk with
  | nil=>
    have e:s1=s':=by cases f<;>simpa [runS] using hr
    subst e
    simp +contextual (disch:=omega) only[Tryz.f111,dd111,go_sem,simprocAttr,evAppend,evBuild,splice,mu111,↓wrap_up,↓wrap_down,↓wrap_pred,↓wrap_sub_nat,hlen]
    exact hend _ _
  | cons w rest=>
    obtain⟨a,m⟩:=w
    obtain⟨ha,hm⟩:=hk1 (a,m) (List.mem_cons_self ..)
    simp only at ha hm
    have hA:(rest.reverse.map wayAV).length=rest.length:=by simp
    simp only[List.reverse_cons,List.map_append,List.map_cons,List.map_nil,List.append_assoc,List.cons_append,List.nil_append,List.length_cons]
    generalize hAe:rest.reverse.map wayAV=A at hA
    have hget:(A++wayAV (a,m)::js)[rest.length]?=some (wayAV (a,m)):=by rw[List.getElem?_append_right (by omega),hA,Nat.sub_self];rfl
    have hw1:IntKind.i64.wrap (((rest.length+1:Nat):Int) - 1)=(rest.length:Nat):=by
     simp only[List.length_cons]at hf
     rw[i64_in]<;>omega
    have hw2:((rest.length:Int) < ((rest.length+1:Nat):Int))=True:=eq_true (by omega)
    have hw3:((rest.length:Int)≤((rest.length+1:Nat):Int))=True:=eq_true (by omega)
    have hw4:((0:Int) < ((rest.length+1:Nat):Int))=True:=eq_true (by omega)
    have hAl:(A.length+(js.length+1)=rest.length+1+js.length)=True:=by rw[hA];simp;omega
    obtain⟨i,hi⟩:∃ i,ins[a]?=some i:=⟨_,List.getElem?_eq_getElem ha⟩
    have hi':(ins.map insAV)[a]?=some (insAV i):=by simp[hi]
    have t18:=take18 m hm
    cases f with
    | zero=>simp[runS]at hr
    | succ f=>
    have he1:=fun K=>he f s1 a K hP1 ha
    simp only[runS]at hr
    cases hen:(en s1 a).1 with
    | false=>
      rw[hen]at hr he1
      simp only[Option.some.injEq]at hr
      subst hr
      simp +contextual (disch:=omega) only[Tryz.f111,dd111,go_sem,simprocAttr,evAppend,evBuild,splice,mu111,↓wrap_up,↓wrap_down,↓wrap_pred,↓wrap_sub_nat,hlen,hget,hw1,hw2,hw3,hw4,hAl,nonneg_nat,he1,g0,g1,g2,z1,z2,ok_bools,gE,gI,hfe,hm,t18,List.append_assoc,List.length_append]
      exact hend _ _
    | true=>
      rw[hen]at hr he1
      simp only[hi]at hr
      have hP2:=hPe f s1 a hP1 ha
      generalize (en s1 a).2=s2 at hr he1 hP2
      have happ:∀(K:List MB) (t:Bool) (ys:List (Int×List Bool)),ys≠[]→ys.length≤2→(∀ w∈ys,w.2.length=18) →
        evAppend Tryz.prog (hp s2++.row 19 (A++wayAV (a,m)::js) 0::K) 196 196 (.ms N 19 (rest.length+1+js.length) 0 rest.length) (.sl t (ys.map wayI)) =
         some (.ms N 19 (rest.length+ys.length+(js.drop (ys.length - 1)).length) 0 (rest.length+ys.length),hp s2++.row 19 (A++(ys.map wayI++js.drop (ys.length - 1))) 0::K):=by
       intro K t ys hy hy2 hy3
       have hdrop:∀ n,0 < n→(wayAV (a,m)::js).drop n=js.drop (n - 1):=fun n hn=>by cases n with
        | zero=>omega
        | succ n=>rfl
       have hyl:0 < ys.length:=List.length_pos_iff.2 hy
       have h1:=evAppend_mid (H:=hp s2++.row 19 (A++wayAV (a,m)::js) 0::K) (sT:=196) (xT:=196) (x:=.sl t (ys.map wayI)) (ys:=ys.map wayI) (xs:=A) (js:=wayAV (a,m)::js) (id:=N) (e:=195) (by kernel_rfl) (by kernel_rfl) (k:=19) (by kernel_rfl) (by_:=32) (by kernel_rfl) (ze:=.agg (I 0::m0S.map AV.bool)) (by kernel_rfl) rfl (by omega) rfl
        (by
          rw[List.all_eq_true]
          intro y hy
          obtain⟨w,hw,rfl⟩:=List.mem_map.1 hy
          simp[AV.cells,AV.ok,hy3 w hw]) (by simpa using hy) (by simp only[getRow,g0];rfl) (room_ok (by simp only[List.length_map];simp only[List.length_cons]at hf;omega) (by omega))
       simp only[List.length_map,hA,hdrop _ hyl,List.length_cons]at h1
       rw[show rest.length+1+js.length=rest.length+(js.length+1) by omega,h1]
       rw[List.set_append_right _ _ (by rw[hN];exact Nat.le_refl _),hN,Nat.sub_self]
       rfl
      by_cases h2:i.op=2
      ·obtain⟨x0,x1⟩:=(hw a i hi).1 (.inl h2)
       obtain⟨y0,y1⟩:=(hw a i hi).2.1 h2
       have hb1:=bld195b i.x m hm
       have hb2:=bld195b i.y m hm
       have ha2:=fun K t=>happ K t [(i.y,m),(i.x,m)] (by simp) (by simp) (by simp[hm])
       simp only[List.map_cons,List.map_nil,List.length_cons,List.length_nil,Nat.reduceAdd,Nat.reduceSub,List.cons_append,List.nil_append]at ha2
       rw[if_pos h2]at hr
       simp +contextual (disch:=omega) only[Tryz.f111,dd111,go_sem,simprocAttr,splice,mu111,↓wrap_up,↓wrap_down,↓wrap_pred,↓wrap_sub_nat,hlen,hget,hw1,hw2,hw3,hw4,hAl,nonneg_nat,he1,g0,g1,g2,z1,z2,ok_bools,gE,gI,hfe,hm,t18,List.append_assoc,List.length_append,hi',h2,hb1,hb2,ha2,Nat.sub_zero]
       refine⟨((f,js.drop 1),(i.x.toNat,m)::(i.y.toNat,m)::rest,s2),⟨?_,hPm _ _ hP2,hdr js 1 hju,by simp at hf ⊢;omega,hr⟩,Nat.lt_succ_self _,?_⟩
       ·intro w hw
        rcases List.mem_cons.1 hw with rfl|hw
        ·exact⟨x1,hm⟩
        rcases List.mem_cons.1 hw with rfl|hw
        ·exact⟨y1,hm⟩
        ·exact hk1 w (List.mem_cons_of_mem _ hw)
       ·exact fin _ _ _ _ _ _ (by simp[← hAe,Int.toNat_of_nonneg x0,Int.toNat_of_nonneg y0]) (hdr js 1 hju) rfl
      rw[if_neg h2]at hr
      by_cases h3:i.op=3
      ·obtain⟨x0,x1⟩:=(hw a i hi).1 (.inr h3)
       have hb1:=bld195b i.x m hm
       have ha2:=fun K t=>happ K t [(i.x,m)] (by simp) (by simp) (by simp[hm])
       simp only[List.map_cons,List.map_nil,List.length_cons,List.length_nil,Nat.reduceAdd,Nat.reduceSub,List.cons_append,List.nil_append]at ha2
       rw[if_pos h3]at hr
       simp +contextual (disch:=omega) only[Tryz.f111,dd111,go_sem,simprocAttr,splice,mu111,↓wrap_up,↓wrap_down,↓wrap_pred,↓wrap_sub_nat,hlen,hget,hw1,hw2,hw3,hw4,hAl,nonneg_nat,he1,g0,g1,g2,z1,z2,ok_bools,gE,gI,hfe,hm,t18,List.append_assoc,List.length_append,hi',h3,hb1,ha2,Nat.sub_zero]
       refine⟨((f,js.drop 0),(i.x.toNat,m)::rest,s2),⟨?_,hPm _ _ hP2,hdr js 0 hju,by simp at hf ⊢;omega,hr⟩,Nat.lt_succ_self _,?_⟩
       ·intro w hw
        rcases List.mem_cons.1 hw with rfl|hw
        ·exact⟨x1,hm⟩
        ·exact hk1 w (List.mem_cons_of_mem _ hw)
       ·exact fin _ _ _ _ _ _ (by simp[← hAe,Int.toNat_of_nonneg x0]) (hdr js 0 hju) rfl
      rw[if_neg h3]at hr
      by_cases h4:i.op=4
      ·obtain⟨n1,n2,n3⟩:=(hw a i hi).2.2 h4
       have hnn:i.n=((i.n.toNat:Nat):Int):=(Int.toNat_of_nonneg n2).symm
       have hml:(m.set i.n.toNat true).length=18:=by simp[hm]
       have hb1:=bld195b ((a+1:Nat):Int) (m.set i.n.toNat true) hml
       have t18':=take18 _ hml
       have hsp:=splM (NV a) m i.n.toNat (by omega)
       have hs19:=fun c0 c1 c2 c3 c4 c5 c6 c7 c8 c9 c10 c11 c12 c13 c14 c15 c16 c17 c18 x=>spl19 c0 c1 c2 c3 c4 c5 c6 c7 c8 c9 c10 c11 c12 c13 c14 c15 c16 c17 c18 x m hm
       have hw5:IntKind.i64.wrap ((a:Int)+1)=((a+1:Nat):Int):=by rw[i64_in]<;>omega
       have ha2:=fun K t=>happ K t [(((a+1:Nat):Int),m.set i.n.toNat true)] (by simp) (by simp) (by simp[hm])
       simp only[List.map_cons,List.map_nil,List.length_cons,List.length_nil,Nat.reduceAdd,Nat.reduceSub,List.cons_append,List.nil_append]at ha2
       rw[if_pos h4]at hr
       simp +contextual (disch:=omega) only[Tryz.f111,dd111,go_sem,simprocAttr,mu111,↓wrap_up,↓wrap_down,↓wrap_pred,↓wrap_sub_nat,hlen,hget,hw1,hw2,hw3,hw4,hw5,hAl,nonneg_nat,he1,g0,g1,g2,z1,z2,ok_bools,gE,gI,hfe,hm,hml,t18,t18',List.append_assoc,List.length_append,hi',h4,hb1,ha2,hsp,hs19,spl5,n2,n3,Nat.sub_zero,Nat.mul_one]
       refine⟨((f,js.drop 0),(a+1,m.set i.n.toNat true)::rest,s2),⟨?_,hPm _ _ hP2,hdr js 0 hju,by simp at hf ⊢;omega,hr⟩,Nat.lt_succ_self _,?_⟩
       ·intro w hw
        rcases List.mem_cons.1 hw with rfl|hw
        ·exact⟨n1,hml⟩
        ·exact hk1 w (List.mem_cons_of_mem _ hw)
       ·exact fin _ _ _ _ _ _ (by simp[← hAe]) (hdr js 0 hju) rfl
      rw[if_neg h4]at hr
      have hk2:StkOk ins rest:=fun w hw=>hk1 w (List.mem_cons_of_mem _ hw)
      have hjw:∀ n,AV.underL n (wayAV (a,m)::js)=true:=fun n=>by
       simp only[AV.underL,hju n,Bool.and_true];exact plain_way (a,m) n
      have hkT:∀ t:Tm,keepT (some [5,3,2,0]) t=[(5,.ms N 19 (rest.length+1+js.length) 0 rest.length),(3,.rf iI 1 0 0),(2,.rf iE 1 0 0),(0,.yld iY)] →
        keepT (some [5,3,2,0]) t=[(5,.ms N 19 (rest.length+(wayAV (a,m)::js).length) 0 rest.length),(3,.rf iI 1 0 0),(2,.rf iE 1 0 0),(0,.yld iY)]:=fun t h=>by
       rw[h,List.length_cons,show rest.length+1+js.length=rest.length+(js.length+1) by omega]
      by_cases h01:i.op=1∨i.op=0
      ·rw[if_pos h01]at hr
       have hy1:=fun K=>hy f s2 a m K hP2 ha hm
       have hP3:=hPy f s2 a m hP2 hm
       cases hyn:(yi s2 a m).1 with
       | false=>
         rw[hyn]at hr hy1
         simp only[Option.some.injEq]at hr
         subst hr
         rcases h01 with h1|h0
         ·obtain⟨G,hG⟩:=hy1 [.row 19 (A++wayAV (a,m)::js) 0,.row 19 [.agg (NV a::m.map AV.bool)] 0,.row 5 [.agg [I 1,I i.x,I i.y,I i.n,.sl false (i.set.map spanAV)]] 0]
          simp +contextual (disch:=omega) only[Tryz.f111,dd111,go_sem,simprocAttr,splice,mu111,↓wrap_up,↓wrap_down,↓wrap_pred,↓wrap_sub_nat,hlen,hget,hw1,hw2,hw3,hw4,hAl,nonneg_nat,he1,g0,g1,g2,z1,z2,ok_bools,gE,gI,hfe,hm,t18,List.append_assoc,List.length_append,hi',h1,hG,Nat.sub_zero]
          exact hend _ _
         ·obtain⟨G,hG⟩:=hy1 [.row 19 (A++wayAV (a,m)::js) 0,.row 19 [.agg (NV a::m.map AV.bool)] 0,.row 5 [.agg [I 0,I i.x,I i.y,I i.n,.sl false (i.set.map spanAV)]] 0]
          simp +contextual (disch:=omega) only[Tryz.f111,dd111,go_sem,simprocAttr,splice,mu111,↓wrap_up,↓wrap_down,↓wrap_pred,↓wrap_sub_nat,hlen,hget,hw1,hw2,hw3,hw4,hAl,nonneg_nat,he1,g0,g1,g2,z1,z2,ok_bools,gE,gI,hfe,hm,t18,List.append_assoc,List.length_append,hi',h0,hG,Nat.sub_zero]
          exact hend _ _
       | true=>
         have hP3:=hP3 hyn
         rw[hyn]at hr hy1
         rcases h01 with h1|h0
         ·obtain⟨G,hG⟩:=hy1 [.row 19 (A++wayAV (a,m)::js) 0,.row 19 [.agg (NV a::m.map AV.bool)] 0,.row 5 [.agg [I 1,I i.x,I i.y,I i.n,.sl false (i.set.map spanAV)]] 0]
          simp +contextual (disch:=omega) only[Tryz.f111,dd111,go_sem,simprocAttr,splice,mu111,↓wrap_up,↓wrap_down,↓wrap_pred,↓wrap_sub_nat,hlen,hget,hw1,hw2,hw3,hw4,hAl,nonneg_nat,he1,g0,g1,g2,z1,z2,ok_bools,gE,gI,hfe,hm,t18,List.append_assoc,List.length_append,hi',h1,hG,Nat.sub_zero]
          refine⟨((f,wayAV (a,m)::js),rest,_),⟨hk2,hP3,hjw,by simp at hf ⊢;omega,hr⟩,Nat.lt_succ_self _,?_⟩
          exact fin _ _ _ _ _ _ (by simp[← hAe]) hjw (hkT _ rfl)
         ·obtain⟨G,hG⟩:=hy1 [.row 19 (A++wayAV (a,m)::js) 0,.row 19 [.agg (NV a::m.map AV.bool)] 0,.row 5 [.agg [I 0,I i.x,I i.y,I i.n,.sl false (i.set.map spanAV)]] 0]
          simp +contextual (disch:=omega) only[Tryz.f111,dd111,go_sem,simprocAttr,splice,mu111,↓wrap_up,↓wrap_down,↓wrap_pred,↓wrap_sub_nat,hlen,hget,hw1,hw2,hw3,hw4,hAl,nonneg_nat,he1,g0,g1,g2,z1,z2,ok_bools,gE,gI,hfe,hm,t18,List.append_assoc,List.length_append,hi',h0,hG,Nat.sub_zero]
          refine⟨((f,wayAV (a,m)::js),rest,_),⟨hk2,hP3,hjw,by simp at hf ⊢;omega,hr⟩,Nat.lt_succ_self _,?_⟩
          exact fin _ _ _ _ _ _ (by simp[← hAe]) hjw (hkT _ rfl)
      ·rw[if_neg h01]at hr
       have h1:i.op≠1:=fun e=>h01 (.inl e)
       have h0:i.op≠0:=fun e=>h01 (.inr e)
       simp +contextual (disch:=omega) only[Tryz.f111,dd111,go_sem,simprocAttr,splice,mu111,↓wrap_up,↓wrap_down,↓wrap_pred,↓wrap_sub_nat,hlen,hget,hw1,hw2,hw3,hw4,hAl,nonneg_nat,he1,g0,g1,g2,z1,z2,ok_bools,gE,gI,hfe,hm,t18,List.append_assoc,List.length_append,hi',h0,h1,h2,h3,h4,Nat.sub_zero]
       refine⟨((f,wayAV (a,m)::js),rest,_),⟨hk2,hPm _ _ hP2,hjw,by simp at hf ⊢;omega,hr⟩,Nat.lt_succ_self _,?_⟩
       exact fin _ _ _ _ _ _ (by simp[← hAe]) hjw (hkT _ rfl)
 ·exact⟨fun w hw=>by simp at hw;subst hw;exact⟨hst,rfl⟩,hP,fun n=>rfl,by simp;omega,hrun⟩
 ·exact prep_it (hN s) (hu s _ (Nat.le_succ _)) rfl (by simp[AV.underL,AV.under];omega) (by simp only[AV.underL];rw[plain_way (st0,m0S)];rfl)
end
section
attribute [local go_sem] evAppend evBuild splice
open Go.Proofs Go.RowKit Go.IntWalk
set_option maxRecDepth 100000
set_option maxHeartbeats 4000000
def hasSpan (l:List (Int×Int)) (x:Int):Bool:=l.any fun p=>decide (p.1≤x) && decide (x≤p.2)
theorem hasSpan_at {l:List (Int×Int)} {x:Int} {i:Nat} {p:Int×Int} (h:l[i]?=some p) (hp:p.1≤x∧x≤p.2):hasSpan l x=true:=by
 unfold hasSpan
 exact List.any_eq_true.2 ⟨p,List.mem_of_getElem? h,by simp[hp]⟩
theorem hasSpan_no {l:List (Int×Int)} {x:Int} (h:∀ k p,k < l.length→l[k]?=some p→¬ (p.1≤x∧x≤p.2)):hasSpan l x=false:=by
 unfold hasSpan
 rw[List.any_eq_false]
 intro p hp
 obtain⟨k,hk,e⟩:=List.getElem_of_mem hp
 have:=h k p hk (by rw[← e];exact List.getElem?_eq_getElem hk)
 simpa using this
theorem f64 (l:List (Int×Int)) (x:Int) (hl:l.length≤1000000) (H:List MB):call Tryz.prog pol1 49 [.sl false (l.map spanAV),I x] H=some (.bool (hasSpan l x),H):=by
 refine call_run Tryz.func49 rfl rfl rfl rfl rfl rfl (fun _=>rfl) (by simp[AV.plain,AV.plainL,plain_ints,plain_span,plain_ins,plain_prg]) (by simp[AV.plain,AV.plainL,plain_ints,plain_span,plain_ins,plain_prg]) ?_ H
 simp +contextual (disch:=omega) only[Tryz.f49,dd49,go_sem,simprocAttr,mu49,↓wrap_up,↓wrap_down,↓wrap_pred,↓wrap_sub_nat]
 refine W_count (M:=(mskOf (pol1.mask 49) (pol1.gc 49) (pol1.acts 49) 0 2)) rfl l.length (fun i=>(⟨28,[(5,I i),(1,I x),(0,.sl false (l.map spanAV))],[]⟩:St)) (fun i=>∀ k p,k < i→l[k]?=some p→¬ (p.1≤x∧x≤p.2)) ?_ ?_ (fun k p h=>by omega) _ (by first|rfl|(refine prep_cut rfl (by rfl) (by rfl) (by rfl) ?_ ?_<;>simp[AV.underL,AV.under,MB.under,underL_plain,under_plain,plain_ints,plain_span,plain_ins,plain_prg,-List.map_take]))
 ·intro i hi hg
  obtain⟨p,hp⟩:∃ p,l[i]?=some p:=⟨_,List.getElem?_eq_getElem hi⟩
  by_cases hin:p.1≤x∧x≤p.2
  ·rw[hasSpan_at hp hin]
   simp +contextual (disch:=omega) only[Tryz.f49,dd49,go_sem,simprocAttr,mu49,↓wrap_up,↓wrap_down,↓wrap_pred,↓wrap_sub_nat,hp,spanAV]
   exact fzEq rfl rfl
  ·have ext:∀ k q,k < i+1→l[k]?=some q→¬ (q.1≤x∧x≤q.2):=fun k q hk hq=>by
    rcases Nat.lt_or_ge k i with h|h
    ·exact hg k q h hq
    ·obtain rfl:k=i:=by omega
     rw[hp]at hq
     obtain rfl:=Option.some.inj hq
     exact hin
   by_cases h1:p.1≤x
   ·simp +contextual (disch:=omega) only[Tryz.f49,dd49,go_sem,simprocAttr,mu49,↓wrap_up,↓wrap_down,↓wrap_pred,↓wrap_sub_nat,hp,spanAV]
    exact⟨ext,(by first|rfl|(refine prep_cut rfl (by rfl) (by rfl) (by rfl) ?_ ?_<;>simp[AV.underL,AV.under,MB.under,underL_plain,under_plain,plain_ints,plain_span,plain_ins,plain_prg,-List.map_take]))⟩
   ·simp +contextual (disch:=omega) only[Tryz.f49,dd49,go_sem,simprocAttr,mu49,↓wrap_up,↓wrap_down,↓wrap_pred,↓wrap_sub_nat,hp,spanAV]
    exact⟨ext,(by first|rfl|(refine prep_cut rfl (by rfl) (by rfl) (by rfl) ?_ ?_<;>simp[AV.underL,AV.under,MB.under,underL_plain,under_plain,plain_ints,plain_span,plain_ins,plain_prg,-List.map_take]))⟩
 ·intro hg
  rw[hasSpan_no hg]
  simp +contextual (disch:=omega) only[Tryz.f49,dd49,go_sem,simprocAttr,mu49,↓wrap_up,↓wrap_down,↓wrap_pred,↓wrap_sub_nat]
  exact fzEq rfl rfl
theorem f43 (l:List (Int×Int)) (x:Int) (hl:l.length≤1000000) (H:List MB):call Tryz.prog pol1 66 [.sl false (l.map spanAV),I x] H=some (.bool (hasSpan l x),H):=by
 refine call_run Tryz.func66 rfl rfl rfl rfl rfl rfl (fun _=>rfl) (by simp[AV.plain,AV.plainL,plain_ints,plain_span,plain_ins,plain_prg]) (by simp[AV.plain,AV.plainL,plain_ints,plain_span,plain_ins,plain_prg]) ?_ H
 simp +contextual (disch:=omega) only[Tryz.f66,dd66,go_sem,simprocAttr,mu66,↓wrap_up,↓wrap_down,↓wrap_pred,↓wrap_sub_nat]
 refine W_count (M:=(mskOf (pol1.mask 66) (pol1.gc 66) (pol1.acts 66) 0 2)) rfl l.length (fun i=>(⟨24,[(9,I i),(8,I l.length),(7,.sl false (l.map spanAV)),(1,I x)],[]⟩:St)) (fun i=>∀ k p,k < i→l[k]?=some p→¬ (p.1≤x∧x≤p.2)) ?_ ?_ (fun k p h=>by omega) _ (by first|rfl|(refine prep_cut rfl (by rfl) (by rfl) (by rfl) ?_ ?_<;>simp[AV.underL,AV.under,MB.under,underL_plain,under_plain,plain_ints,plain_span,plain_ins,plain_prg,-List.map_take]))
 ·intro i hi hg
  obtain⟨p,hp⟩:∃ p,l[i]?=some p:=⟨_,List.getElem?_eq_getElem hi⟩
  by_cases hin:p.1≤x∧x≤p.2
  ·rw[hasSpan_at hp hin]
   simp +contextual (disch:=omega) only[Tryz.f66,dd66,go_sem,simprocAttr,mu66,↓wrap_up,↓wrap_down,↓wrap_pred,↓wrap_sub_nat,hp,spanAV]
   exact fzEq rfl rfl
  ·have ext:∀ k q,k < i+1→l[k]?=some q→¬ (q.1≤x∧x≤q.2):=fun k q hk hq=>by
    rcases Nat.lt_or_ge k i with h|h
    ·exact hg k q h hq
    ·obtain rfl:k=i:=by omega
     rw[hp]at hq
     obtain rfl:=Option.some.inj hq
     exact hin
   by_cases h1:p.1≤x
   ·simp +contextual (disch:=omega) only[Tryz.f66,dd66,go_sem,simprocAttr,mu66,↓wrap_up,↓wrap_down,↓wrap_pred,↓wrap_sub_nat,hp,spanAV]
    exact⟨ext,(by first|rfl|(refine prep_cut rfl (by rfl) (by rfl) (by rfl) ?_ ?_<;>simp[AV.underL,AV.under,MB.under,underL_plain,under_plain,plain_ints,plain_span,plain_ins,plain_prg,-List.map_take]))⟩
   ·simp +contextual (disch:=omega) only[Tryz.f66,dd66,go_sem,simprocAttr,mu66,↓wrap_up,↓wrap_down,↓wrap_pred,↓wrap_sub_nat,hp,spanAV]
    exact⟨ext,(by first|rfl|(refine prep_cut rfl (by rfl) (by rfl) (by rfl) ?_ ?_<;>simp[AV.underL,AV.under,MB.under,underL_plain,under_plain,plain_ints,plain_span,plain_ins,plain_prg,-List.map_take]))⟩
 ·intro hg
  rw[hasSpan_no hg]
  simp +contextual (disch:=omega) only[Tryz.f66,dd66,go_sem,simprocAttr,mu66,↓wrap_up,↓wrap_down,↓wrap_pred,↓wrap_sub_nat]
  exact fzEq rfl rfl
def wordI (x:Int):Bool:=(decide (97≤x) && decide (x≤122)) || (decide (65≤x) && decide (x≤90)) || (decide (48≤x) && decide (x≤57)) || x == 95
end
section
attribute [local go_sem] evAppend evBuild splice tySzE List.head?_drop Nat.mul_one sameAt_zero sameAt_two sameAt_three sameAt_four sameAt_five room_ok
open Go.Proofs Go.RowKit Go.IntWalk
set_option maxRecDepth 100000
set_option maxHeartbeats 16000000
structure CS where
 nx:Int
 way:List Bool
 dn:Bool
 la:List Bool
abbrev tm44:Tm:=[(11,.rf 6 1 0 0),(10,.rf 5 1 0 0),(9,.rf 4 1 0 0),(8,.rf 3 1 0 0),(7,.rf 2 1 0 0),(6,.rf 1 1 0 0),(4,.rf 0 1 0 0)]
abbrev chA (cv:AV) (t:List Int) (p:Nat) (s:CS) (K:List MB):List MB:=
 .row 1 [cv] 0::.row 1 [.sl false (t.map I)] 0::.row 1 [NV p] 0::.row 1 [I s.nx] 0::.row 18 [.agg (s.way.map AV.bool)] 0::.row 1 [.bool s.dn] 0::.row 18 [.agg (s.la.map AV.bool)] 0::K
abbrev chH (ins:List Ins) (caps n:Int) (t:List Int) (p st:Nat) (c:Code×Code) (ls:LS) (s:CS) (K:List MB):List MB:=
 chA (.pt [.sl false (ins.map insAV),I caps,I n]) t p s (.row 1 [.sl false (ins.map insAV)] 0::.row 1 [NV st] 0::.row 1 [.clo 77 []] 0::.lp ls 44 59 tm44 [20,21] c::K)
def chY (ins:List Ins) (t:List Int) (p:Nat) (s:CS) (a:Nat) (m:List Bool):CS:=match ins[a]? with
 | some i=>if i.op=0 then { s with dn:=true,la:=m } else match t[p]? with
   | some x=>if hasSpan i.set x=true then { s with nx:=((a+1:Nat):Int),way:=m } else s
   | none=>s
 | none=>s
theorem y44 (ins:List Ins) (caps n:Int) (t:List Int) (p st:Nat) (c:Code×Code) (hc:c=rfOf Tryz.prog 44) (s:CS) (a:Nat) (m:List Bool) (K:List MB) (hl:ins.length≤10000) (ht:t.length≤1000000) (ha:a < ins.length) (hm:m.length=18) (hs1:s.way.length=18) (hs2:s.la.length=18) (hdn:s.dn=false) (hset:∀ i∈ins,i.set.length≤1000000) :
  ∃ G,call Tryz.prog pol1 1000000000 [.yld 10,NV a,.agg (m.map AV.bool)] (chH ins caps n t p st c .ready s K)=some (.bool (!(chY ins t p s a m).dn),chH ins caps n t p st c (if(chY ins t p s a m).dn then .done .ret else .ready) (chY ins t p s a m) (K++G)):=by
 obtain⟨i,hi⟩:∃ i,ins[a]?=some i:=⟨_,List.getElem?_eq_getElem ha⟩
 have hi':(ins.map insAV)[a]?=some (insAV i):=by simp[hi]
 have hsl:=hset i (List.mem_of_getElem? hi)
 have e1:=congrArg (·.1) hc
 have e2:=congrArg (·.2) hc
 simp only[rfOf,Tryz.func44,Tryz.f44,findRF,List.append_nil,List.nil_append,List.headD]at e1 e2
 have okm:=ok_bools m
 have okw:=ok_bools s.way
 have okl:=ok_bools s.la
 have hx:∀ x:MB,(K++[x])[K.length]?=some x:=fun x=>by simp
 have hy:∀ x y:MB,(K++[x]).set K.length y=K++[y]:=fun x y=>by simp
 have tkm:=take18 m hm
 have tkw:=take18 s.way hs1
 have tkl:=take18 s.la hs2
 have drm:(m.map AV.bool).drop 18=[]:=List.drop_of_length_le (by simp[hm])
 have drw:(s.way.map AV.bool).drop 18=[]:=List.drop_of_length_le (by simp[hs1])
 have drl:(s.la.map AV.bool).drop 18=[]:=List.drop_of_length_le (by simp[hs2])
 have hsa:∀(a0 a1 a2 a3 a4 a5 a6 a7 a8 a9 a10 b0 b1 b2 b3 b4 b5 b6 b7 b8 b9 b10 x:MB),sameAt (K.length+1+1+1+1+1+1+1+1+1+1+1) (a0::a1::a2::a3::a4::a5::a6::a7::a8::a9::a10::(K++[x])) (b0::b1::b2::b3::b4::b5::b6::b7::b8::b9::b10::(K++[x]))=true:=fun a0 a1 a2 a3 a4 a5 a6 a7 a8 a9 a10 b0 b1 b2 b3 b4 b5 b6 b7 b8 b9 b10 x=>by simp[sameAt,MB.beq_refl]
 have hss:∀(i:Nat) (H:List MB),sameAt i H H=true:=fun i H=>by unfold sameAt;cases H[i]?<;>simp[MB.beq_refl]
 clear hc
 by_cases h0:i.op=0
 ·have ey:chY ins t p s a m = { s with dn:=true,la:=m }:=by simp only[chY,hi,if_pos h0]
  rw[ey]
  refine⟨[.row 18 [.agg (m.map AV.bool)] 0],?_⟩
  refine call_yield (f:=44) (n:=59) (t:=tm44) (ps:=[20,21]) (c:=c) rfl rfl rfl e1 e2 ?_
  simp +contextual (disch:=omega) only[Tryz.f44,dd44,go_sem,simprocAttr,mu44,↓wrap_up,↓wrap_down,↓wrap_pred,↓wrap_sub_nat,hi',h0,rdK_norm,beginRd,MB.beqT_refl,codeEq_refl,okm,okw,okl,hx,hy,tkm,tkw,tkl,drm,drw,drl,List.append_nil,hsa,hss,hm,hs1,hs2]
  repeat' (first|intro _|apply And.intro|(unfold dOk;kernel_rfl)|exact St.beq_refl _|(show altO _ _ _ _=true;kernel_rfl)|(show (_ || _)=true;kernel_rfl)|(show (_ && _)=true;kernel_rfl))
  all_goals (try exact endRd_ret rfl)
 ·have hx0:∀ x,t[p]?=some x→(t.map I)[p]?=some (I x):=fun x h=>by simp[h]
  by_cases hp:p < t.length
  ·obtain⟨x,hxt⟩:∃ x,t[p]?=some x:=⟨_,List.getElem?_eq_getElem hp⟩
   have hxt':=hx0 x hxt
   have hlt:((p:Int) < ((t.length:Nat):Int))=True:=eq_true (by omega)
   have h66:=fun H=>f43 i.set x hsl H
   have hwa:IntKind.i64.wrap ((a:Int)+1)=((a+1:Nat):Int):=by rw[i64_in]<;>omega
   by_cases hsp:hasSpan i.set x=true
   ·have ey:chY ins t p s a m = { s with nx:=((a+1:Nat):Int),way:=m }:=by simp only[chY,hi,if_neg h0,hxt,if_pos hsp]
    rw[ey]
    refine⟨[.row 18 [.agg (m.map AV.bool)] 0],?_⟩
    refine call_yield (f:=44) (n:=59) (t:=tm44) (ps:=[20,21]) (c:=c) rfl rfl rfl e1 e2 ?_
    simp +contextual (disch:=omega) only[Tryz.f44,dd44,go_sem,simprocAttr,mu44,↓wrap_up,↓wrap_down,↓wrap_pred,↓wrap_sub_nat,hi',h0,rdK_norm,beginRd,MB.beqT_refl,codeEq_refl,okm,okw,okl,hx,hy,tkm,tkw,tkl,drm,drw,drl,List.append_nil,hsa,hss,hm,hs1,hs2,hlt,hxt',h66,hsp,hwa,nonneg_nat]
    repeat' (first|intro _|apply And.intro|(unfold dOk;kernel_rfl)|exact St.beq_refl _|(show altO _ _ _ _=true;kernel_rfl)|(show (_ || _)=true;kernel_rfl)|(show (_ && _)=true;kernel_rfl))
    all_goals (try (simp only[hdn];exact endRd_norm rfl))
   ·have ey:chY ins t p s a m=s:=by simp only[chY,hi,if_neg h0,hxt,if_neg hsp]
    have hsp':hasSpan i.set x=false:=by simpa using hsp
    rw[ey]
    refine⟨[.row 18 [.agg (m.map AV.bool)] 0],?_⟩
    refine call_yield (f:=44) (n:=59) (t:=tm44) (ps:=[20,21]) (c:=c) rfl rfl rfl e1 e2 ?_
    simp +contextual (disch:=omega) only[Tryz.f44,dd44,go_sem,simprocAttr,mu44,↓wrap_up,↓wrap_down,↓wrap_pred,↓wrap_sub_nat,hi',h0,rdK_norm,beginRd,MB.beqT_refl,codeEq_refl,okm,okw,okl,hx,hy,tkm,tkw,tkl,drm,drw,drl,List.append_nil,hsa,hss,hm,hs1,hs2,hlt,hxt',h66,hsp',hwa,nonneg_nat]
    repeat' (first|intro _|apply And.intro|(unfold dOk;kernel_rfl)|exact St.beq_refl _|(show altO _ _ _ _=true;kernel_rfl)|(show (_ || _)=true;kernel_rfl)|(show (_ && _)=true;kernel_rfl))
    rw[if_neg (by simp[hdn]),show (!s.dn)=true by simp[hdn]]
    exact endRd_norm rfl
  ·have hn:t[p]?=none:=List.getElem?_eq_none (by omega)
   have hlt:((p:Int) < ((t.length:Nat):Int))=False:=eq_false (by omega)
   have ey:chY ins t p s a m=s:=by simp only[chY,hi,if_neg h0,hn]
   rw[ey]
   refine⟨[.row 18 [.agg (m.map AV.bool)] 0],?_⟩
   refine call_yield (f:=44) (n:=59) (t:=tm44) (ps:=[20,21]) (c:=c) rfl rfl rfl e1 e2 ?_
   simp +contextual (disch:=omega) only[Tryz.f44,dd44,go_sem,simprocAttr,mu44,↓wrap_up,↓wrap_down,↓wrap_pred,↓wrap_sub_nat,hi',h0,rdK_norm,beginRd,MB.beqT_refl,codeEq_refl,okm,okw,okl,hx,hy,tkm,tkw,tkl,drm,drw,drl,List.append_nil,hsa,hss,hm,hs1,hs2,hlt,nonneg_nat]
   repeat' (first|intro _|apply And.intro|(unfold dOk;kernel_rfl)|exact St.beq_refl _|(show altO _ _ _ _=true;kernel_rfl)|(show (_ || _)=true;kernel_rfl)|(show (_ && _)=true;kernel_rfl))
   rw[if_neg (by simp[hdn]),show (!s.dn)=true by simp[hdn]]
   exact endRd_norm rfl
end
section
attribute [local go_sem] evBuild splice tySzE List.head?_drop Nat.mul_one sameAt_zero sameAt_two sameAt_three sameAt_four sameAt_five room_ok
open Go.Proofs Go.RowKit Go.IntWalk
set_option maxRecDepth 100000
set_option maxHeartbeats 16000000
structure ES where
 came:List Bool
 fk:Bool
 rd:List Nat
 sp:List (Int×Int)
 dn:Nat
abbrev tm75:Tm:=[(11,.rf 6 1 0 0),(10,.rf 5 1 0 0),(9,.rf 4 1 0 0),(2,.rf 0 1 0 0)]
abbrev exA (ins:List Ins) (s:ES) (K:List MB):List MB:=
 .row 1 [.sl false (ins.map insAV)] 0::.row 1 (s.came.map AV.bool) 0::.row 1 [.ms 1 1 ins.length 0 ins.length] 0::.row 1 [.bool s.fk] 0 ::
 .row 1 [.ms 7 1 s.rd.length 0 s.rd.length] 0::.row 1 [.ms 8 2 s.sp.length 0 s.sp.length] 0::.row 1 [NV s.dn] 0::.row 1 (s.rd.map NV) 0::.row 2 (s.sp.map spanAV) 0::K
abbrev exH (ins:List Ins) (st:Nat) (c:Code×Code) (ls:LS) (s:ES) (K:List MB):List MB:=
 exA ins s (.row 1 [.sl false (ins.map insAV)] 0::.row 1 [NV st] 0::.row 1 [.clo 105 [.rf 3 1 0 0,.rf 2 1 0 0]] 0::.lp ls 75 79 tm75 [22,23] c::K)
def esY (ins:List Ins) (s:ES) (a:Nat):ES:=match ins[a]? with
 | some i=>if i.op=0 then { s with dn:=s.dn+1 } else if 0 < i.set.length then { s with rd:=s.rd++[a],sp:=s.sp++i.set } else s
 | none=>s
theorem app_n {H:List MB} {i n:Nat} {rs:List Nat} {c:Nat} {t:Bool} (hi:getRow H i=some (1,rs.map NV,0)) (hn:rs.length=n) (hr:n+1≤4000000000) :
  evAppend Tryz.prog H 22 22 (.ms i 1 n 0 n) (.sl t [NV c])=some (.ms i 1 (n+1) 0 (n+1),H.set i (.row 1 ((rs++[c]).map NV) 0)):=by
 have hs:srcElems Tryz.prog H 3 (.sl t [NV c])=some [NV c]:=rfl
 rw[evAppend_end (e:=3) (by kernel_rfl) (by kernel_rfl) (k:=1) (by kernel_rfl) (by_:=8) (by kernel_rfl) (ze:=I 0) (by kernel_rfl) rfl (by omega) hs rfl hi (by rw[List.length_map];exact hn) (Nat.zero_le _) (room_ok (by simpa using hr) (by omega))]
 rw[List.map_append]
 rfl
theorem app_sp {H:List MB} {i n:Nat} {rs l:List (Int×Int)} {t:Bool} (hi:getRow H i=some (2,rs.map spanAV,0)) (hn:rs.length=n) (hr:n+l.length≤4000000000) :
  evAppend Tryz.prog H 60 60 (.ms i 2 n 0 n) (.sl t (l.map spanAV))=some (.ms i 2 (n+l.length) 0 (n+l.length),H.set i (.row 2 ((rs++l).map spanAV) 0)):=by
 have hs:srcElems Tryz.prog H 84 (.sl t (l.map spanAV))=some (l.map spanAV):=rfl
 rw[evAppend_end (e:=84) (by kernel_rfl) (by kernel_rfl) (k:=2) (by kernel_rfl) (by_:=16) (by kernel_rfl) (ze:=.agg [I 0,I 0]) (by kernel_rfl) rfl (by omega) hs (by simp[AV.cells,AV.ok]) hi (by rw[List.length_map];exact hn) (Nat.zero_le _) (room_ok (by simpa using hr) (by omega))]
 rw[List.map_append]
 simp
theorem y75 (ins:List Ins) (st:Nat) (c:Code×Code) (hc:c=rfOf Tryz.prog 75) (s:ES) (a:Nat) (m:List Bool) (K:List MB) (hl:ins.length≤10000) (ha:a < ins.length) (h1:s.rd.length+1≤100000000) (h2:s.dn+1≤100000000) (h3:∀ i,ins[a]?=some i→s.sp.length+i.set.length≤100000000) :
  call Tryz.prog pol1 1000000000 [.yld 12,NV a,.agg (m.map AV.bool)] (exH ins st c .ready s K)=some (.bool true,exH ins st c .ready (esY ins s a) K):=by
 obtain⟨i,hi⟩:∃ i,ins[a]?=some i:=⟨_,List.getElem?_eq_getElem ha⟩
 have hi':(ins.map insAV)[a]?=some (insAV i):=by simp[hi]
 have h4:=h3 i hi
 have e1:=congrArg (·.1) hc
 have e2:=congrArg (·.2) hc
 simp only[rfOf,Tryz.func75,Tryz.f75,findRF,List.append_nil,List.nil_append,List.headD]at e1 e2
 have ey:esY ins s a=if i.op=0 then { s with dn:=s.dn+1 } else if 0 < i.set.length then { s with rd:=s.rd++[a],sp:=s.sp++i.set } else s:=by simp only[esY,hi]
 rw[ey]
 clear hc ey
 by_cases h0:i.op=0
 ·rw[if_pos h0]
  refine call_yield (f:=75) (n:=79) (t:=tm75) (ps:=[22,23]) (c:=c) rfl rfl rfl e1 e2 ?_
  simp +contextual (disch:=omega) only[Tryz.f75,dd75,go_sem,simprocAttr,evAppend,mu75,↓wrap_up,↓wrap_down,↓wrap_pred,↓wrap_sub_nat,hi',h0,rdK_norm,beginRd,MB.beqT_refl,codeEq_refl]
  exact endRd_norm rfl
 ·rw[if_neg h0]
  by_cases hs:0 < i.set.length
  ·rw[if_pos hs]
   have ha1:=fun t=>app_n (H:=exH ins st c .busy s K) (i:=7) (rs:=s.rd) (c:=a) (t:=t) rfl rfl (by omega)
   have ha2:=fun t=>app_sp (H:=exH ins st c .busy { s with rd:=s.rd++[a] } K) (i:=8) (rs:=s.sp) (l:=i.set) (t:=t) rfl rfl (by omega)
   simp only[exH,exA,List.set,List.length_append,List.length_cons,List.length_nil,Nat.zero_add,List.map_append,List.map_cons,List.map_nil]at ha1 ha2
   refine call_yield (f:=75) (n:=79) (t:=tm75) (ps:=[22,23]) (c:=c) rfl rfl rfl e1 e2 ?_
   simp +contextual (disch:=omega) only[Tryz.f75,dd75,go_sem,simprocAttr,mu75,↓wrap_up,↓wrap_down,↓wrap_pred,↓wrap_sub_nat,hi',h0,hs,rdK_norm,beginRd,MB.beqT_refl,codeEq_refl,ha1,ha2]
   repeat' (first|intro _|apply And.intro|(unfold dOk;kernel_rfl)|exact St.beq_refl _|(show altO _ _ _ _=true;kernel_rfl)|(show (_ || _)=true;kernel_rfl)|(show (_ && _)=true;kernel_rfl))
   all_goals (refine(endRd_norm rfl).trans ?_;simp)
  ·rw[if_neg hs]
   have hs0:i.set.length=0:=by omega
   refine call_yield (f:=75) (n:=79) (t:=tm75) (ps:=[22,23]) (c:=c) rfl rfl rfl e1 e2 ?_
   simp +contextual (disch:=omega) only[Tryz.f75,dd75,go_sem,simprocAttr,evAppend,mu75,↓wrap_up,↓wrap_down,↓wrap_pred,↓wrap_sub_nat,hi',h0,hs,hs0,rdK_norm,beginRd,MB.beqT_refl,codeEq_refl]
   exact endRd_norm rfl
end
def SpOk (l:List (Int×Int)):Prop:=(∀ p∈l,0≤p.1∧p.1≤p.2∧p.2≤1114111)∧l.Pairwise (fun p q=>p.2 < q.1)
structure OkP (ins:List Ins):Prop where
 pos:0 < ins.length
 len:ins.length≤8192
 ops:∀ i∈ins,i.op=0∨i.op=1∨i.op=2∨i.op=3∨i.op=4
 leads:LeadsR ins
 sym:∀ n i,ins[n]?=some i→i.op=1→n+1 < ins.length
 sets:∀ i∈ins,SpOk i.set∧i.set.length≤64
theorem OkP.in1 {ins:List Ins} (h:OkP ins):In1 ins:=by
 intro n i hi b hb
 unfold nexts at hb
 split at hb
 ·rename_i h2
  simp at hb
  rcases hb with rfl|rfl
  ·exact((h.leads n i hi).1 (.inl h2)).2
  ·exact((h.leads n i hi).2.1 h2).2
 ·split at hb
  ·rename_i h3
   simp at hb;subst hb
   exact((h.leads n i hi).1 (.inr h3)).2
  ·split at hb
   ·rename_i h4
    simp at hb;subst hb
    exact((h.leads n i hi).2.2 h4).1
   ·simp at hb
def esStop (ins:List Ins) (s:ES) (l:List Nat):ES:=l.foldl (fun s a=>esY ins s a) s
def ES0 (n:Nat):ES:=⟨List.replicate n false,false,[],[],0⟩
def enE (s:ES) (a:Nat):Bool×ES:=(!(s.fk || s.came.getD a false),{ s with came:=s.came.set a true,fk:=s.fk || s.came.getD a false })
def yiE (ins:List Ins) (s:ES) (a:Nat) (_:List Bool):Bool×ES:=(true,esY ins s a)
def runE (ins:List Ins) (st:Nat):Option ES:=runS ins enE (yiE ins) (ins.length+1) [(st,m0S)] (ES0 ins.length)
structure RE1 (ins:List Ins) (s:ES) (w:WS):Prop where
 len:s.came.length=ins.length
 came:∀ a,a < ins.length→s.came.getD a false=decide (a∈w.seen)
 fk:s.fk=false
 tw:w.tw=false
 stops:(s.rd,s.sp,s.dn)=((esStop ins (ES0 ins.length) w.stops).rd,(esStop ins (ES0 ins.length) w.stops).sp,(esStop ins (ES0 ins.length) w.stops).dn)
theorem esY_came (ins:List Ins) (s:ES) (a:Nat):(esY ins s a).came=s.came∧(esY ins s a).fk=s.fk:=by
 unfold esY
 split
 ·split
  ·exact⟨rfl,rfl⟩
  ·split<;>exact⟨rfl,rfl⟩
 ·exact⟨rfl,rfl⟩
theorem esY_cong (ins:List Ins) (s t:ES) (a:Nat) (h:(s.rd,s.sp,s.dn)=(t.rd,t.sp,t.dn)):((esY ins s a).rd,(esY ins s a).sp,(esY ins s a).dn)=((esY ins t a).rd,(esY ins t a).sp,(esY ins t a).dn):=by
 simp only[Prod.mk.injEq]at h
 obtain⟨h1,h2,h3⟩:=h
 unfold esY
 split
 ·split
  ·simp[h1,h2,h3]
  ·split<;>simp[h1,h2,h3]
 ·simp[h1,h2,h3]
theorem runE_walk {ins:List Ins} (h:OkP ins):∀(k:Nat) (stk:Stk) (s:ES) (w:WS),RE1 ins s w→w.Ok ins.length→ins.length < k+w.seen.length→(∀ x∈stk,x.1 < ins.length) →
  ∃ sF,runS ins enE (yiE ins) k stk s=some sF∧sF.fk=(visF ins (stk.map (·.1)) w).tw∧((visF ins (stk.map (·.1)) w).tw=false→RE1 ins sF (visF ins (stk.map (·.1)) w))
 | k,[],s,w,hr,hw,hk,_=>⟨s,by cases k<;>rfl,by simp[visF_nil,hr.fk,hr.tw],fun _=>by simpa [visF_nil] using hr⟩
 | 0,_::_,s,w,hr,hw,hk,_=>absurd hw.len (by omega)
 | k+1,(a,m)::rest,s,w,hr,hw,hk,hst=>by
   have ha:a < ins.length:=hst (a,m) (by simp)
   obtain⟨i,hi⟩:∃ i,ins[a]?=some i:=⟨_,List.getElem?_eq_getElem ha⟩
   have hca:=hr.came a ha
   have hen:enE s a=(!(s.fk || decide (a∈w.seen)),{ s with came:=s.came.set a true,fk:=s.fk || decide (a∈w.seen) }):=by unfold enE;rw[hca]
   simp only[runS,List.map_cons]
   by_cases hs:a∈w.seen
   ·rw[visF_again (.inr hs)]
    have e1:(enE s a).1=false:=by simp[hen,hs]
    rw[e1]
    exact⟨_,rfl,by simp[hen,hs],fun h=>by simp at h⟩
   ·have e1:(enE s a).1=true:=by simp[hen,hs,hr.fk]
    rw[e1,visF_step hw hr.tw hs hi]
    simp only[hi]
    have hl:(stepS w i a).seen.length=w.seen.length+1:=by simp[stepS]
    have hok:=hw.step hs hi
    have hs2:(enE s a).2 = { s with came:=s.came.set a true,fk:=false }:=by simp[hen,hs,hr.fk]
    have hcame:∀ b,b < ins.length→(s.came.set a true).getD b false=decide (b∈w.seen++[a]):=fun b hb=>by
     have:=hr.came b hb
     rw[List.getD_eq_getElem?_getD]at this ⊢
     by_cases e:a=b
     ·subst e
      rw[List.getElem?_set_self (by rw[hr.len];exact ha)]
      simp
     ·rw[List.getElem?_set_ne e,this]
      have:¬ b=a:=fun h=>e h.symm
      simp[this]
    have hrest:∀ x∈rest,x.1 < ins.length:=fun x hx=>hst x (List.mem_cons_of_mem _ hx)
    rw[hs2]
    have go:∀ stk2:Stk,stk2.map (·.1)=nexts i a→stopB i=false→(∀ x∈stk2,x.1 < ins.length)→∃ sF,runS ins enE (yiE ins) k (stk2++rest) { s with came:=s.came.set a true,fk:=false } = some sF∧sF.fk=(visF ins (nexts i a++rest.map (·.1)) (stepS w i a)).tw∧((visF ins (nexts i a++rest.map (·.1)) (stepS w i a)).tw=false→RE1 ins sF (visF ins (nexts i a++rest.map (·.1)) (stepS w i a))):=by
     intro stk2 e2 e3 e4
     have:=runE_walk h k (stk2++rest) { s with came:=s.came.set a true,fk:=false } (stepS w i a) ⟨by simpa using hr.len,hcame,rfl,rfl,by simpa [stepS,e3] using hr.stops⟩ hok (by rw[hl];omega) (fun x hx=>(List.mem_append.1 hx).elim (e4 x) (hrest x))
     rwa [List.map_append,e2]at this
    rcases h.ops i (List.mem_of_getElem? hi) with h0|h0|h0|h0|h0
    ·rw[if_neg (by omega),if_neg (by omega),if_neg (by omega),if_pos (.inr h0)]
     simp only[yiE]
     have hn:nexts i a=[]:=by simp[nexts,h0]
     rw[hn,List.nil_append]
     refine runE_walk h k rest _ (stepS w i a) ⟨?_,?_,?_,rfl,?_⟩ hok (by rw[hl];omega) hrest
     ·rw[(esY_came ins _ a).1];simpa using hr.len
     ·rw[(esY_came ins _ a).1];exact hcame
     ·rw[(esY_came ins _ a).2]
     ·have hst':(stepS w i a).stops=w.stops++[a]:=by simp[stepS,stopB,h0]
      rw[hst']
      unfold esStop
      rw[List.foldl_append]
      exact esY_cong ins _ _ a hr.stops
    ·rw[if_neg (by omega),if_neg (by omega),if_neg (by omega),if_pos (.inl h0)]
     simp only[yiE]
     have hn:nexts i a=[]:=by simp[nexts,h0]
     rw[hn,List.nil_append]
     refine runE_walk h k rest _ (stepS w i a) ⟨?_,?_,?_,rfl,?_⟩ hok (by rw[hl];omega) hrest
     ·rw[(esY_came ins _ a).1];simpa using hr.len
     ·rw[(esY_came ins _ a).1];exact hcame
     ·rw[(esY_came ins _ a).2]
     ·have hst':(stepS w i a).stops=w.stops++[a]:=by simp[stepS,stopB,h0]
      rw[hst']
      unfold esStop
      rw[List.foldl_append]
      exact esY_cong ins _ _ a hr.stops
    ·rw[if_pos h0]
     exact go [(i.x.toNat,m),(i.y.toNat,m)] (by simp[nexts,h0]) (by simp[stopB,h0]) (fun x hx=>by
      have h1:=(h.leads a i hi).1 (.inl h0)
      have h2:=(h.leads a i hi).2.1 h0
      simp at hx;rcases hx with rfl|rfl
      ·exact h1.2
      ·exact h2.2)
    ·rw[if_neg (by omega),if_pos h0]
     exact go [(i.x.toNat,m)] (by simp[nexts,h0]) (by simp[stopB,h0]) (fun x hx=>by
      have h1:=(h.leads a i hi).1 (.inr h0)
      simp at hx;subst hx;exact h1.2)
    ·rw[if_neg (by omega),if_neg (by omega),if_pos h0]
     exact go [(a+1,m.set i.n.toNat true)] (by simp[nexts,h0]) (by simp[stopB,h0]) (fun x hx=>by
      have h1:=(h.leads a i hi).2.2 h0
      simp at hx;subst hx;exact h1.1)
theorem runE_spec {ins:List Ins} (h:OkP ins) {st:Nat} (hst:st < ins.length):∃ sF,runE ins st=some sF∧sF.fk=(fromS ins st).tw ∧
  ((fromS ins st).tw=false→sF.rd=(esStop ins (ES0 ins.length) (fromS ins st).stops).rd∧sF.sp=(esStop ins (ES0 ins.length) (fromS ins st).stops).sp∧sF.dn=(esStop ins (ES0 ins.length) (fromS ins st).stops).dn):=by
 obtain⟨sF,h1,h2,h3⟩:=runE_walk h (ins.length+1) [(st,m0S)] (ES0 ins.length) w0S ⟨by simp[ES0],fun a ha=>by simp[ES0,w0S,List.getD_eq_getElem?_getD,ha],rfl,rfl,rfl⟩ (w0S_ok _) (by simp[w0S]) (fun x hx=>by simp at hx;subst hx;exact hst)
 refine⟨sF,h1,h2,fun h=>?_⟩
 have:=(h3 h).stops
 simp only[Prod.mk.injEq]at this
 exact this
end Go.Ev
namespace Go.Ev
attribute [local go_sem] evBin List.length_append List.map_append
section
attribute [local go_sem] evAppend evBuild splice tySzE List.head?_drop Nat.mul_one sameAt_zero sameAt_two sameAt_three sameAt_four sameAt_five room_ok
open Go.Proofs Go.RowKit Go.IntWalk
set_option maxRecDepth 100000
set_option maxHeartbeats 16000000
def PrE (ins:List Ins) (k:Nat) (s:ES):Prop:=s.came.length=ins.length∧s.rd.length+s.dn+k≤20002∧s.sp.length≤64 * s.rd.length
theorem r75 {ins:List Ins} (h:OkP ins) {st:Nat} (hst:st < ins.length) (c:Code×Code) (hc:c=rfOf Tryz.prog 75):∃ sF,runE ins st=some sF ∧
  call Tryz.prog pol1 111 [.yld 12,.rf 10 1 0 0,.rf 11 1 0 0,.rf 9 1 0 0] (exH ins st c .ready (ES0 ins.length) [])=some (.tup [],exH ins st c .ready sF []):=by
 obtain⟨sF,hF,_⟩:=runE_spec h hst
 refine⟨sF,hF,?_⟩
 have hl:=h.len
 refine f111 (fun s=>exH ins st c .ready s []) (PrE ins) ins 13 12 10 11 9 105 st [.rf 3 1 0 0,.rf 2 1 0 0] enE (yiE ins) (fun s=>rfl) ?_ (eq_false (by decide)) (by omega) hst h.leads (fun s=>rfl) (fun s=>rfl) (fun s=>rfl) (by decide) ?_ ?_ ?_ ?_ ?_ (ins.length+1) (ES0 ins.length) sF ?_ (by omega) hF
 ·intro s n hn
  have h1:=underL_plain n _ (plain_ins ins)
  have h2:=underL_plain n _ (plain_bools s.came)
  have h3:=underL_plain n _ (plain_nv s.rd)
  have h4:=underL_plain n _ (plain_span s.sp)
  simp[exH,exA,MB.under,AV.underL,AV.under,h1,h2,h3,h4]
  omega
 ·intro f s a K hP ha
  obtain⟨b,hb⟩:∃ b,s.came[a]?=some b:=⟨_,List.getElem?_eq_getElem (by rw[hP.1];exact ha)⟩
  have:=f105 (.row 1 [.sl false (ins.map insAV)] 0) s.came s.fk a b (.row 1 [.ms 7 1 s.rd.length 0 s.rd.length] 0::.row 1 [.ms 8 2 s.sp.length 0 s.sp.length] 0::.row 1 [NV s.dn] 0::.row 1 (s.rd.map NV) 0::.row 2 (s.sp.map spanAV) 0::.row 1 [.sl false (ins.map insAV)] 0::.row 1 [NV st] 0::.row 1 [.clo 105 [.rf 3 1 0 0,.rf 2 1 0 0]] 0::.lp .ready 75 79 tm75 [22,23] c::K) hb
  have hbd:s.came.getD a false=b:=by rw[List.getD_eq_getElem?_getD,hb];rfl
  rw[hP.1]at this
  unfold enE
  rw[hbd]
  exact this
 ·intro f s a m K hP ha hm
  refine⟨[],?_⟩
  rw[List.append_nil]
  have hP1:=hP.2.1
  have hP2:=hP.2.2
  exact y75 ins st c hc s a m K (by omega) ha (by omega) (by omega) (fun i hi=>by
   have:=(h.sets i (List.mem_of_getElem? hi)).2
   omega)
 ·intro f s a hP ha
  exact⟨by simpa [enE] using hP.1,hP.2⟩
 ·intro f s a m hP _ _
  have hP1:=hP.2.1
  have hP2:=hP.2.2
  have hP0:=hP.1
  simp only[yiE]
  unfold PrE esY
  cases hi:ins[a]? with
  | none=>exact⟨hP0,by simp only;omega,hP2⟩
  | some i=>
    have:=(h.sets i (List.mem_of_getElem? hi)).2
    by_cases h0:i.op=0
    ·simp only[h0,if_true]
     exact⟨hP0,by omega,hP2⟩
    ·by_cases hs:0 < i.set.length
     ·simp only[h0,hs,if_true,if_false]
      exact⟨hP0,by simp only[List.length_append,List.length_cons,List.length_nil];omega,by simp only[List.length_append,List.length_cons,List.length_nil];omega⟩
     ·simp only[h0,hs,if_false]
      exact⟨hP0,by omega,hP2⟩
 ·intro f s hP
  exact⟨hP.1,by have:=hP.2.1;omega,hP.2.2⟩
 ·exact⟨by simp[ES0],by simp[ES0];omega,by simp[ES0]⟩
end
end Go.Ev
namespace Go.Proofs
open Go.Shelf
def Tryz.sortL_ren:Go.Shelf.Ren:=⟨fun|6=>106|15=>139|14=>138|28=>163|29=>164|20=>155|21=>156|22=>157|23=>158|24=>159|25=>160|26=>161|27=>162|46=>184|47=>185|48=>186|49=>187|50=>188|57=>194|n=>n,fun|22=>60|24=>84|25=>191|3=>3|39=>223|0=>0|53=>240|55=>242|4=>4|46=>233|45=>232|50=>237|5=>5|9=>9|66=>255|70=>259|76=>263|77=>264|n=>n,fun|n=>n⟩
theorem Tryz.sortL:Go.Proofs.SlLaysF0.n6 Tryz.prog Tryz.sortL_ren:={
 mixed:=by kernel_rfl
 f6:=⟨Tryz.f106.name,by decide,Tryz.func106.trans (congrArg some (by kernel_rfl))⟩
 f14:=⟨Tryz.f138.name,by decide,Tryz.func138.trans (congrArg some (by kernel_rfl))⟩
 f15:=Tryz.func139.trans (congrArg some (by kernel_rfl))
 f20:=⟨Tryz.f155.name,by decide,Tryz.func155.trans (congrArg some (by kernel_rfl))⟩
 f21:=⟨Tryz.f156.name,by decide,Tryz.func156.trans (congrArg some (by kernel_rfl))⟩
 f22:=⟨Tryz.f157.name,by decide,Tryz.func157.trans (congrArg some (by kernel_rfl))⟩
 f23:=⟨Tryz.f158.name,by decide,Tryz.func158.trans (congrArg some (by kernel_rfl))⟩
 f24:=⟨Tryz.f159.name,by decide,Tryz.func159.trans (congrArg some (by kernel_rfl))⟩
 f25:=⟨Tryz.f160.name,by decide,Tryz.func160.trans (congrArg some (by kernel_rfl))⟩
 f26:=⟨Tryz.f161.name,by decide,Tryz.func161.trans (congrArg some (by kernel_rfl))⟩
 f27:=⟨Tryz.f162.name,by decide,Tryz.func162.trans (congrArg some (by kernel_rfl))⟩
 f28:=Tryz.func163.trans (congrArg some (by kernel_rfl))
 f29:=Tryz.func164.trans (congrArg some (by kernel_rfl))
 f46:=⟨Tryz.f184.name,by decide,Tryz.func184.trans (congrArg some (by kernel_rfl))⟩
 f47:=Tryz.func185.trans (congrArg some (by kernel_rfl))
 f48:=Tryz.func186.trans (congrArg some (by kernel_rfl))
 f49:=⟨Tryz.f187.name,by decide,Tryz.func187.trans (congrArg some (by kernel_rfl))⟩
 f50:=⟨Tryz.f188.name,by decide,Tryz.func188.trans (congrArg some (by kernel_rfl))⟩
 f57:=⟨Tryz.f194.name,by decide,Tryz.func194.trans (congrArg some (by kernel_rfl))⟩
 t0:=Tryz.underlying0
 a0:=Tryz.isAgg0
 z0:=Tryz.sizeOf0
 v0:=Tryz.zeroValue0
 t3:=Tryz.underlying3
 a3:=Tryz.isAgg3
 z3:=Tryz.sizeOf3
 v3:=Tryz.zeroValue3
 t4:=Tryz.underlying4
 a4:=Tryz.isAgg4
 z4:=Tryz.sizeOf4
 v4:=Tryz.zeroValue4
 t5:=Tryz.underlying5
 a5:=Tryz.isAgg5
 z5:=Tryz.sizeOf5
 v5:=Tryz.zeroValue5
 t9:=Tryz.underlying9
 a9:=Tryz.isAgg9
 z9:=Tryz.sizeOf9
 v9:=Tryz.zeroValue9
 t22:=Tryz.underlying60
 a22:=Tryz.isAgg60
 z22:=Tryz.sizeOf60
 v22:=Tryz.zeroValue60
 t25:=Tryz.underlying191
 a25:=Tryz.isAgg191
 z25:=Tryz.sizeOf191
 v25:=Tryz.zeroValue191
 t39:=Tryz.underlying223
 a39:=Tryz.isAgg223
 z39:=Tryz.sizeOf223
 v39:=Tryz.zeroValue223
 t45:=Tryz.underlying232
 a45:=Tryz.isAgg232
 z45:=Tryz.sizeOf232
 v45:=Tryz.zeroValue232
 t46:=Tryz.underlying233
 a46:=Tryz.isAgg233
 z46:=Tryz.sizeOf233
 v46:=Tryz.zeroValue233
 t50:=Tryz.underlying237
 a50:=Tryz.isAgg237
 z50:=Tryz.sizeOf237
 v50:=Tryz.zeroValue237
 t53:=Tryz.underlying240
 a53:=Tryz.isAgg240
 z53:=Tryz.sizeOf240
 v53:=Tryz.zeroValue240
 t55:=Tryz.underlying242
 a55:=Tryz.isAgg242
 z55:=Tryz.sizeOf242
 v55:=Tryz.zeroValue242
 t66:=Tryz.underlying255
 a66:=Tryz.isAgg255
 z66:=Tryz.sizeOf255
 v66:=Tryz.zeroValue255
 t70:=Tryz.underlying259
 a70:=Tryz.isAgg259
 z70:=Tryz.sizeOf259
 v70:=Tryz.zeroValue259
 t76:=Tryz.underlying263
 a76:=Tryz.isAgg263
 z76:=Tryz.sizeOf263
 v76:=Tryz.zeroValue263
 t77:=Tryz.underlying264
 a77:=Tryz.isAgg264
 z77:=Tryz.sizeOf264
 v77:=Tryz.zeroValue264 }
def Tryz.sortI_ren:Go.Shelf.Ren:=⟨fun|6=>109|15=>139|14=>141|28=>163|29=>164|20=>165|21=>166|22=>167|23=>168|24=>169|25=>170|26=>171|27=>172|46=>189|47=>185|48=>186|49=>190|50=>191|57=>195|n=>n,fun|22=>22|24=>3|25=>49|3=>3|39=>223|0=>0|53=>240|55=>242|4=>4|46=>233|45=>232|50=>237|5=>5|9=>9|66=>255|70=>259|76=>263|77=>264|n=>n,fun|n=>n⟩
theorem Tryz.sortI:Go.Proofs.SlLaysF0.n6 Tryz.prog Tryz.sortI_ren:={
 mixed:=by kernel_rfl
 f6:=⟨Tryz.f109.name,by decide,Tryz.func109.trans (congrArg some (by kernel_rfl))⟩
 f14:=⟨Tryz.f141.name,by decide,Tryz.func141.trans (congrArg some (by kernel_rfl))⟩
 f15:=Tryz.func139.trans (congrArg some (by kernel_rfl))
 f20:=⟨Tryz.f165.name,by decide,Tryz.func165.trans (congrArg some (by kernel_rfl))⟩
 f21:=⟨Tryz.f166.name,by decide,Tryz.func166.trans (congrArg some (by kernel_rfl))⟩
 f22:=⟨Tryz.f167.name,by decide,Tryz.func167.trans (congrArg some (by kernel_rfl))⟩
 f23:=⟨Tryz.f168.name,by decide,Tryz.func168.trans (congrArg some (by kernel_rfl))⟩
 f24:=⟨Tryz.f169.name,by decide,Tryz.func169.trans (congrArg some (by kernel_rfl))⟩
 f25:=⟨Tryz.f170.name,by decide,Tryz.func170.trans (congrArg some (by kernel_rfl))⟩
 f26:=⟨Tryz.f171.name,by decide,Tryz.func171.trans (congrArg some (by kernel_rfl))⟩
 f27:=⟨Tryz.f172.name,by decide,Tryz.func172.trans (congrArg some (by kernel_rfl))⟩
 f28:=Tryz.func163.trans (congrArg some (by kernel_rfl))
 f29:=Tryz.func164.trans (congrArg some (by kernel_rfl))
 f46:=⟨Tryz.f189.name,by decide,Tryz.func189.trans (congrArg some (by kernel_rfl))⟩
 f47:=Tryz.func185.trans (congrArg some (by kernel_rfl))
 f48:=Tryz.func186.trans (congrArg some (by kernel_rfl))
 f49:=⟨Tryz.f190.name,by decide,Tryz.func190.trans (congrArg some (by kernel_rfl))⟩
 f50:=⟨Tryz.f191.name,by decide,Tryz.func191.trans (congrArg some (by kernel_rfl))⟩
 f57:=⟨Tryz.f195.name,by decide,Tryz.func195.trans (congrArg some (by kernel_rfl))⟩
 t0:=Tryz.underlying0
 a0:=Tryz.isAgg0
 z0:=Tryz.sizeOf0
 v0:=Tryz.zeroValue0
 t3:=Tryz.underlying3
 a3:=Tryz.isAgg3
 z3:=Tryz.sizeOf3
 v3:=Tryz.zeroValue3
 t4:=Tryz.underlying4
 a4:=Tryz.isAgg4
 z4:=Tryz.sizeOf4
 v4:=Tryz.zeroValue4
 t5:=Tryz.underlying5
 a5:=Tryz.isAgg5
 z5:=Tryz.sizeOf5
 v5:=Tryz.zeroValue5
 t9:=Tryz.underlying9
 a9:=Tryz.isAgg9
 z9:=Tryz.sizeOf9
 v9:=Tryz.zeroValue9
 t22:=Tryz.underlying22
 a22:=Tryz.isAgg22
 z22:=Tryz.sizeOf22
 v22:=Tryz.zeroValue22
 t25:=Tryz.underlying49
 a25:=Tryz.isAgg49
 z25:=Tryz.sizeOf49
 v25:=Tryz.zeroValue49
 t39:=Tryz.underlying223
 a39:=Tryz.isAgg223
 z39:=Tryz.sizeOf223
 v39:=Tryz.zeroValue223
 t45:=Tryz.underlying232
 a45:=Tryz.isAgg232
 z45:=Tryz.sizeOf232
 v45:=Tryz.zeroValue232
 t46:=Tryz.underlying233
 a46:=Tryz.isAgg233
 z46:=Tryz.sizeOf233
 v46:=Tryz.zeroValue233
 t50:=Tryz.underlying237
 a50:=Tryz.isAgg237
 z50:=Tryz.sizeOf237
 v50:=Tryz.zeroValue237
 t53:=Tryz.underlying240
 a53:=Tryz.isAgg240
 z53:=Tryz.sizeOf240
 v53:=Tryz.zeroValue240
 t55:=Tryz.underlying242
 a55:=Tryz.isAgg242
 z55:=Tryz.sizeOf242
 v55:=Tryz.zeroValue242
 t66:=Tryz.underlying255
 a66:=Tryz.isAgg255
 z66:=Tryz.sizeOf255
 v66:=Tryz.zeroValue255
 t70:=Tryz.underlying259
 a70:=Tryz.isAgg259
 z70:=Tryz.sizeOf259
 v70:=Tryz.zeroValue259
 t76:=Tryz.underlying263
 a76:=Tryz.isAgg263
 z76:=Tryz.sizeOf263
 v76:=Tryz.zeroValue263
 t77:=Tryz.underlying264
 a77:=Tryz.isAgg264
 z77:=Tryz.sizeOf264
 v77:=Tryz.zeroValue264 }
def Tryz.sortJ_ren:Go.Shelf.Ren:=⟨fun|6=>109|15=>139|14=>141|28=>163|29=>164|20=>165|21=>166|22=>167|23=>168|24=>169|25=>170|26=>171|27=>172|46=>189|47=>185|48=>186|49=>190|50=>191|57=>195|n=>n,fun|22=>22|24=>3|25=>49|3=>3|39=>223|0=>0|53=>240|55=>242|4=>4|46=>233|45=>232|50=>237|5=>5|9=>9|66=>255|70=>259|76=>263|77=>264|n=>n,fun|n=>n⟩
theorem Tryz.sortJ:Go.Proofs.SlLaysF.n6 Tryz.prog Tryz.sortJ_ren:={
 mixed:=by kernel_rfl
 f6:=⟨Tryz.f109.name,by decide,Tryz.func109.trans (congrArg some (by kernel_rfl))⟩
 f14:=⟨Tryz.f141.name,by decide,Tryz.func141.trans (congrArg some (by kernel_rfl))⟩
 f15:=Tryz.func139.trans (congrArg some (by kernel_rfl))
 f20:=⟨Tryz.f165.name,by decide,Tryz.func165.trans (congrArg some (by kernel_rfl))⟩
 f21:=⟨Tryz.f166.name,by decide,Tryz.func166.trans (congrArg some (by kernel_rfl))⟩
 f22:=⟨Tryz.f167.name,by decide,Tryz.func167.trans (congrArg some (by kernel_rfl))⟩
 f23:=⟨Tryz.f168.name,by decide,Tryz.func168.trans (congrArg some (by kernel_rfl))⟩
 f24:=⟨Tryz.f169.name,by decide,Tryz.func169.trans (congrArg some (by kernel_rfl))⟩
 f25:=⟨Tryz.f170.name,by decide,Tryz.func170.trans (congrArg some (by kernel_rfl))⟩
 f26:=⟨Tryz.f171.name,by decide,Tryz.func171.trans (congrArg some (by kernel_rfl))⟩
 f27:=⟨Tryz.f172.name,by decide,Tryz.func172.trans (congrArg some (by kernel_rfl))⟩
 f28:=Tryz.func163.trans (congrArg some (by kernel_rfl))
 f29:=Tryz.func164.trans (congrArg some (by kernel_rfl))
 f46:=⟨Tryz.f189.name,by decide,Tryz.func189.trans (congrArg some (by kernel_rfl))⟩
 f47:=Tryz.func185.trans (congrArg some (by kernel_rfl))
 f48:=Tryz.func186.trans (congrArg some (by kernel_rfl))
 f49:=⟨Tryz.f190.name,by decide,Tryz.func190.trans (congrArg some (by kernel_rfl))⟩
 f50:=⟨Tryz.f191.name,by decide,Tryz.func191.trans (congrArg some (by kernel_rfl))⟩
 f57:=⟨Tryz.f195.name,by decide,Tryz.func195.trans (congrArg some (by kernel_rfl))⟩
 t0:=Tryz.underlying0
 a0:=Tryz.isAgg0
 z0:=Tryz.sizeOf0
 v0:=Tryz.zeroValue0
 t3:=Tryz.underlying3
 a3:=Tryz.isAgg3
 z3:=Tryz.sizeOf3
 v3:=Tryz.zeroValue3
 t4:=Tryz.underlying4
 a4:=Tryz.isAgg4
 z4:=Tryz.sizeOf4
 v4:=Tryz.zeroValue4
 t5:=Tryz.underlying5
 a5:=Tryz.isAgg5
 z5:=Tryz.sizeOf5
 v5:=Tryz.zeroValue5
 t9:=Tryz.underlying9
 a9:=Tryz.isAgg9
 z9:=Tryz.sizeOf9
 v9:=Tryz.zeroValue9
 t22:=Tryz.underlying22
 a22:=Tryz.isAgg22
 z22:=Tryz.sizeOf22
 v22:=Tryz.zeroValue22
 a24:=Tryz.isAgg3
 z24:=Tryz.sizeOf3
 t25:=Tryz.underlying49
 a25:=Tryz.isAgg49
 z25:=Tryz.sizeOf49
 v25:=Tryz.zeroValue49
 t39:=Tryz.underlying223
 a39:=Tryz.isAgg223
 z39:=Tryz.sizeOf223
 v39:=Tryz.zeroValue223
 t45:=Tryz.underlying232
 a45:=Tryz.isAgg232
 z45:=Tryz.sizeOf232
 v45:=Tryz.zeroValue232
 t46:=Tryz.underlying233
 a46:=Tryz.isAgg233
 z46:=Tryz.sizeOf233
 v46:=Tryz.zeroValue233
 t50:=Tryz.underlying237
 a50:=Tryz.isAgg237
 z50:=Tryz.sizeOf237
 v50:=Tryz.zeroValue237
 t53:=Tryz.underlying240
 a53:=Tryz.isAgg240
 z53:=Tryz.sizeOf240
 v53:=Tryz.zeroValue240
 t55:=Tryz.underlying242
 a55:=Tryz.isAgg242
 z55:=Tryz.sizeOf242
 v55:=Tryz.zeroValue242
 t66:=Tryz.underlying255
 a66:=Tryz.isAgg255
 z66:=Tryz.sizeOf255
 v66:=Tryz.zeroValue255
 t70:=Tryz.underlying259
 a70:=Tryz.isAgg259
 z70:=Tryz.sizeOf259
 v70:=Tryz.zeroValue259
 t76:=Tryz.underlying263
 a76:=Tryz.isAgg263
 z76:=Tryz.sizeOf263
 v76:=Tryz.zeroValue263
 t77:=Tryz.underlying264
 a77:=Tryz.isAgg264
 z77:=Tryz.sizeOf264
 v77:=Tryz.zeroValue264 }
end Go.Proofs
namespace Go.Ev
open Go.Proofs Go.Shelf Go.RowKit Go.Lib Go.Sort
theorem eg106:∀ args w,(callFunc 106 args).run Tryz.prog w=.ok (.enter 106 args) w:=enters_of Tryz.func106 (by kernel_rfl) rfl
theorem eg107:∀ args w,(callFunc 107 args).run Tryz.prog w=.ok (.enter 107 args) w:=enters_of Tryz.func107 (by kernel_rfl) rfl
theorem eg109:∀ args w,(callFunc 109 args).run Tryz.prog w=.ok (.enter 109 args) w:=enters_of Tryz.func109 (by kernel_rfl) rfl
theorem eg110:∀ args w,(callFunc 110 args).run Tryz.prog w=.ok (.enter 110 args) w:=enters_of Tryz.func110 (by kernel_rfl) rfl
theorem con106:SortCon Tryz.prog 106 2:=fun α _ enc hk h1 cf hO g cb blk off cap d w eg hcmp hH hblk hsz=>
 AnyQ.slices_SortFunc_eq Tryz.sortL 2 Tryz.isAgg84 Tryz.sizeOf84 enc hk h1 cf hO g cb blk off cap d w eg hcmp hH hblk hsz
theorem flat1 {α:Type} [Inhabited α] (enc:α→List Value) (d:Array α):flatK enc 1 d=(d.map fun x=>(enc x).headD undef)∨∃ x,(enc x).length≠1:=by
 by_cases h:∃ x,(enc x).length≠1
 ·exact .inr h
 ·left
  have hk:∀ x,(enc x).length=1:=fun x=>Classical.byContradiction fun e=>h ⟨x,e⟩
  refine ext_get! (by simp) fun t ht=>?_
  have ht':t < d.size:=by simpa using ht
  rw[get_flatK _ _ _ t (by simpa using ht'),getElem!_pos _ t (by simpa using ht'),Nat.div_one,Nat.mod_one,getElem!_pos d t ht']
  simp only[Array.getElem_map]
  match hx:enc d[t],hk d[t] with
  | [v],_=>rfl
theorem putCells_map {α:Type} [Inhabited α] (e:α→Value) (off:Nat) (d:Array α):putCells id off (d.map e)=putCells e off d:=by
 funext c
 unfold putCells
 congr 1
 funext k x
 simp only[Array.size_map]
 split
 ·rename_i h
  rw[getElem!_pos _ _ (by simp;omega),getElem!_pos d (k - off) (by omega)]
  simp
 ·rfl
theorem sortWorld1 {α:Type} [Inhabited α] (enc:α→List Value) (hk:∀ x,(enc x).length=1) (w:World) (blk off m:Nat) (dk:Array α) (os:Array Obj) :
  sortWorldK enc 1 w blk off m dk os=sortWorld (fun x=>(enc x).headD undef) w blk off m dk os:=by
 unfold sortWorldK sortWorld putRowK putRow
 rcases flat1 enc dk with h|⟨x,h⟩
 ·rw[h,putCells_map]
 ·exact absurd (hk x) h
theorem con109:SortCon Tryz.prog 109 1:=fun α _ enc hk h1 cf hO g cb blk off cap d w eg hcmp hH hblk hsz=>by
 have e:∀ x,[(enc x).headD undef]=enc x:=fun x=>by
  match hx:enc x,hk x with
  | [v],_=>rfl
 have hw:=sortWorld1 enc hk
 refine(Any.slices_SortFunc_eq Tryz.sortJ (fun x=>(enc x).headD undef) ?_ cf hO g cb blk off cap d w eg ?_ ?_ hblk hsz).mono ?_
 ·intro x
  refine h1 x _ ?_
  have:=e x
  rw[← this];simp
 ·intro m os dk hs x y
  rw[← hw]
  exact hcmp m os dk hs x y
 ·intro j hj
  have hf:flatK enc 1 d=d.map fun x=>(enc x).headD undef:=(flat1 enc d).resolve_right fun⟨x,h⟩=>h (hk x)
  have hH':Go.Sort.Holds id w blk off (flatK enc 1 d):=hH
  rw[hf]at hH'
  have:=hH' j (by simpa using hj)
  rw[getElem!_pos _ j (by simpa using hj)]at this
  rw[getElem!_pos d j hj]
  simpa using this
 ·rintro ev w' ⟨h2,n,os,h3⟩
  exact⟨h2,n,os,by rw[hw];exact h3⟩
theorem sort106_sound {args:List AV} {H H':List MB} {r:AV} (h:sortExt3 Tryz.prog 107 2 cmpLo args H=some (r,H')):CallSound Tryz.prog 106 args H r H':=
 sort3_sound (fun vs w=>eg106 vs w) (fun vs w=>eg107 vs w) (fun p cap fv w=>AnyF.slices_SortFunc_none Tryz.sortL p cap fv w) con106 h
theorem sort109_sound {args:List AV} {H H':List MB} {r:AV} (h:sortExt3 Tryz.prog 110 1 cmpKy args H=some (r,H')):CallSound Tryz.prog 109 args H r H':=
 sort3_sound (fun vs w=>eg109 vs w) (fun vs w=>eg110 vs w) (fun p cap fv w=>AnyF.slices_SortFunc_none Tryz.sortI p cap fv w) con109 h
end Go.Ev
