/- What functions of the program compute; no further conditions. -/
import Derived.Test.YtdklnlnbemogbaaGreatG22
set_option linter.unusedVariables false
set_option linter.unusedSimpArgs false
open List (append_assoc getElem?_eq_getElem getElem?_map getElem?_of_mem getElem_mem head?_drop length_append length_map map_append map_cons map_replicate map_set map_take mem_map mem_of_getElem? nil_append take_of_length_le)
open Nat (le_refl lt_or_ge mul_one zero_add zero_le)
open Option (getD_some map_eq_some_iff)
open Go.Proofs Go.RowKit Go.IntWalk
set_option maxHeartbeats 8000000
set_option maxRecDepth 100000
namespace Go.Ev
attribute [local go_sem] AV.cells Ah Ao bndO bnd evEq eqCells not_false_eq_true not_true_eq_false toList_some Array.size_empty length_append tySzE head?_drop mul_one AY Ae AU AZ Aa AS
section
attribute [local go_sem] evBin strOf
def bothW (a b:AutoL):Int:=if validW (dividesA a.cl) a≠0 then validW (dividesA a.cl) a else if validW (dividesA b.cl) b≠0 then validW (dividesA b.cl) b else if topZ a.cl.flatten≠topZ b.cl.flatten then 1 else 0
theorem f139 (a b:AutoL) (ha:AutoB a) (hb:AutoB b) (H:List MB):call Pg pol1 139 [autoAV a,autoAV b] H=some (I (bothW a b),H):=by
 have hpl:=Ac a;have hpl2:=Ac b;have h18a:=f18 a ha;have h18b:=f18 b hb;have hda:=@DF a.cl;have hdb:=@DF b.cl;refine AQ Tryz.func139 rfl rfl rfl rfl rfl rfl (fun _=>rfl) (by simp[AV.plainL,AV.plain,AM,AT,AJ]) (by simp[AV.plain]) ?_ H;unfold bothW;simp +contextual (disch:=omega) only[Tryz.f139,G9,go_sem,simprocAttr,evAppend,map_append,Gh,↓AE,↓AD,↓AC,↓AA];refine ER (σ:=Nat) (M:=(mskOf (pol1.mask 139) (pol1.gc 139) (pol1.acts 139) 0 2)) rfl (fun i=>(⟨27,[(12,I i),(11,I 2),(10,.sl true [autoAV a,autoAV b]),(3,.rf 1 1 0 0),(2,.rf 0 1 0 0)],[.row 3 [autoAV a] 0,.row 3 [autoAV b] 0]⟩:St)) (fun i=>i<=2/\(1<=i->validW (dividesA a.cl) a=0)/\(2<=i->validW (dividesA b.cl) b=0)) (fun i=>2-i) 0 ?_ ⟨by omega,fun h=>by omega,fun h=>by omega⟩ _ (by first|rfl|(refine AN rfl (by rfl) (by rfl) (by rfl) ?_ ?_<;>simp[AV.underL,AV.under,MB.under,AG,AI,AF,AH,AK,AL,-map_take,AM,AT,AJ]));rintro i ⟨hi,h1,h2⟩;have hc:i=0∨i=1∨i=2:=by omega
 rcases hc with rfl|rfl|rfl
 ·by_cases hv:validW (dividesA a.cl) a=0
  ·rw[if_neg (by simp[hv])];rw[hv]at h18a;simp +contextual (disch:=omega) only[Tryz.f139,G9,go_sem,simprocAttr,evAppend,map_append,Gh,↓AE,↓AD,↓AC,↓AA,h18a];exact⟨1,⟨by omega,fun _=>hv,fun h=>by omega⟩,by omega,(by first|rfl|(refine AN rfl (by rfl) (by rfl) (by rfl) ?_ ?_<;>simp[AV.underL,AV.under,MB.under,AG,AI,AF,AH,AK,AL,-map_take,AM,AT,AJ]))⟩
  ·rw[if_pos hv];simp +contextual (disch:=omega) only[Tryz.f139,G9,go_sem,simprocAttr,evAppend,map_append,Gh,↓AE,↓AD,↓AC,↓AA,h18a,hv];exact fzEq rfl rfl
 ·have hva:=h1 (by omega);rw[if_neg (by simp[hva])];by_cases hv:validW (dividesA b.cl) b=0
  ·rw[if_neg (by simp[hv])];rw[hv]at h18b;simp +contextual (disch:=omega) only[Tryz.f139,G9,go_sem,simprocAttr,evAppend,map_append,Gh,↓AE,↓AD,↓AC,↓AA,h18b];exact⟨2,⟨by omega,fun _=>hva,fun _=>hv⟩,by omega,(by first|rfl|(refine AN rfl (by rfl) (by rfl) (by rfl) ?_ ?_<;>simp[AV.underL,AV.under,MB.under,AG,AI,AF,AH,AK,AL,-map_take,AM,AT,AJ]))⟩
  ·rw[if_pos hv];simp +contextual (disch:=omega) only[Tryz.f139,G9,go_sem,simprocAttr,evAppend,map_append,Gh,↓AE,↓AD,↓AC,↓AA,h18b,hv];exact fzEq rfl rfl
 ·have hva:=h1 (by omega);have hvb:=h2 (by omega);rw[if_neg (by simp[hva]),if_neg (by simp[hvb])];have ea:=(hda (BC hva).2);have eb:=(hdb (BC hvb).2);have h72a:=f72 a ha (fun s hs=>(ea.set s hs).2);have h72b:=f72 b hb (fun s hs=>(eb.set s hs).2);rw[ea.topL_eq.1]at h72a;rw[eb.topL_eq.1]at h72b;generalize topZ a.cl.flatten=ta at *;generalize topZ b.cl.flatten=tb at *;by_cases ht:ta=tb
  ·rw[if_neg (by simp[ht])];simp +contextual (disch:=omega) only[Tryz.f139,G9,go_sem,simprocAttr,evAppend,map_append,Gh,↓AE,↓AD,↓AC,↓AA,h72a,h72b,ht];exact⟨by unfold dOk;kernel_rfl,fzEq rfl rfl⟩
  ·rw[if_pos ht];simp +contextual (disch:=omega) only[Tryz.f139,G9,go_sem,simprocAttr,evAppend,map_append,Gh,↓AE,↓AD,↓AC,↓AA,h72a,h72b,ht];exact⟨by unfold dOk;kernel_rfl,fzEq rfl rfl⟩
theorem f182 (n:Nat) (h0:0<n) (hn:n<=1000000) (H:List MB):call Pg pol1 182 [.sl true [],NV n] H=some (.ms H.length 1 n 0 0,H++[.row 1 (List.replicate n (.sl true [])) 0]):=by
 have fr:frzArgs pol1 182 0 [.sl true [],NV n] H=some ([.sl true [],NV n],H):=Bk _ _ _ rfl;refine CE (pol:=pol1) Tryz.func182 rfl rfl rfl rfl fr ?_;have rp:∀ H1 r H,retPol pol1 182 H1 r H=some (r,H):=fun H1 r H=>rfl;have h23:tySz Pg 23=some 1:=by kernel_rfl
 have h24:tyBytes Pg 23=some 24:=by kernel_rfl
 have h25:tyZero Pg 23=some (.sl true []):=by kernel_rfl
 have h26:tyElem Pg 38=some 23:=by kernel_rfl
 have h27:tyInt Pg 3=some .i64:=by kernel_rfl
 have hroom:roomFor n 24=true:=AS (by omega) (by omega);have hz:evAppZ Pg H 38 3 (.sl true []) (.int .i64 ((n:Int)-0))=some (.ms H.length 1 n 0 n,H++[.row 1 (List.replicate n (.sl true [])) 0]):=by
  rw[Int.sub_zero];unfold evAppZ;simp only[h26,h27,h23,h24,h25];rw[if_pos ⟨by omega,by omega,by omega,by rfl⟩,Int.toNat_natCast];obtain⟨k,rfl⟩:∃ k,n=k+1:=⟨n-1,by omega⟩;have hall:(List.replicate (k+1) (AV.sl true [])).all (fun y=>decide (y.cells.length=1)&&y.cells.all AV.ok)=true:=by
   rw[List.all_eq_true];intro y hy;rw[List.eq_of_mem_replicate hy];rfl
  unfold appCore;rw[if_pos ⟨hall,by omega,rfl⟩];have hl:(List.replicate (k+1) (AV.sl true [])).length=k+1:=by simp
  generalize hR:List.replicate (k+1) (AV.sl true [])=R at *;cases R with
  | nil=>simp at hl
  | cons y R=>
    simp only[List.length_nil,zero_add,hl,hroom,List.all_nil,and_self,if_true,nil_append]
 have hcut:evSlice Pg (H++[.row 1 (List.replicate n (.sl true [])) 0]) 38 (.ms H.length 1 n 0 n) none (some (.int .i64 0)) none=some (.ms H.length 1 n 0 0,H++[.row 1 (List.replicate n (.sl true [])) 0]):=by
  simp[evSlice,h26,h23,bndO,bnd]
 simp +contextual (disch:=omega) only[Tryz.f182,RB,go_sem,simprocAttr,map_append,Qh,↓AE,↓AD,↓AC,↓AA,h23,hz,hcut];rw[rp]
theorem Me {H:List MB}{id tot len:Nat}{els:List AV}{X:Cls} (hr:getRow H id=some (1,els,0)) (hl:els.length=tot) (h:len+X.length<=tot) (ht:tot<=1000000) :
  evAppend Pg H 38 38 (.ms id 1 tot 0 len) (.sl false (X.map setAV9))=some (.ms id 1 tot 0 (len+X.length),H.set id (.row 1 (els.take len++(X.map setAV9++els.drop (len+X.length))) 0)):=by
 have h26:tyElem Pg 38=some 23:=by kernel_rfl
 have h27:tyNotInt Pg 38=true:=by kernel_rfl
 have h23:tySz Pg 23=some 1:=by kernel_rfl
 have h24:tyBytes Pg 23=some 24:=by kernel_rfl
 have h25:tyZero Pg 23=some (.sl true []):=by kernel_rfl
 have hs:srcElems Pg H 23 (.sl false (X.map setAV9))=some (X.map setAV9):=rfl;have hall:(X.map setAV9).all (fun y=>decide (y.cells.length=1)&&y.cells.all AV.ok)=true:=by
  rw[List.all_eq_true];intro y hy;obtain⟨s,_,rfl⟩:=mem_map.1 hy;rfl
 have hroom:roomFor (len+X.length) 24=true:=AS (by omega) (by omega);have hxl:(X.map setAV9).length=X.length:=by simp
 unfold evAppend;simp only[h26,h27,h23,h24,h25,hs];rw[if_pos ⟨hall,by omega,rfl⟩];simp only[hr];rw[if_pos ⟨hl,trivial,trivial,by omega⟩];generalize X.map setAV9=ys at *;cases ys with
 | nil=>
   have h0:X.length=0:=by rw[<- hxl];rfl
   have hid:=(List.getElem?_eq_some_iff.1 (At hr)).1;simp only[h0,Nat.add_zero,nil_append,List.take_append_drop];congr 2;exact(set_self (At hr)).symm
 | cons y ys=>
   rw[hxl,zero_add,if_pos ⟨zero_le _,hroom⟩,if_pos h]
theorem FE (n k:Nat):AV.underL n (List.replicate k (.sl true []))=true:=by
 induction k with
 | zero=>rfl
 | succ k ih=>rw[List.replicate_succ];simp only[AV.underL,AV.under,ih,Bool.and_self]
def part (A B:Cls):Nat->Cls
 | 0=>[]
 | 1=>A
 | _=>A++B
theorem f140 (A B:Cls) (h0:0<A.length+B.length) (hn:A.length+B.length<=1000000) (H:List MB) :
  call Pg pol1 140 [.sl false [.sl false (A.map setAV9),.sl false (B.map setAV9)]] H=some (.sl false ((A++B).map setAV9),H):=by
 refine AQ Tryz.func140 rfl rfl rfl rfl rfl rfl (fun _=>rfl) (by simp[AV.plainL,AV.plain,AM]) (by have:=AM (A++B);simp only[AV.plain,this];rfl) ?_ H;simp +contextual (disch:=omega) only[Tryz.f140,G8,go_sem,simprocAttr,evAppend,map_append,Gg,↓AE,↓AD,↓AC,↓AA];refine AR (M:=(mskOf (pol1.mask 140) (pol1.gc 140) (pol1.acts 140) 0 3)) rfl 2 (fun i=>(⟨36,[(11,I i),(10,I 2),(9,.sl false [.sl false (A.map setAV9),.sl false (B.map setAV9)]),(3,.int .i64 ((part A B i).length:Nat)),(0,.sl false [.sl false (A.map setAV9),.sl false (B.map setAV9)])],[]⟩:St)) (fun i=>True) ?_ ?_ trivial _ (by first|rfl|(refine AN rfl (by rfl) (by rfl) (by rfl) ?_ ?_<;>simp[AV.underL,AV.under,MB.under,AG,AI,AF,AH,AK,AL,-map_take,AM]))
 ·intro i hi _;rcases(by omega:i=0∨i=1) with rfl|rfl
  ·have e0:(part A B 0).length=0:=rfl;have e1:(part A B (0+1)).length=A.length:=rfl;rw[e0,e1];simp +contextual (disch:=omega) only[Tryz.f140,G8,go_sem,simprocAttr,evAppend,map_append,Gg,↓AE,↓AD,↓AC,↓AA];rw[Int.zero_add];exact(by first|rfl|(refine AN rfl (by rfl) (by rfl) (by rfl) ?_ ?_<;>simp[AV.underL,AV.under,MB.under,AG,AI,AF,AH,AK,AL,-map_take,AM]))
  ·have e0:(part A B 1).length=A.length:=rfl;have e1:(part A B (1+1)).length=A.length+B.length:=by simp[part]
   rw[e0,e1];have hw:IntKind.i64.wrap ((A.length:Int)+(B.length:Int))=((A.length+B.length:Nat):Int):=by rw[i64_in]<;>omega
   simp +contextual (disch:=omega) only[Tryz.f140,G8,go_sem,simprocAttr,evAppend,map_append,Gg,↓AE,↓AD,↓AC,↓AA,hw];exact(by first|rfl|(refine AN rfl (by rfl) (by rfl) (by rfl) ?_ ?_<;>simp[AV.underL,AV.under,MB.under,AG,AI,AF,AH,AK,AL,-map_take,AM]))
 ·intro _;have e0:(part A B 2).length=A.length+B.length:=by simp[part]
  rw[e0];have h182:=fun H=>f182 (A.length+B.length) h0 hn H;generalize hN:A.length+B.length=n at *;simp +contextual (disch:=omega) only[Tryz.f140,G8,go_sem,simprocAttr,evAppend,map_append,Gg,↓AE,↓AD,↓AC,↓AA,h182];refine AR (M:=(mskOf (pol1.mask 140) (pol1.gc 140) (pol1.acts 140) 0 11)) rfl 2 (fun i=>(⟨36,[(27,I i),(26,I 2),(25,.sl false [.sl false (A.map setAV9),.sl false (B.map setAV9)]),(6,.ms 0 1 n 0 (part A B i).length)],[.row 1 ((part A B i).map setAV9++List.replicate (n-(part A B i).length) (.sl true [])) 0]⟩:St)) (fun i=>True) ?_ ?_ trivial _ ?_
  ·intro i hi _;rcases(by omega:i=0∨i=1) with rfl|rfl
   ·have e0:part A B 0=[]:=rfl;have e1:part A B (0+1)=A:=rfl;rw[e0,e1];have a1:=Me (H:=[.row 1 (([]:Cls).map setAV9++List.replicate (n-([]:Cls).length) (.sl true [])) 0]) (id:=0) (tot:=n) (len:=0) (X:=A) rfl (by simp) (by omega) (by omega);simp only[List.map_nil,nil_append,List.length_nil,Nat.sub_zero,List.take_zero,zero_add,List.drop_replicate,List.set_cons_zero]at a1 |-;generalize List.replicate n (AV.sl true [])=Z at *;simp +contextual (disch:=omega) only[Tryz.f140,G8,go_sem,simprocAttr,map_append,Gg,↓AE,↓AD,↓AC,↓AA,a1];exact(by first|rfl|(refine AN rfl (by rfl) (by rfl) (by rfl) ?_ ?_<;>simp[AV.underL,AV.under,MB.under,AG,AI,AF,AH,AK,AL,-map_take,AM,Cj,FE]))
   ·have e0:part A B 1=A:=rfl;have e1:part A B (1+1)=A++B:=rfl;rw[e0,e1];have a1:=Me (H:=[.row 1 (A.map setAV9++List.replicate (n-A.length) (.sl true [])) 0]) (id:=0) (tot:=n) (len:=A.length) (X:=B) rfl (by simp;omega) (by omega) (by omega);have et:(A.map setAV9++List.replicate (n-A.length) (AV.sl true [])).take A.length=A.map setAV9:=by
     rw[List.take_append_of_le_length (by simp)];exact take_of_length_le (by simp)
    have ed:(A.map setAV9++List.replicate (n-A.length) (AV.sl true [])).drop (A.length+B.length)=List.replicate (n-(A++B).length) (AV.sl true []):=by
     rw[List.drop_append,List.drop_of_length_le (by simp),nil_append,List.drop_replicate];congr 1;simp;omega
    rw[et,ed,<- append_assoc,<- map_append]at a1;simp only[List.set_cons_zero]at a1;rw[show (A++B).length=A.length+B.length by simp]at a1 |-;generalize A.map setAV9++List.replicate (n-A.length) (AV.sl true [])=Z at *;simp +contextual (disch:=omega) only[Tryz.f140,G8,go_sem,simprocAttr,Gg,↓AE,↓AD,↓AC,↓AA,a1];generalize A++B=C;exact(by first|rfl|(refine AN rfl (by rfl) (by rfl) (by rfl) ?_ ?_<;>simp[AV.underL,AV.under,MB.under,AG,AI,AF,AH,AK,AL,-map_take,AM,Cj,FE]))
  ·intro _;rw[show part A B 2=A++B from rfl];have e0:(A++B).length=n:=by simp[hN]
   rw[e0,Nat.sub_self,List.replicate_zero,List.append_nil];generalize A++B=C at *;simp +contextual (disch:=omega) only[Tryz.f140,G8,go_sem,simprocAttr,evAppend,map_append,Gg,↓AE,↓AD,↓AC,↓AA];exact⟨_,As (z:=0) rfl (by simp[e0]) (AM _)⟩
  ·exact(by first|rfl|(refine AN rfl (by rfl) (by rfl) (by rfl) ?_ ?_<;>simp[AV.underL,AV.under,MB.under,AG,AI,AF,AH,AK,AL,-map_take,AM,Cj,FE]))
end
section
variable {σ:Type} [DecidableEq σ]
structure Expl (m:Nat) (step:σ->Nat->σ) (first:σ) (L:List σ):Prop where
 inv:BInv (fun x=>(List.range m).map (step x)) L L.length 0
 l0:L[0]?=some first
def exDA (m:Nat) (step:σ->Nat->σ) (acc:σ->Bool) (cl:Int->Nat) (L:List σ):DA:=
 ⟨L.length,m,fun i c=>match L[i]? with
   | some x=>L.idxOf (step x c)
   | none=>0,fun i=>match L[i]? with
   | some x=>acc x
   | none=>false,cl⟩
def runT (step:σ->Nat->σ) (cl:Int->Nat):σ->List Int->σ
 | x,[]=>x
 | x,y::t=>runT step cl (step x (cl y)) t
variable {m:Nat}{step:σ->Nat->σ}{acc:σ->Bool}{first:σ}{cl:Int->Nat}{L:List σ}{top:Int}
theorem Expl.closed {σ':Type}{m:Nat}{step:σ'->Nat->σ'} {first:σ'} {L:List σ'} (h:Expl m step first L) {x:σ'} (hx:x∈L) {c:Nat} (hc:c<m):step x c∈L:=by
 obtain⟨i,hi,e⟩:=List.getElem_of_mem hx;obtain⟨v,hv,_⟩:=h.inv.grow i c (.inl hi) x (step x c) (by rw[getElem?_eq_getElem hi,e]) (by simp[hc]);exact mem_of_getElem? hv
theorem FO {α:Type} [DecidableEq α] {l:List α}{x:α} (h:x∈l):l[l.idxOf x]?=some x:=by
 have h1:=List.idxOf_lt_length_of_mem h;rw[getElem?_eq_getElem h1];simp
theorem Gq {α:Type} [DecidableEq α] {l:List α}{x:α}{i:Nat} (hn:l.Nodup) (h:l[i]?=some x):l.idxOf x=i:=by
 obtain⟨hi,e⟩:=List.getElem?_eq_some_iff.1 h;rw[<- e];exact hn.idxOf_getElem i hi
theorem Expl.run (h:Expl m step first L) (hcl:∀ x,Sy top x->cl x<m):∀(w:List Int) (i:Nat) (x:σ),Tx top w->L[i]?=some x->L[(exDA m step acc cl L).run i w]?=some (runT step cl x w)
 | [],i,x,_,hi=>hi
 | y::w,i,x,hw,hi=>by
   have hc:=hcl y (hw y (by simp));have hm:=h.closed (mem_of_getElem? hi) hc;have e:(exDA m step acc cl L).nx i (cl y)=L.idxOf (step x (cl y)):=by
    show (match L[i]? with
     | some x=>L.idxOf (step x (cl y))
     | none=>0)=_
    rw[hi]
   show L[(exDA m step acc cl L).run ((exDA m step acc cl L).nx i (cl y)) w]?=some (runT step cl (step x (cl y)) w);rw[e];exact h.run hcl w _ _ (fun z hz=>hw z (by simp[hz])) (FO hm)
theorem Expl.texts (h:Expl m step first L) (hcl:∀ x,Sy top x->cl x<m) {w:List Int} (hw:Tx top w):(exDA m step acc cl L).ac ((exDA m step acc cl L).run 0 w)=acc (runT step cl first w):=by
 have e:=h.run (acc:=acc) hcl w 0 first hw h.l0
 show (match L[(exDA m step acc cl L).run 0 w]? with
  | some x=>acc x
  | none=>false)=_
 rw[e]
theorem Expl.ok (h:Expl m step first L) (hcl:∀ x,Sy top x->cl x<m) (hs:∀ c,c<m->∃ x,Sy top x/\cl x=c):(exDA m step acc cl L).Ok top where
 pos:=getElem?_ne_none h.l0
 lt:=fun i c hi hc=>by
  have hi':i<L.length:=hi;show (match L[i]? with
   | some x=>L.idxOf (step x c)
   | none=>0)<L.length
  rw[getElem?_eq_getElem hi'];exact List.idxOf_lt_length_of_mem (h.closed (getElem_mem hi') hc)
 cllt:=hcl
 surj:=hs
theorem Expl.nxAt (h:Expl m step first L) {i:Nat}{x:σ} (hi:L[i]?=some x) (c:Nat):(exDA m step acc cl L).nx i c=L.idxOf (step x c):=by
 show (match L[i]? with
  | some x=>L.idxOf (step x c)
  | none=>0)=_
 rw[hi]
theorem Expl.reach (h:Expl m step first L):∀ s,0<s->s<(exDA m step acc cl L).n->∃ s' c',s'<s/\c'<m/\(exDA m step acc cl L).nx s' c' = s:=by
 intro s h0 hs;obtain⟨i',c',_,b2,y,z,m1,m2,m3⟩:=h.inv.met s h0 hs;have hc:c'<m:=by have:=getElem?_ne_none m2;simpa using this
 have e:step y c' = z:=by simpa [hc] using m2
 exact⟨i',c',b2,hc,by rw[h.nxAt m1,e];exact Gq h.inv.nodup m3⟩
theorem Expl.grow (h:Expl m step first L):∀ s c,s<(exDA m step acc cl L).n->c<m->∀ u,0<u->u<(exDA m step acc cl L).nx s c->∃ s' c',s'<(exDA m step acc cl L).n/\c'<m/\Before s' c' s c/\(exDA m step acc cl L).nx s' c' = u:=by
 intro s c hs hc u h0 hu;have hs':s<L.length:=hs;have e1:=getElem?_eq_getElem hs';rw[h.nxAt e1]at hu;obtain⟨v,hv,g⟩:=h.inv.grow s c (.inl hs') _ (step L[s] c) e1 (by simp[hc]);rw[Gq h.inv.nodup hv]at hu;obtain⟨i',c',b1,y,z,m1,m2,m3⟩:=g u h0 hu;have hc':c'<m:=by have:=getElem?_ne_none m2;simpa using this
 have e:step y c' = z:=by simpa [hc'] using m2
 exact⟨i',c',getElem?_ne_none m1,hc',b1,by rw[h.nxAt m1,e];exact Gq h.inv.nodup m3⟩
theorem Expl.min (h:Expl m step first L) (hcl:∀ x,Sy top x->cl x<m) (hs:∀ c,c<m->∃ x,Sy top x/\cl x=c)
  (hd:∀ x y,x∈L->y∈L->x≠y->∃ w,Tx top w/\acc (runT step cl x w)≠acc (runT step cl y w))
  (hc:∀ c d,c<m->d<m->c≠d->∃ x∈L,step x c≠step x d)
  (ho:∀ c,c<m->∃ x,Sy top x/\cl x=c/\∀ y,Sy top y->c<cl y->x<y):(exDA m step acc cl L).Min top where
 ok:=h.ok hcl hs
 reach:=h.reach
 grow:=h.grow
 dist:=fun i j hi hj hij=>by
  have hi':i<L.length:=hi;have hj':j<L.length:=hj;have hne:L[i]≠L[j]:=fun e=>hij (by
   have a:=h.inv.nodup.idxOf_getElem i hi';have b:=h.inv.nodup.idxOf_getElem j hj';rw[e]at a;omega)
  obtain⟨w,hw,g⟩:=hd _ _ (getElem_mem hi') (getElem_mem hj') hne;refine⟨w,hw,?_⟩;have e1:=h.run (acc:=acc) hcl w i _ hw (getElem?_eq_getElem hi');have e2:=h.run (acc:=acc) hcl w j _ hw (getElem?_eq_getElem hj');show (match L[(exDA m step acc cl L).run i w]? with
   | some x=>acc x
   | none=>false)≠(match L[(exDA m step acc cl L).run j w]? with
   | some x=>acc x
   | none=>false)
  rw[e1,e2];exact g
 cdist:=fun c d h1 h2 h3=>by
  obtain⟨x,hx,hne⟩:=hc c d h1 h2 h3;obtain⟨i,hi,e⟩:=List.getElem_of_mem hx;have e1:L[i]?=some x:=by rw[getElem?_eq_getElem hi,e]
  refine⟨i,hi,?_⟩;rw[h.nxAt e1,h.nxAt e1];intro e2;have a:=FO (h.closed hx h1);have b:=FO (h.closed hx h2);rw[e2,b]at a;exact hne (Option.some.inj a).symm
 order:=ho
end
section
variable {σ:Type} [DecidableEq σ]
structure ExI (f:σ->List σ) (U R:List σ) (i:Nat) (l:List σ):Prop where
 nodup:l.Nodup
 inU:∀ x∈l,x∈U
 le:i<=l.length
 go:∃ k,bfs f k i l=R/\U.length+1<=k+i
variable {f:σ->List σ}{U R l:List σ}{i:Nat}
theorem ExI.start {x:σ} (hx:x∈U):ExI f U (bfs f (U.length+1) 0 [x]) 0 [x]:=
 ⟨by simp,fun y hy=>by simp at hy;subst hy;exact hx,zero_le _,U.length+1,rfl,le_refl _⟩
theorem ExI.step (h:ExI f U R i l) (hU:∀ x∈U,∀ y∈f x,y∈U) {x:σ} (hx:l[i]?=some x):ExI f U R (i+1) (addAll l (f x)):=by
 obtain⟨h1,h2,h3,k,h4,h5⟩:=h;have hi:=getElem?_ne_none hx;have hxU:=h2 x (mem_of_getElem? hx);refine⟨Ay _ _ h1,fun t ht=>?_,by have:=Eg (f x) l;omega,?_⟩
 ·rcases(Be _ _ _).1 ht with h|h
  ·exact h2 t h
  ·exact hU x hxU t h
 ·have hlen:=Ar l U h1 h2;obtain⟨k',rfl⟩:∃ k',k=k' + 1:=⟨k-1,by omega⟩;rw[bfs,hx]at h4;exact⟨k',h4,by omega⟩
theorem ExI.fin (h:ExI f U R i l) (hi:¬ i<l.length):l=R:=by
 obtain⟨_,_,_,k,h4,_⟩:=h;have e:l[i]?=none:=List.getElem?_eq_none (by omega);cases k with
 | zero=>exact h4
 | succ k=>rw[bfs,e]at h4;exact h4
theorem ExI.pre (h:ExI f U R i l):∃ m,R=l++m:=by
 obtain⟨_,_,_,k,h4,_⟩:=h;rw[<- h4];exact Mb f k i l
theorem Gw {x:σ}{k:Nat}:(bfs f k 0 [x]).Nodup:=Fe f k 0 [x] (by simp)
theorem JF (hU:∀ x∈U,∀ y∈f x,y∈U) {x:σ} (hx:x∈U) {k:Nat}:∀ y∈bfs f k 0 [x],y∈U:=JV f (·∈U) hU k 0 [x] (fun y hy=>by simp at hy;subst hy;exact hx)
theorem MV {m:Nat}{step:σ->Nat->σ}{x:σ} (hU:∀ x∈U,∀ c,c<m->step x c∈U) (hx:x∈U) (he:bfs (fun x=>(List.range m).map (step x)) (U.length+1) 0 [x]=R):Expl m step x R:=by
 subst he;have hU':∀ x∈U,∀ y∈(List.range m).map (step x),y∈U:=fun x hx y hy=>by
  obtain⟨c,hc,rfl⟩:=mem_map.1 hy;exact hU x hx c (List.mem_range.1 hc)
 have hl:=Ar _ U (Gw (f:=fun x=>(List.range m).map (step x)) (x:=x) (k:=U.length+1)) (JF hU' hx);obtain⟨h1,mm,h2⟩:=JU (fun x=>(List.range m).map (step x)) (U.length+1) 0 [x] (BInv.start _ _) (by simp) (by omega);exact⟨h1,by rw[h2];rfl⟩
def ixOf (l:List σ) (x:σ):Nat:=l.idxOf x
def exRow (m:Nat) (step:σ->Nat->σ) (R:List σ) (x:σ):List Nat:=(List.range m).map fun c=>R.idxOf (step x c)
theorem IZ {m:Nat}{step:σ->Nat->σ}{R:List σ}{x:σ}{c:Nat} (h:c<m):(exRow m step R x)[c]?=some (R.idxOf (step x c)):=by simp[exRow,h]
theorem MR {A m:List σ} (h:R=A++m) {z:σ} (hz:z∈A):R.idxOf z=A.idxOf z:=by rw[h];exact idxOf_append hz
theorem MS {A m:List σ}{z:σ} (h:R=(A++[z])++m) (hz:z ∉ A):R.idxOf z=A.length:=by
 rw[h,append_assoc,List.idxOf_append,if_neg hz];simp
theorem DM (l xs:List σ) (c:Nat):∃ m,addAll l xs=addAll l (xs.take c)++m:=by
 have h:=Ba (xs.take c) (xs.drop c) l;rw[List.take_append_drop]at h;rw[h];exact A6 _ _
end
end Go.Ev
namespace Go.Ev
attribute [local go_sem] AV.cells Ah Ao bndO bnd evEq eqCells not_false_eq_true not_true_eq_false toList_some Array.size_empty length_append tySzE head?_drop mul_one AY Ae AU AZ Aa AS
section
attribute [local go_sem] evAppend map_append
def orW (x:Int) (r:Nat):Int:=IntKind.u8.wrap ((BitVec.ofInt 8 x ||| BitVec.ofInt 8 (2 ^ r:Int)).toNat:Int)
theorem Ps {x r:Nat} (hx:x<2 ^ 8) (hr:r<8):orW (x:Int) r=((x ||| 2 ^ r:Nat):Int):=by
 have h1:(2:Nat) ^ r<2 ^ 8:=Nat.pow_lt_pow_right (by omega) hr;have h2:x ||| 2 ^ r<2 ^ 8:=Nat.or_lt_two_pow hx h1;have e1:(BitVec.ofInt 8 (x:Int)).toNat=x:=by
  rw[BitVec.ofInt_natCast,BitVec.toNat_ofNat,Nat.mod_eq_of_lt hx]
 have e2:(BitVec.ofInt 8 (2 ^ r:Int)).toNat=2 ^ r:=by
  have:(2 ^ r:Int)=((2 ^ r:Nat):Int):=by simp
  rw[this,BitVec.ofInt_natCast,BitVec.toNat_ofNat,Nat.mod_eq_of_lt h1]
 unfold orW;rw[BitVec.toNat_or,e1,e2];simp only[IntKind.wrap,IntKind.bits,IntKind.signed];simp;omega
def WB (m:Nat) (w:List Int) (b:Nat->Bool):Prop:=w.length=m/\∀ i,i<m->∃ x:Nat,w[i]?=some (x:Int)/\x<2 ^ 8/\∀ r,r<8->x.testBit r=b (8*i+r)
theorem WB.inj {m:Nat}{w:List Int}{b b':Nat->Bool} (h:WB m w b) (h':WB m w b') {j:Nat} (hj:j<8*m):b j=b' j:=by
 obtain⟨x,h1,_,h3⟩:=h.2 (j / 8) (by omega);obtain⟨y,g1,_,g3⟩:=h'.2 (j / 8) (by omega);rw[h1]at g1;obtain rfl:x=y:=by have:=Option.some.inj g1;omega
 have a:=h3 (j % 8) (by omega);have c:=g3 (j % 8) (by omega);rw[show 8*(j / 8)+j % 8=j by omega]at a c;rw[<- a,<- c]
theorem WB.zero (m:Nat):WB m (List.replicate m 0) fun _=>false:=by
 refine⟨by simp,fun i hi=>⟨0,?_,by decide,fun r _=>by simp⟩⟩;rw[List.getElem?_replicate,if_pos hi];rfl
theorem WB.congr {m:Nat}{w:List Int}{b b':Nat->Bool} (h:WB m w b) (hb:∀ j,b j=b' j):WB m w b':=by
 have:b=b':=funext hb;rw[<- this];exact h
theorem WB.put {m:Nat}{w:List Int}{b:Nat->Bool} (h:WB m w b) {s:Nat}{x:Int} (hx:w[s / 8]?=some x):WB m (w.set (s / 8) (orW x (s % 8))) fun j=>decide (j=s)||b j:=by
 refine⟨by rw[List.length_set];exact h.1,fun i hi=>?_⟩;obtain⟨y,h1,h2,h3⟩:=h.2 i hi;by_cases e:s / 8=i
 ·subst e;rw[h1]at hx;obtain rfl:(y:Int)=x:=Option.some.inj hx;rw[List.getElem?_set_self (by rw[h.1];exact hi),Ps h2 (by omega)];refine⟨_,rfl,Nat.or_lt_two_pow h2 (Nat.pow_lt_pow_right (by omega) (by omega)),fun r hr=>?_⟩;rw[Nat.testBit_or,h3 r hr,Nat.testBit_two_pow];by_cases e2:s % 8=r
  ·have e3:8*(s / 8)+r=s:=by omega
   simp[e2,e3]
  ·have e3:¬ 8*(s / 8)+r=s:=by omega
   simp[e2,e3]
 ·rw[List.getElem?_set_ne e];refine⟨y,h1,h2,fun r hr=>?_⟩;have e3:¬ 8*i+r=s:=by omega
  simp only[e3,decide_false,Bool.false_or];exact h3 r hr
def bitsN (bs:List Bool):Nat->List Int
 | 0=>List.replicate ((bs.length+7) / 8) 0
 | i+1=>if bs[i]?.getD false=true then(bitsN bs i).set (i / 8) (orW ((bitsN bs i)[i / 8]?.getD 0) (i % 8)) else bitsN bs i
theorem Dr (bs:List Bool):∀ i,i<=bs.length->WB ((bs.length+7) / 8) (bitsN bs i) fun j=>decide (j<i)&&bs[j]?.getD false
 | 0,_=>(WB.zero _).congr fun j=>by simp
 | i+1,hi=>by
   have ih:=Dr bs i (by omega);rw[bitsN];split
   ·rename_i hb;obtain⟨x,h1,_,_⟩:=ih.2 (i / 8) (by omega);rw[h1,getD_some];refine(ih.put h1).congr fun j=>?_;rcases Nat.lt_trichotomy j i with g|g|g
    ·simp[g,show j<i+1 by omega,show ¬ j=i by omega]
    ·subst g;simp[hb]
    ·simp[show ¬ j<i by omega,show ¬ j<i+1 by omega,show ¬ j=i by omega]
   ·rename_i hb;refine ih.congr fun j=>?_;rcases Nat.lt_trichotomy j i with g|g|g
    ·simp[g,show j<i+1 by omega]
    ·subst g;simp at hb;simp[hb]
    ·simp[show ¬ j<i by omega,show ¬ j<i+1 by omega]
def bitsS (bs:List Bool):ByteArray:=strB (bitsN bs bs.length)
theorem HP (bs:List Bool):∀ x∈bitsN bs bs.length,0<=x/\x<256:=fun x hx=>by
 obtain⟨i,hi,e⟩:=List.getElem_of_mem hx;have h:=Dr bs bs.length (le_refl _);obtain⟨y,h1,h2,_⟩:=h.2 i (by rw[<- h.1];exact hi);rw[getElem?_eq_getElem hi,e]at h1;have:=Option.some.inj h1;omega
theorem NZ {a b:List Bool} (hl:a.length=b.length) (h:bitsS a=bitsS b):a=b:=by
 have e:bitsN a a.length=bitsN b b.length:=Jk (HP a) (HP b) h;have ha:=Dr a a.length (le_refl _);have hb:=Dr b b.length (le_refl _);rw[e,hl]at ha;refine List.ext_getElem hl fun i h1 h2=>?_;have:=ha.inj hb (j:=i) (by omega)
 simpa [h1,h2,hl] using this
theorem NJ (x r:Int) (n:Nat) (h:r=2 ^ n):evBin .or .u8 x r=some (.int .u8 (orW x n)):=by subst h;rfl
theorem Po (n:Nat) (h:n<8):evShift .shl .u8 1 (n:Int)=some (.int .u8 ((2:Int) ^ n)):=by
 have:∀ n,n<8->evShift .shl .u8 1 ((n:Nat):Int)=some (.int .u8 ((2:Int) ^ n)):=by
  intro n hn;rcases(by omega:n=0∨n=1∨n=2∨n=3∨n=4∨n=5∨n=6∨n=7) with rfl|rfl|rfl|rfl|rfl|rfl|rfl|rfl<;>rfl
 exact this n h
theorem quo8 (n:Nat) (h:n<=2000000):evBin .quo .i64 (n:Int) 8=some (I ((n / 8:Nat):Int)):=by
 have:IntKind.i64.wrap ((n:Int).tdiv 8)=((n / 8:Nat):Int):=by
  have e:(n:Int).tdiv 8=((n / 8:Nat):Int):=rfl;rw[e,i64_in];omega
 show (if(8:Int)=0 then none else some (I (IntKind.i64.wrap ((n:Int).tdiv 8))))=_;rw[if_neg (by decide),this]
theorem rem8 (n:Nat):evBin .rem .i64 (n:Int) 8=some (I ((n % 8:Nat):Int)):=by
 have:(n:Int).tmod 8=((n % 8:Nat):Int):=rfl;show (if(8:Int)=0 then none else some (I ((n:Int).tmod 8)))=_;rw[if_neg (by decide),this]
theorem f74 (bs:List Bool) (hl:bs.length<=1000000) (H:List MB):call Pg pol1 74 [.sl false (bs.map AV.bool)] H=some (.str (bitsS bs),H):=by
 have hpl:=AJ bs;refine AQ Tryz.func74 rfl rfl rfl rfl rfl rfl (fun _=>rfl) (by simp[AV.plainL,AV.plain,hpl]) rfl ?_ H;have hw:IntKind.i64.wrap ((bs.length:Int)+7)=((bs.length+7:Nat):Int):=by rw[i64_in]<;>omega
 have hq:=quo8 (bs.length+7) (by omega);have hroom:roomFor (((bs.length+7) / 8:Nat):Int).toNat 1=true:=AS (by omega) (by omega);simp +contextual (disch:=omega) only[Tryz.f74,dd74,go_sem,simprocAttr,evBin,strOf,mu74,↓AE,↓AD,↓AC,↓AA,hw,hq,hroom];have hN:(((bs.length+7:Nat):Int) / 8).toNat=(bs.length+7) / 8:=by omega
 rw[hN];have hok:=Dr bs;have h0:bitsN bs 0=List.replicate ((bs.length+7) / 8) 0:=rfl;have hst:∀ i,bitsN bs (i+1)=if bs[i]?.getD false=true then(bitsN bs i).set (i / 8) (orW ((bitsN bs i)[i / 8]?.getD 0) (i % 8)) else bitsN bs i:=fun i=>rfl
 have hNi:∀ i,i<bs.length->i / 8<(bs.length+7) / 8:=fun i hi=>by omega
 generalize (bs.length+7) / 8=N at *;refine AR (M:=(mskOf (pol1.mask 74) (pol1.gc 74) (pol1.acts 74) 0 3)) rfl bs.length (fun i=>(⟨32,[(13,I i),(12,I bs.length),(11,.sl false (bs.map AV.bool)),(3,.ms 0 1 N 0 N)],[.row 1 ((bitsN bs i).map kB8) 0]⟩:St)) (fun i=>True) ?_ ?_ trivial _ ?_
 ·intro i hi _;obtain⟨v,hv⟩:∃ v,bs[i]?=some v:=⟨_,getElem?_eq_getElem hi⟩;have hv':(bs.map AV.bool)[i]?=some (.bool v):=by simp[hv]
  have hok:=hok i (by omega);have hbl:=hok.1;rw[hst i,hv,getD_some];obtain⟨x,hx,_,_⟩:=hok.2 (i / 8) (hNi i hi);rw[hx,getD_some];have hx':((bitsN bs i).map kB8)[i / 8]?=some (.int .u8 x):=by simp[hx]
  have hml:((bitsN bs i).map kB8).length=N:=by rw[length_map];exact hbl
  have q1:=quo8 i (by omega);have q2:=rem8 i;have q3:=Po (i % 8) (by omega);have q4:=NJ x (2 ^ (i % 8)) (i % 8) rfl;have hset:∀ y,((bitsN bs i).map kB8).set (i / 8) (.int .u8 y)=((bitsN bs i).set (i / 8) y).map kB8:=fun y=>by rw[map_set]
  clear hst h0;cases v with
  | false=>
    rw[if_neg (by simp)];generalize bitsN bs i=B at *;simp +contextual (disch:=omega) only[Tryz.f74,dd74,go_sem,simprocAttr,evBin,strOf,mu74,↓AE,↓AD,↓AC,↓AA,hv'];exact(by first|rfl|(refine AN rfl (by rfl) (by rfl) (by rfl) ?_ ?_<;>simp[AV.underL,AV.under,MB.under,AG,AI,AF,AH,AK,AL,-map_take,AJ,DX]))
  | true=>
    rw[if_pos rfl];generalize bitsN bs i=B at *;have hw1:IntKind.i64.wrap ((i:Int)+1)=((i+1:Nat):Int):=by rw[i64_in]<;>omega
    have hls:evBin .lss .i64 (i:Int) (bs.length:Int)=some (.bool true):=by
     show some (AV.bool (decide ((i:Int)<bs.length)))=_;rw[decide_eq_true (by omega)]
    have hnx:NV i=I i:=rfl;simp +contextual (disch:=omega) only[Tryz.f74,dd74,go_sem,simprocAttr,strOf,mu74,↓AE,↓AD,↓AC,↓AA,hv',hls,q1,q2,q3,q4,hx',hml,hset,BG,hw1];repeat' (first|intro _|apply And.intro|(unfold dOk;kernel_rfl)|exact St.beq_refl _|exact Aq|(show altO _ _ _ _=true;kernel_rfl)|(show (_||_)=true;kernel_rfl)|(show (_&&_)=true;kernel_rfl))
    generalize B.set (i / 8) (orW (x:Int) (i % 8))=B2;exact(by first|rfl|(refine AN rfl (by rfl) (by rfl) (by rfl) ?_ ?_<;>simp[AV.underL,AV.under,MB.under,AG,AI,AF,AH,AK,AL,-map_take,AJ,DX]))
 ·intro _;have hks:bitsS bs=strB (bitsN bs bs.length):=rfl;rw[hks];have hkl:=(hok bs.length (le_refl _)).1;generalize bitsN bs bs.length=K at *;have hst:strOf [.row 1 (K.map kB8) 0] (.ms 0 1 N 0 N)=some (strB K):=by
   have h1:(K.map kB8).length=N:=by rw[length_map];exact hkl
   simp only[strOf,elemsOf,getRow,List.getElem?_cons_zero,h1,and_self,if_true,List.drop_zero];rw[take_of_length_le (by omega),HM];rfl
  simp +contextual (disch:=omega) only[Tryz.f74,dd74,go_sem,simprocAttr,evBin,mu74,↓AE,↓AD,↓AC,↓AA,hst];exact fzEq rfl rfl
 ·rw[h0];have hr8:List.replicate N (AV.int .u8 0)=(List.replicate N 0).map kB8:=by rw[map_replicate]
  rw[hr8];exact(by first|rfl|(refine AN rfl (by rfl) (by rfl) (by rfl) ?_ ?_<;>simp[AV.underL,AV.under,MB.under,AG,AI,AF,AH,AK,AL,-map_take,AJ,DX]))
end
section
attribute [local go_sem] evBin strOf
abbrev pAV (p:Nat×Nat):AV:=.agg [NV p.1,NV p.2]
theorem Ew (l:List (Nat×Nat)):AV.plainL (l.map pAV)=true:=by
 induction l with
 | nil=>rfl
 | cons a l ih=>simp[AV.plainL,AV.plain,ih]
theorem Qp:KeyOk pAV (fun _=>True):=by
 have inj:∀ x y:Nat×Nat,pAV x=pAV y->x=y:=fun x y h=>by
  obtain⟨a,b⟩:=x;obtain⟨c,d⟩:=y;simp only[pAV,AV.agg.injEq,List.cons.injEq,AV.int.injEq,true_and,and_true]at h;have h1:a=c:=by omega
  have h2:b=d:=by omega
  rw[h1,h2]
 refine⟨fun x y _ _ h=>inj x y h,fun x y _ _=>?_⟩;constructor
 ·intro h;obtain⟨a,b⟩:=x;obtain⟨c,d⟩:=y;simp[pAV,AV.beq,AV.beqL]at h;simp[pAV,h]
 ·intro h;rw[h];exact AV.beq_refl _
theorem DO (n:Nat):∀(i:Nat) (l:List (Nat×Nat)),MB.underE n (entK i (l.map pAV))=true
 | _,[]=>rfl
 | i,p::l=>by
   simp only[map_cons,entK,MB.underE,DO n (i+1) l,AV.under,AV.underL,Bool.and_self]
def stepP (Na Nb:List (List Nat)) (inA inB:List Nat) (p:Nat×Nat) (c:Nat):Nat×Nat:=(nxf Na p.1 (inA[c]?.getD 0),nxf Nb p.2 (inB[c]?.getD 0))
def pairsU (na nb:Nat):List (Nat×Nat):=(List.range na).flatMap fun x=>(List.range nb).map fun y=>(x,y)
theorem CJ {na nb:Nat}{p:Nat×Nat}:p∈pairsU na nb↔p.1<na/\p.2<nb:=by
 obtain⟨a,b⟩:=p;simp[pairsU]
def inC (cl C:Cls):List Nat:=C.map fun s=>clIx cl (headLo s)
def prodR (a b:AutoL) (C:Cls):List (Nat×Nat):=bfs (fun p=>(List.range C.length).map (stepP (nxN a.nx) (nxN b.nx) (inC a.cl C) (inC b.cl C) p)) ((pairsU a.nx.length b.nx.length).length+1) 0 [(0,0)]
def prodA (op:Bool->Bool->Bool) (a b:AutoL) (C:Cls):AutoL:=
 natA C ((prodR a b C).map (exRow C.length (stepP (nxN a.nx) (nxN b.nx) (inC a.cl C) (inC b.cl C)) (prodR a b C))) ((prodR a b C).map fun p=>op (a.ac[p.1]?.getD false) (b.ac[p.2]?.getD false))
theorem P7 {H:List MB}{i n z:Nat}{rs:List (Nat×Nat)}{p:Nat×Nat}{t:Bool} (hi:getRow H i=some (2,rs.map pAV,z)) (hz:z<=n) (hn:rs.length=n) (hr:n+1<=4000000000) :
  evAppend Pg H 91 91 (.ms i 2 n 0 n) (.sl t [.agg [NV p.1,NV p.2]])=some (.ms i 2 (n+1) 0 (n+1),H.set i (.row 2 ((rs++[p]).map pAV) z)):=by
 have hs:srcElems Pg H 211 (.sl t [.agg [NV p.1,NV p.2]])=some [.agg [NV p.1,NV p.2]]:=rfl;rw[Al (e:=211) (by kernel_rfl) (by kernel_rfl) (k:=2) (by kernel_rfl) (by_:=16) (by kernel_rfl) (ze:=.agg [I 0,I 0]) (by kernel_rfl) rfl (by omega) hs (by simp[AV.cells,AV.ok]) hi (by rw[length_map];exact hn) hz (AS (by simp;omega) (by omega))];rw[map_append];rfl
theorem Jm {a b:AutoL} (hga:GoodA a) (hgb:GoodA b) {iA iB:List Nat} (hA:∀ c t:Nat,iA[c]?=some t->t<a.cl.length) (hB:∀ c t:Nat,iB[c]?=some t->t<b.cl.length) {m:Nat} (hAl:iA.length=m) (hBl:iB.length=m) {p:Nat×Nat} (hp:p∈pairsU a.nx.length b.nx.length) {c:Nat} (hc:c<m) :
  ∃ ca cb ra rb ta tb,iA[c]?=some ca/\iB[c]?=some cb/\(nxN a.nx)[p.1]?=some ra/\ra[ca]?=some ta/\(nxN b.nx)[p.2]?=some rb/\rb[cb]?=some tb/\stepP (nxN a.nx) (nxN b.nx) iA iB p c=(ta,tb)/\(ta,tb)∈pairsU a.nx.length b.nx.length:=by
 obtain⟨p1,p2⟩:=CJ.1 hp;obtain⟨ca,e1⟩:∃ x,iA[c]?=some x:=⟨_,getElem?_eq_getElem (by omega)⟩;obtain⟨cb,e2⟩:∃ x,iB[c]?=some x:=⟨_,getElem?_eq_getElem (by omega)⟩;have hla:(nxN a.nx).length=a.nx.length:=by simp[nxN]
 have hlb:(nxN b.nx).length=b.nx.length:=by simp[nxN]
 obtain⟨ra,ta,a1,a2,a3,a4⟩:=(E0 hga).nxf_lt (s:=p.1) (by omega) (hA c ca e1);obtain⟨rb,tb,b1,b2,b3,b4⟩:=(E0 hgb).nxf_lt (s:=p.2) (by omega) (hB c cb e2);refine⟨ca,cb,ra,rb,ta,tb,e1,e2,a1,a2,b1,b2,?_,CJ.2 ⟨by simp only;omega,by simp only;omega⟩⟩;unfold stepP;rw[e1,e2,getD_some,getD_some,a3,b3]
theorem f92 (g:Nat) (op:Bool->Bool->Bool) (hop:∀ x y H,call Pg pol1 g [.bool x,.bool y] H=some (.bool (op x y),H)) (hy:g≠yldF) (a b:AutoL) (hga:GoodA a) (hgb:GoodA b) (hba:AutoB a) (hbb:AutoB b) {top:Int} (hda:DivOk a.cl top) (hdb:DivOk b.cl top) (hbw:bothW a b=0)
  (C:Cls) (hC:∀ H,call Pg pol1 41 [.sl false ((a.cl++b.cl).map setAV9),I top] H=some (.tup [.sl false (C.map setAV9),I 0],H)) (hCd:DivOk C top) (hCl:C.length<=1024) (H:List MB) :
  call Pg pol1 92 [autoAV a,autoAV b,.clo g []] H=some (if(prodR a b C).length<=1024 then pairAV (prodA op a b C,0) else pairAV (zA,4),H):=by
 have h139:=f139 a b hba hbb;rw[hbw]at h139;have h140:=f140 a.cl b.cl (by
  have h1:=hda.top_;have:=(hda.clIx_lt (x:=0) (by omega) (by omega)).1;omega) (by have:=hga.cl;have:=hgb.cl;omega)
 have h72:=f72 a hba (fun s hs=>(hda.set s hs).2);rw[hda.topL_eq.1,hda.topL_eq.2]at h72;have h73a:=f73 a.cl hba.cl hba.sum;have h73b:=f73 b.cl hbb.cl hbb.sum;have h130a:=fun x (h0:0<=x) (h1:x<=top)=>f130 hda hba.sum (x:=x) h0 h1;have h130b:=fun x (h0:0<=x) (h1:x<=top)=>f130 hdb hbb.sum (x:=x) h0 h1;have hpp:=Ax (if(prodR a b C).length<=1024 then(prodA op a b C,0) else(zA,4));have hif:(if(prodR a b C).length<=1024 then pairAV (prodA op a b C,0) else pairAV (zA,4))=pairAV (if(prodR a b C).length<=1024 then(prodA op a b C,0) else(zA,4)):=by split<;>rfl
 rw[hif];have hplA:=Ac a;have hplB:=Ac b;rw[F8 hga,F8 hgb]at *;refine AQ Tryz.func92 rfl rfl rfl rfl rfl rfl (fun _=>rfl) (by simp[AV.plainL,AV.plain,AM,AP,AJ]) hpp ?_ H;have c140:=fun H:List MB=>A3 (P:=Pg) (pol:=pol1) (f:=140) (args:=[.sl true [.sl false (a.cl.map setAV9),.sl false (b.cl.map setAV9)]]) (l:=[.sl false [.sl false (a.cl.map setAV9),.sl false (b.cl.map setAV9)]]) (H:=H) (H1:=H) rfl (by
  have hz:fz (.sl true [.sl false (a.cl.map setAV9),.sl false (b.cl.map setAV9)]) H=some (.sl false [.sl false (a.cl.map setAV9),.sl false (b.cl.map setAV9)],H):=by
   unfold fz;simp only[fzA,fzL,BA _ _ _ (AM _)]
  simp only[frzArgs,show pol1.byref 140 0=false from rfl,Bool.false_eq_true,if_false,hz]) (by simp[AV.plainL,AV.plain,AM])
 simp only[h140]at c140;have hroom:roomFor (C.length:Int).toNat 8=true:=AS (by omega) (by omega);generalize hAB:a.cl++b.cl=AB at *;simp +contextual (disch:=omega) only[Tryz.f92,dd92,go_sem,simprocAttr,evAppend,map_append,mu92,↓AE,↓AD,↓AC,↓AA,h139,c140,h72,hC];refine⟨by unfold dOk;kernel_rfl,by unfold dOk;kernel_rfl,by(show altO _ _ _ _=true;kernel_rfl),PM ?_,?_⟩
 ·have hrep:=AO (List.replicate C.length 0);rw[map_replicate]at hrep;simp[St.swp,tmSwp,AV.swp,AV.beq_refl,AV.under,AV.underL,heapEq,MB.beq_refl,MB.under,swpT,AG,AM,AP,AJ,show AV.underL 3 (List.replicate C.length (I 0))=true from AG _ _ hrep]
 unfold findAV at h73a h73b;simp +contextual (disch:=omega) only[Tryz.f92,dd92,go_sem,simprocAttr,evAppend,map_append,mu92,↓AE,↓AD,↓AC,↓AA,h73a,h73b];repeat' (first|intro _|apply And.intro|(unfold dOk;kernel_rfl)|exact St.beq_refl _|exact Aq|(show altO _ _ _ _=true;kernel_rfl)|(show (_||_)=true;kernel_rfl)|(show (_&&_)=true;kernel_rfl))
 obtain⟨iA,hiA⟩:∃ iA,inC a.cl C=iA:=⟨_,rfl⟩;obtain⟨iB,hiB⟩:∃ iB,inC b.cl C=iB:=⟨_,rfl⟩;have hiAl:iA.length=C.length:=by rw[<- hiA];simp[inC]
 have hiBl:iB.length=C.length:=by rw[<- hiB];simp[inC]
 refine AR (M:=(mskOf (pol1.mask 92) (pol1.gc 92) (pol1.acts 92) 0 10)) rfl C.length (fun i=>(⟨193,[(65,I i),(64,I C.length),(63,.sl false (C.map setAV9)),(14,.clo 130 [.pt [.sl false ((sortP (placesL 0 b.cl)).map el3)]]),(13,.clo 130 [.pt [.sl false ((sortP (placesL 0 a.cl)).map el3)]]),(12,.ms 4 1 C.length 0 C.length),(11,.ms 3 1 C.length 0 C.length),(9,.sl false (C.map setAV9)),(6,.rf 2 1 0 0),(4,.rf 1 1 0 0),(3,.rf 0 1 0 0),(2,.clo g [])],[.row 3 [autoN a.cl (nxN a.nx) a.ac] 0,.row 3 [autoN b.cl (nxN b.nx) b.ac] 0,.row 3 [E3] 0,.row 1 ((iA.take i++List.replicate (C.length-i) 0).map NV) 0,.row 1 ((iB.take i++List.replicate (C.length-i) 0).map NV) 0]⟩:St)) (fun i=>True) ?_ ?_ trivial _ ?_
 ·intro i hi _;obtain⟨S,hS⟩:∃ S,C[i]?=some S:=⟨_,getElem?_eq_getElem hi⟩;have hS':(C.map setAV9)[i]?=some (setAV9 S):=by simp[hS]
  obtain⟨q0,q1,_⟩:=hCd.head hS;obtain⟨⟨lo,hi2⟩,S',rfl⟩:∃ p S',S=p::S':=by
   have:=(hCd.set S (mem_of_getElem? hS)).2;cases S with
   | nil=>exact absurd rfl this
   | cons p S'=>exact⟨p,S',rfl⟩
  have ea:=h130a _ q0 q1;have eb:=h130b _ q0 q1;have hA:iA[i]?=some (clIx a.cl (headLo ((lo,hi2)::S'))):=by rw[<- hiA];simp[inC,hS]
  have hB:iB[i]?=some (clIx b.cl (headLo ((lo,hi2)::S'))):=by rw[<- hiB];simp[inC,hS]
  have hfa:=BP (z:=0) hiAl hA;have hfla:=BQ (A:=iA) (z:=0) hiAl (i:=i) (by omega);have hfb:=BP (z:=0) hiBl hB;have hflb:=BQ (A:=iB) (z:=0) hiBl (i:=i) (by omega);rw[<- hfa,<- hfb];simp only[show headLo ((lo,hi2)::S')=lo from rfl]at *;generalize iA.take i++List.replicate (C.length-i) 0=XA at *;generalize iB.take i++List.replicate (C.length-i) 0=XB at *;obtain⟨y,hy⟩:∃ y,XA[i]?=some y:=⟨_,getElem?_eq_getElem (by omega)⟩;have hy':(XA.map NV)[i]?=some (NV y):=by simp[hy]
  obtain⟨z,hz⟩:∃ z,XB[i]?=some z:=⟨_,getElem?_eq_getElem (by omega)⟩;have hz':(XB.map NV)[i]?=some (NV z):=by simp[hz]
  have hseta:(XA.map NV).set i (NV (clIx a.cl lo))=(XA.set i (clIx a.cl lo)).map NV:=by rw[map_set]
  have hsetb:(XB.map NV).set i (NV (clIx b.cl lo))=(XB.set i (clIx b.cl lo)).map NV:=by rw[map_set]
  simp +contextual (disch:=omega) only[Tryz.f92,dd92,go_sem,simprocAttr,evAppend,map_append,mu92,↓AE,↓AD,↓AC,↓AA,hS',ea,eb,hfla,hflb,hy',hz',hseta,hsetb];repeat' (first|intro _|apply And.intro|(unfold dOk;kernel_rfl)|exact St.beq_refl _|exact Aq|(show altO _ _ _ _=true;kernel_rfl)|(show (_||_)=true;kernel_rfl)|(show (_&&_)=true;kernel_rfl))
  rfl
 ·intro _;rw[Bl hiAl,Bl hiBl];have hzA:∀ b0 b1 b2 b4 b5:MB,fz (.ms 3 1 C.length 0 C.length) [b0,b1,b2,.row 1 (iA.map NV) 0,b4,b5]=some (nsAV iA,[b0,b1,b2,.row 1 (iA.map NV) C.length,b4,b5]):=fun b0 b1 b2 b4 b5=>by
   rw[DD (id:=3) (z:=0) rfl hiAl];simp[mark,getRow]
  have hzB:∀ b0 b1 b2 b4 b5:MB,fz (.ms 4 1 C.length 0 C.length) [b0,b1,b2,b4,.row 1 (iB.map NV) 0,b5]=some (nsAV iB,[b0,b1,b2,b4,.row 1 (iB.map NV) C.length,b5]):=fun b0 b1 b2 b4 b5=>by
   rw[DD (id:=4) (z:=0) rfl hiBl];simp[mark,getRow]
  simp +contextual (disch:=omega) only[Tryz.f92,dd92,go_sem,simprocAttr,evAppend,map_append,mu92,↓AE,↓AD,↓AC,↓AA,hzA,hzB];have hcok:∀ x y:Int,cellsOk [some .i64,some .i64] [.int .i64 x,.int .i64 y]=true:=fun _ _=>rfl;refine⟨hcok 0 0,?_⟩;obtain⟨m,hm⟩:∃ m,C.length=m:=⟨_,rfl⟩;have hiAlt:∀ c t:Nat,iA[c]?=some t->t<a.cl.length:=fun c t h=>by
   rw[<- hiA]at h;simp only[inC,getElem?_map,map_eq_some_iff]at h;obtain⟨S,h1,rfl⟩:=h;obtain⟨q0,q1,_⟩:=hCd.head h1;exact(hda.clIx_lt q0 q1).1
  have hiBlt:∀ c t:Nat,iB[c]?=some t->t<b.cl.length:=fun c t h=>by
   rw[<- hiB]at h;simp only[inC,getElem?_map,map_eq_some_iff]at h;obtain⟨S,h1,rfl⟩:=h;obtain⟨q0,q1,_⟩:=hCd.head h1;exact(hdb.clIx_lt q0 q1).1
  rw[hm]at hiAl hiBl hroom;have hstep:=fun {p:Nat×Nat} (hp:p∈pairsU a.nx.length b.nx.length) {c:Nat} (hc:c<m)=>Jm hga hgb hiAlt hiBlt hiAl hiBl hp hc;obtain⟨R,hR⟩:∃ R,prodR a b C=R:=⟨_,rfl⟩;obtain⟨RES,hRES⟩:∃ RES,pairAV (if(prodR a b C).length<=1024 then(prodA op a b C,0) else(zA,4))=RES:=⟨_,rfl⟩;have hbad:1024<R.length->RES=.tup [.agg [.sl false [],.sl false [],.sl false []],I 4]:=fun h=>by
   rw[<- hRES,hR,if_neg (by omega)];rfl
  have hok:R.length<=1024->RES=.tup [autoN C (R.map (exRow m (stepP (nxN a.nx) (nxN b.nx) iA iB) R)) (R.map fun p=>op (a.ac[p.1]?.getD false) (b.ac[p.2]?.getD false)),I 0]:=fun h=>by
   rw[<- hRES,hR,if_pos h];unfold pairAV prodA;simp only[hR,hiA,hiB,hm,F5]
  rw[hRES];clear hRES hif hpp;unfold prodR at hR;rw[hm,hiA,hiB]at hR;generalize hST:stepP (nxN a.nx) (nxN b.nx) iA iB=st at *;generalize hUU:pairsU a.nx.length b.nx.length=U at *;have hU0:((0,0):Nat×Nat)∈U:=by rw[<- hUU];exact CJ.2 ⟨hga.pos,hgb.pos⟩
  have hUf:∀ x∈U,∀ y∈(List.range m).map (st x),y∈U:=fun x hx y hy=>by
   obtain⟨c,hc,rfl⟩:=mem_map.1 hy;obtain⟨_,_,_,_,_,_,_,_,_,_,_,_,e,h⟩:=hstep hx (List.mem_range.1 hc);rw[e];exact h
  have hUl:∀ p∈U,p.1<a.nx.length/\p.2<b.nx.length:=fun p hp=>by rw[<- hUU]at hp;exact CJ.1 hp
  obtain⟨rowF,hrowF⟩:∃ f,exRow m st R=f:=⟨_,rfl⟩;obtain⟨acF,hacF⟩:∃ f:Nat×Nat->Bool,(fun p=>op (a.ac[p.1]?.getD false) (b.ac[p.2]?.getD false))=f:=⟨_,rfl⟩;rw[hrowF,hacF]at hok;have hS0:ExI (fun x=>(List.range m).map (st x)) U R 0 [(0,0)]:=by rw[<- hR];exact ExI.start hU0
  have hiAp:=AO iA;have hiBp:=AO iB;have hiAg:∀ c t:Nat,iA[c]?=some t->(iA.map NV)[c]?=some (NV t):=fun c t h=>by simp[h]
  have hiBg:∀ c t:Nat,iB[c]?=some t->(iB.map NV)[c]?=some (NV t):=fun c t h=>by simp[h]
  refine ER (σ:=Nat×List (Nat×Nat)) (M:=(mskOf (pol1.mask 92) (pol1.gc 92) (pol1.acts 92) 0 18)) rfl (fun x=>(⟨193,[(20,I x.1),(19,.mpr 9),(18,.ms 8 2 x.2.length 0 x.2.length),(17,.rf 5 1 0 0),(12,nsAV iB),(11,nsAV iA),(9,.sl false (C.map setAV9)),(6,.rf 2 1 0 0),(4,.rf 1 1 0 0),(3,.rf 0 1 0 0),(2,.clo g [])],[.row 3 [autoN a.cl (nxN a.nx) a.ac] 0,.row 3 [autoN b.cl (nxN b.nx) b.ac] 0,.row 3 [E3] 0,.row 1 (iA.map NV) m,.row 1 (iB.map NV) m,.row 3 [.agg [.sl false (C.map setAV9),.ms 6 1 x.1 0 x.1,.ms 7 1 x.1 0 x.1]] 0,.row 1 (((x.2.take x.1).map rowF).map nsAV) 0,.row 1 (((x.2.take x.1).map acF).map AV.bool) 0,.row 2 (x.2.map pAV) 0,.mp (.flat 211 [some .i64,some .i64]) (entK 0 (x.2.map pAV))]⟩:St)) (fun x=>ExI (fun x=>(List.range m).map (st x)) U R x.1 x.2/\x.2.length<=1024) (fun x=>U.length-x.1) (0,[(0,0)]) ?_ ⟨hS0,by simp⟩ _ ?_
  ·rintro⟨i,l⟩ ⟨hI,hl1⟩;by_cases hi:i<l.length
   ·obtain⟨p,hp⟩:∃ p,l[i]?=some p:=⟨_,getElem?_eq_getElem hi⟩;have hpU:=hI.inU p (mem_of_getElem? hp);have hst:=hI.step hUf hp;obtain⟨mR,hmR⟩:=hst.pre;have hp':(l.map pAV)[i]?=some (.agg [NV p.1,NV p.2]):=by simp[hp]
    rw[<- hm]at hroom;simp +contextual (disch:=omega) only[Tryz.f92,dd92,go_sem,simprocAttr,evAppend,map_append,mu92,↓AE,↓AD,↓AC,↓AA,hp',hroom];repeat' (first|intro _|apply And.intro|(unfold dOk;kernel_rfl)|exact St.beq_refl _|exact Aq|(show altO _ _ _ _=true;kernel_rfl)|(show (_||_)=true;kernel_rfl)|(show (_&&_)=true;kernel_rfl))
    rw[hm];have hrl1:(rowF p).length=m:=by rw[<- hrowF];simp[exRow]
    have hrg:∀ c,c<m->(rowF p)[c]?=some (ixOf R (st p c)):=fun c hc=>by rw[<- hrowF];exact IZ hc
    have hfg:∀ c,c<m->((List.range m).map (st p))[c]?=some (st p c):=fun c hc=>by simp[hc]
    have hfl:((List.range m).map (st p)).length=m:=by simp
    have hpre:=DM l ((List.range m).map (st p));have hnd:=hI.nodup;have hlU:=hI.inU;have hdx:=Ab hp;have htl:(l.take i).length=i:=by rw[List.length_take];omega
    have hIl:=hI.le;obtain⟨F,hF⟩:∃ F,(List.range m).map (st p)=F:=⟨_,rfl⟩;rw[hF]at hfg hfl hpre;simp only[hF]at hst hmR;generalize hrow1:rowF p=rw1 at *;generalize l.take i=LT at *;have hApre:=A6 F l;obtain⟨LR,hLR⟩:∃ LR,LT.map rowF=LR:=⟨_,rfl⟩;obtain⟨LA,hLA⟩:∃ LA,LT.map acF=LA:=⟨_,rfl⟩;rw[hLR,hLA];have hEp:=fun(n:Nat) (X:List (Nat×Nat))=>DO n 0 X;refine AR (M:=(mskOf (pol1.mask 92) (pol1.gc 92) (pol1.acts 92) 0 23)) rfl m (fun j=>(⟨193,[(117,I j),(116,I m),(23,.ms 10 1 m 0 m),(22,NV p.2),(21,NV p.1),(20,I i),(19,.mpr 9),(18,.ms 8 2 (addAll l (F.take j)).length 0 (addAll l (F.take j)).length),(17,.rf 5 1 0 0),(12,nsAV iB),(11,nsAV iA),(9,.sl false (C.map setAV9)),(6,.rf 2 1 0 0),(4,.rf 1 1 0 0),(3,.rf 0 1 0 0),(2,.clo g [])],[.row 3 [autoN a.cl (nxN a.nx) a.ac] 0,.row 3 [autoN b.cl (nxN b.nx) b.ac] 0,.row 3 [E3] 0,.row 1 (iA.map NV) m,.row 1 (iB.map NV) m,.row 3 [.agg [.sl false (C.map setAV9),.ms 6 1 i 0 i,.ms 7 1 i 0 i]] 0,.row 1 (LR.map nsAV) 0,.row 1 (LA.map AV.bool) 0,.row 2 ((addAll l (F.take j)).map pAV) 0,.mp (.flat 211 [some .i64,some .i64]) (entK 0 ((addAll l (F.take j)).map pAV)),.row 1 ((rw1.take j++List.replicate (m-j) 0).map NV) 0]⟩:St)) (fun j=>(addAll l (F.take j)).length<=1024) ?_ ?_ (by rw[List.take_zero];exact hl1) _ ?_
    ·intro j hj hle;obtain⟨ca,cb,ra,rb,ta,tb,e1,e2,e3,e4,e5,e6,e7,e8⟩:=hstep hpU hj;have hFj:=hfg j hj;rw[e7]at hFj;have hrj:=hrg j hj;rw[e7]at hrj;have e1':=hiAg _ _ e1;have e2':=hiBg _ _ e2;have e3':((nxN a.nx).map nsAV)[p.1]?=some (nsAV ra):=by simp[e3]
     have e4':(ra.map NV)[ca]?=some (NV ta):=by simp[e4]
     have e5':((nxN b.nx).map nsAV)[p.2]?=some (nsAV rb):=by simp[e5]
     have e6':(rb.map NV)[cb]?=some (NV tb):=by simp[e6]
     have hsn:=Dt l (F.take j) (ta,tb);rw[<- Ab hFj]at hsn;have hp1:=hpre j;have hp2:=hpre (j+1);have hnA:(addAll l (F.take j)).Nodup:=Ay _ _ hnd;have hfs:=BP (z:=0) hrl1 hrj;have hfl2:=BQ (A:=rw1) (z:=0) hrl1 (i:=j) (by omega);rw[<- hfs];rw[hsn]at hp2 |-;generalize addAll l (F.take j)=A at *;generalize rw1.take j++List.replicate (m-j) 0=X at *;have hkey:=Qp.find (os:=A) (fun _ _=>trivial) hnA (x:=(ta,tb)) trivial;obtain⟨y,hy⟩:∃ y,X[j]?=some y:=⟨_,getElem?_eq_getElem (by omega)⟩;have hy':(X.map NV)[j]?=some (NV y):=by simp[hy]
     obtain⟨m1,hp1⟩:=hp1;have hmR0:=hmR;rw[hp1,append_assoc]at hmR;by_cases hm2:(ta,tb)∈A
     ·rw[if_pos hm2];have hk1:findMp (.agg [NV ta,NV tb]) (entK 0 (A.map pAV))=some (NV (ixOf A (ta,tb))):=hkey.1 hm2;have hix:ixOf R (ta,tb)=ixOf A (ta,tb):=MR hmR hm2;rw[hix]at hrj |-;generalize ixOf A (ta,tb)=u at *;have hset:(X.map NV).set j (NV u)=(X.set j u).map NV:=by rw[map_set]
      simp +contextual (disch:=omega) only[Tryz.f92,dd92,go_sem,simprocAttr,evAppend,map_append,mu92,↓AE,↓AD,↓AC,↓AA,e1',e2',e3',e4',e5',e6',hcok,hk1,hfl2,hy',hset];repeat' (first|intro _|apply And.intro|(unfold dOk;kernel_rfl)|exact St.beq_refl _|exact Aq|(show altO _ _ _ _=true;kernel_rfl)|(show (_||_)=true;kernel_rfl)|(show (_&&_)=true;kernel_rfl))
      generalize X.set j u=X2;exact(by first|rfl|(refine AN rfl (by rfl) (by rfl) (by rfl) ?_ ?_<;>simp[AV.underL,AV.under,MB.under,AG,AI,AF,AH,AK,AL,-map_take,AM,AP,AJ,AO,hEp,Ew]))
     ·rw[if_neg hm2]at hp2 |-;obtain⟨m2,hp2⟩:=hp2;rw[hp2]at hmR0;rw[append_assoc]at hmR0;have hRl:A.length+1<=R.length:=by rw[hmR0];simp
      have hkk:findMp (.agg [NV ta,NV tb]) (entK 0 (A.map pAV))=none/\updMp (.agg [NV ta,NV tb]) (NV A.length) (entK 0 (A.map pAV))=entK 0 ((A++[(ta,tb)]).map pAV):=hkey.2 hm2;obtain⟨hk1,hk2⟩:=hkk;have hix:ixOf R (ta,tb)=A.length:=MS hmR0 hm2;rw[hix]at hrj |-;by_cases hfull:A.length=1024
      ·have hfi:(A.length:Int)=1024:=by omega
       rw[hbad (by omega)];simp +contextual (disch:=omega) only[Tryz.f92,dd92,go_sem,simprocAttr,evAppend,map_append,mu92,↓AE,↓AD,↓AC,↓AA,e1',e2',e3',e4',e5',e6',hcok,hk1,hfi];repeat' (first|intro _|apply And.intro|(unfold dOk;kernel_rfl)|exact St.beq_refl _|exact Aq|(show altO _ _ _ _=true;kernel_rfl)|(show (_||_)=true;kernel_rfl)|(show (_&&_)=true;kernel_rfl))
       exact⟨_,rfl⟩
      ·have hfi:¬ (A.length:Int)=1024:=by omega
       have hset:(X.map NV).set j (NV A.length)=(X.set j A.length).map NV:=by rw[map_set]
       have hlen:(A++[(ta,tb)]).length=A.length+1:=by simp
       have a1:=fun(b0 b1 b2 b3 b4 b5 b6 b7 b9 b10 b11:MB) (t:Bool)=>P7 (H:=[b0,b1,b2,b3,b4,b5,b6,b7,.row 2 (A.map pAV) 0,b9,b10,b11]) (i:=8) (n:=A.length) (p:=(ta,tb)) (t:=t) rfl (zero_le _) rfl (by omega);simp only[List.set_cons_succ,List.set_cons_zero]at a1;rw[hlen];simp +contextual (disch:=omega) only[Tryz.f92,dd92,go_sem,simprocAttr,mu92,↓AE,↓AD,↓AC,↓AA,e1',e2',e3',e4',e5',e6',hcok,hk1,hk2,hfi,a1,hfl2,hy',hset];repeat' (first|intro _|apply And.intro|(unfold dOk;kernel_rfl)|exact St.beq_refl _|exact Aq|(show altO _ _ _ _=true;kernel_rfl)|(show (_||_)=true;kernel_rfl)|(show (_&&_)=true;kernel_rfl))
       generalize X.set j A.length=X2;generalize hA2:A++[(ta,tb)]=A2;rw[hA2]at hlen;rw[<- hlen];exact(by first|rfl|(refine AN rfl (by rfl) (by rfl) (by rfl) ?_ ?_<;>simp[AV.underL,AV.under,MB.under,AG,AI,AF,AH,AK,AL,-map_take,AM,AP,AJ,AO,hEp,Ew]))
    ·intro hle;rw[show F.take m=F from take_of_length_le (by omega)]at hle |-;rw[show rw1.take m=rw1 from take_of_length_le (by omega),Nat.sub_self,List.replicate_zero,List.append_nil];have hAt:(addAll l F).take (i+1)=LT++[p]:=by
      obtain⟨mm,e⟩:=hApre;rw[e,List.take_append_of_le_length (by omega)];exact hdx
     generalize addAll l F=A at *;have hAm:(LR.map nsAV).length=i:=by rw[length_map,<- hLR,length_map];exact htl
     have hBm:LA.length=i:=by rw[<- hLA,length_map];exact htl
     obtain⟨pa,pb⟩:=hUl p hpU;obtain⟨va,hva⟩:∃ v,a.ac[p.1]?=some v:=⟨_,getElem?_eq_getElem (by rw[hga.ac];exact pa)⟩;obtain⟨vb,hvb⟩:∃ v,b.ac[p.2]?=some v:=⟨_,getElem?_eq_getElem (by rw[hgb.ac];exact pb)⟩;have hva':(a.ac.map AV.bool)[p.1]?=some (.bool va):=by simp[hva]
     have hvb':(b.ac.map AV.bool)[p.2]?=some (.bool vb):=by simp[hvb]
     have hacp:acF p=op va vb:=by rw[<- hacF];simp only[hva,hvb,getD_some]
     have hfR:(A.take (i+1)).map rowF=LR++[rw1]:=by rw[hAt,map_append,hLR,map_cons,hrow1];rfl
     have hfA:(A.take (i+1)).map acF=LA++[op va vb]:=by rw[hAt,map_append,hLA,map_cons,hacp];rfl
     have a1:=fun(b0 b1 b2 b3 b4 b5 b7 b8 b9 b10:MB) (t:Bool)=>Mc (H:=[b0,b1,b2,b3,b4,b5,.row 1 (LR.map nsAV) 0,b7,b8,b9,b10]) (i:=6) (n:=i) (x:=.ms 10 1 m 0 m) (t:=t) rfl (zero_le _) hAm (by omega) rfl rfl;have a2:=fun(b0 b1 b2 b3 b4 b5 b6 b8 b9 b10:MB) (t:Bool)=>Mf (H:=[b0,b1,b2,b3,b4,b5,b6,.row 1 (LA.map AV.bool) 0,b8,b9,b10]) (i:=7) (n:=i) (x:=op va vb) (t:=t) rfl (zero_le _) hBm (by omega);simp only[List.set_cons_succ,List.set_cons_zero]at a1 a2;have hz:∀ b0 b1 b2 b3 b4 b5 b6 b7 b8 b9:MB,fzs (LR.map nsAV++[.ms 10 1 m 0 m]) [b0,b1,b2,b3,b4,b5,b6,b7,b8,b9,.row 1 (rw1.map NV) 0]=some (LR.map nsAV++[nsAV rw1],[b0,b1,b2,b3,b4,b5,b6,b7,b8,b9,.row 1 (rw1.map NV) m]):=fun b0 b1 b2 b3 b4 b5 b6 b7 b8 b9=>by
      refine De ?_ _ (AP LR);have:=DD (id:=10) (z:=0) (H:=[b0,b1,b2,b3,b4,b5,b6,b7,b8,b9,.row 1 (rw1.map NV) 0]) rfl hrl1;unfold fz at this;rw[this];simp[mark,getRow]
     have hbq:=AV.beqL_refl (LR.map nsAV++[.ms 10 1 m 0 m]);simp +contextual (disch:=omega) only[Tryz.f92,dd92,go_sem,simprocAttr,mu92,↓AE,↓AD,↓AC,↓AA,a1,hz,hbq,hva',hvb',hop,hy,a2];repeat' (first|intro _|apply And.intro|(unfold dOk;kernel_rfl)|exact St.beq_refl _|exact Aq|(show altO _ _ _ _=true;kernel_rfl)|(show (_||_)=true;kernel_rfl)|(show (_&&_)=true;kernel_rfl))
     refine⟨(i+1,A),⟨hst,hle⟩,?_,?_⟩
     ·have:=Ar l U hnd hlU;simp only;omega
     ·simp only;rw[hfR,hfA];have e9:LR.map nsAV++[nsAV rw1]=(LR++[rw1]).map nsAV:=by rw[map_append];rfl
      rw[e9];generalize LR++[rw1]=LR2;generalize LA++[op va vb]=LA2;exact(by first|rfl|(refine AN rfl (by rfl) (by rfl) (by rfl) ?_ ?_<;>simp[AV.underL,AV.under,MB.under,AG,AI,AF,AH,AK,AL,-map_take,AM,AP,AJ,AO,hEp,Ew]))
    ·rw[List.take_zero,List.take_zero,Nat.sub_zero,nil_append];have hrp:=AO (List.replicate m 0);rw[map_replicate]at hrp |-;exact(by first|rfl|(refine AN rfl (by rfl) (by rfl) (by rfl) ?_ ?_<;>simp[AV.underL,AV.under,MB.under,AG,AI,AF,AH,AK,AL,-map_take,AM,AP,AJ,AO,hEp,Ew,hrp]))
   ·have hRe:=hI.fin hi;rw[hok (by rw[<- hRe];exact hl1),<- hRe];have hi2:¬ (i:Int)<(l.length:Int):=by omega
    have hil:i=l.length:=by
     have hle2:i<=l.length:=hI.le;omega
    rw[show l.take i=l from take_of_length_le (by omega)];simp +contextual (disch:=omega) only[Tryz.f92,dd92,go_sem,simprocAttr,evAppend,map_append,mu92,↓AE,↓AD,↓AC,↓AA,hi2];exact⟨_,F9 (E6 (Ap _ (by simp[AV.plain,AM])) (As (z:=0) rfl (by simp[hil]) (AP _)) (As (z:=0) rfl (by simp[hil]) (AJ _))) (Ap _ rfl)⟩
  ·rw[hm];exact(by first|rfl|(refine AN rfl (by rfl) (by rfl) (by rfl) ?_ ?_<;>simp[AV.underL,AV.under,MB.under,AG,AI,AF,AH,AK,AL,-map_take,AM,AP,AJ,hiAp,hiBp,show MB.underE 10 (entK 0 [pAV (0,0)])=true from DO 10 0 [(0,0)]]))
 ·rw[show iA.take 0++List.replicate (C.length-0) 0=List.replicate C.length 0 from rfl,show iB.take 0++List.replicate (C.length-0) 0=List.replicate C.length 0 from rfl,map_replicate];rfl
end
end Go.Ev
namespace Go.Ev
section
variable {L:List Spans}{E:List Int}{top:Int}
theorem J2 (h:EndsOk top E) {x:Int} (h0:0<=x):∀ n,n<=E.length->x<lastP E top n->∃ k,k<n/\lastP E top k<=x/\x<lastP E top (k+1)
 | 0,_,hx=>by
   rw[BZ h.first]at hx;omega
 | n+1,hn,hx=>by
   rcases Int.lt_or_le x (lastP E top n) with h1|h1
   ·obtain⟨k,a,b⟩:=J2 h h0 n (by omega) h1;exact⟨k,by omega,b⟩
   ·exact⟨n,by omega,h1,hx⟩
theorem GU (h:EndsOk top E) {x:Int} (hx:Sy top x):∃ k,k<E.length/\lastP E top k<=x/\x<lastP E top (k+1):=
 J2 h hx.1 E.length (le_refl _) (by rw[CA (le_refl _)];have:=hx.2;omega)
theorem Ka (h:EndsOk top E) {k:Nat}{e:Int} (he:e∈E) (hk:lastP E top k<e):lastP E top (k+1)<=e:=by
 obtain⟨j,hj⟩:=getElem?_of_mem he;have hjl:=(List.getElem?_eq_some_iff.1 hj).1;have e1:=BZ (top:=top) hj;rcases Nat.lt_trichotomy j k with g|g|g
 ·rcases lt_or_ge k E.length with g2|g2
  ·have:=h.mono g (by omega);omega
  ·have:=(h.le e he).2;rw[CA g2]at hk;omega
 ·subst g;omega
 ·rcases Nat.lt_or_eq_of_le (show k+1<=j from g) with g2|g2
  ·have:=h.mono g2 (by omega);omega
  ·rw[g2];omega
theorem Lp (ht:0<=top) (hs:∀ s∈L,SetV s) {k:Nat}{x:Int} (hxt:x<=top) (h1:lastP (endsR L top) top k<=x) (h2:x<lastP (endsR L top) top (k+1)):colA L x=colK L (endsR L top) top k:=by
 have hE:=Dj ht hs;refine List.map_congr_left fun s hsm=>?_;rw[Bool.eq_iff_iff,AW,AW];constructor
 ·rintro⟨p,hp,a1,a2⟩;refine⟨p,hp,?_,by omega⟩;rcases Int.lt_or_le (lastP (endsR L top) top k) p.1 with g|g
  ·have:=Ka hE ((D6 ht hs).2 (.inr ⟨s,hsm,p,hp,.inl rfl,by omega⟩)) g;omega
  ·exact g
 ·rintro⟨p,hp,a1,a2⟩;refine⟨p,hp,by omega,?_⟩;rcases Int.lt_or_le p.2 x with g|g
  ·have:=Ka hE ((D6 ht hs).2 (.inr ⟨s,hsm,p,hp,.inr rfl,by omega⟩)) (show lastP (endsR L top) top k<p.2+1 by omega);omega
  ·exact g
def rawOf (col:Nat->List Bool) (pc:Nat->Int×Int) (c:List Bool):Nat->Spans
 | 0=>[]
 | n+1=>if col n=c then rawOf col pc c n++[pc n] else rawOf col pc c n
theorem D0 {col:Nat->List Bool}{pc:Nat->Int×Int}{c:List Bool}{p:Int×Int}:∀ {n:Nat},p∈rawOf col pc c n↔∃ k,k<n/\col k=c/\pc k=p
 | 0=>by simp[rawOf]
 | n+1=>by
   have ih:=D0 (col:=col) (pc:=pc) (c:=c) (p:=p) (n:=n);rw[rawOf];split
   ·rename_i hc;rw[List.mem_append,ih,List.mem_singleton];constructor
    ·rintro(⟨k,a,b⟩|rfl)
     ·exact⟨k,by omega,b⟩
     ·exact⟨n,by omega,hc,rfl⟩
    ·rintro⟨k,a,b,d⟩;rcases lt_or_ge k n with g|g
     ·exact .inl ⟨k,g,b,d⟩
     ·obtain rfl:k=n:=by omega
      exact .inr d.symm
   ·rename_i hc;rw[ih];constructor
    ·rintro⟨k,a,b⟩;exact⟨k,by omega,b⟩
    ·rintro⟨k,a,b,d⟩;rcases lt_or_ge k n with g|g
     ·exact⟨k,g,b,d⟩
     ·obtain rfl:k=n:=by omega
      exact absurd b hc
theorem JN (h:EndsOk top E) (htp:top<=1114111) (col:Nat->List Bool) (c:List Bool):∀ n,n<=E.length->SetOk (rawOf col (pieceA E top) c n) (clsOf col (pieceA E top) c n)
 | 0,_=>.nil
 | n+1,hn=>by
   have ih:=JN h htp col c n (by omega);rw[rawOf,clsOf];split
   ·have hst:=h.step (k:=n) (by omega);refine ih.add ⟨hst.2.1,by simp only[pieceA];omega,by simp only[pieceA];omega⟩ fun q hq=>?_;obtain⟨k,hk,_,rfl⟩:=D0.1 hq;have:=h.mono hk (by omega);simp only[pieceA];omega
   ·exact ih
theorem B9 {col:Nat->List Bool}:∀ {n i k':Nat}{c':List Bool},(firsts col n)[i+1]?=some c'->k'<n->col k' = c'->∃ k,k<k'/\(firsts col n)[i]?=some (col k)
 | 0,i,k',c',_,h,_=>by omega
 | n+1,i,k',c',h,hk,hc=>by
   by_cases hm:col n∈firsts col n
   ·have e:firsts col (n+1)=firsts col n:=by rw[firsts,if_pos hm]
    rw[e]at h |-;rcases lt_or_ge k' n with g|g
    ·exact B9 h g hc
    ·obtain rfl:k' = n:=by omega
     obtain⟨k2,g1,g2⟩:=BD.1 hm;obtain⟨k,a,b⟩:=B9 h g1 (g2.trans hc);exact⟨k,by omega,b⟩
   ·have e:firsts col (n+1)=firsts col n++[col n]:=by rw[firsts,if_neg hm]
    rw[e]at h |-;have hlt:=(List.getElem?_eq_some_iff.1 h).1;simp at hlt;rw[List.getElem?_append_left hlt];rcases lt_or_ge (i+1) (firsts col n).length with g2|g2
    ·rw[List.getElem?_append_left g2]at h;rcases lt_or_ge k' n with g|g
     ·exact B9 h g hc
     ·obtain rfl:k' = n:=by omega
      exact absurd (mem_of_getElem? h) (by rw[<- hc];exact hm)
    ·rw[List.getElem?_append_right g2,show i+1-(firsts col n).length=0 by omega]at h;simp at h;rcases lt_or_ge k' n with g|g
     ·exact absurd (BD.2 ⟨k',g,hc.trans h.symm⟩) hm
     ·obtain rfl:k' = n:=by omega
      have hg:=getElem?_eq_getElem hlt;obtain⟨k,a,b⟩:=BD.1 (mem_of_getElem? hg);exact⟨k,a,by rw[hg,b]⟩
theorem FI (htp:top=255∨top=1114111) (hs:∀ s∈L,SetV s) {C:Cls} (h:splitA L (endsR L top) top=some C) :
  DivOk C top/\C.length<=1024/\(∀ s∈C,s.length<=64)/\∀ x y,Sy top x->Sy top y->(clIx C x=clIx C y↔colA L x=colA L y):=by
 have ht:0<=top:=by omega
 have htp':top<=1114111:=by omega
 have hE:=Dj ht hs;have hC:¬ tooBig (colK L (endsR L top) top) (pieceA (endsR L top) top) (endsR L top).length/\C=classesA (colK L (endsR L top) top) (pieceA (endsR L top) top) (endsR L top).length:=by
  unfold splitA at h;split at h
  ·cases h
  ·rename_i hb;exact⟨hb,(Option.some.inj h).symm⟩
 obtain⟨hb,hC⟩:=hC;have hcolp:=fun {k:Nat}{x:Int} (hxt:x<=top) (h1:lastP (endsR L top) top k<=x) (h2:x<lastP (endsR L top) top (k+1))=>Lp ht hs hxt h1 h2;generalize endsR L top=E at *;obtain⟨col,hcol⟩:∃ col,colK L E top=col:=⟨_,rfl⟩;rw[hcol]at hb hC;have hcolp':∀ {k:Nat}{x:Int},x<=top->lastP E top k<=x->x<lastP E top (k+1)->colA L x=col k:=fun a b c=>by rw[<- hcol];exact hcolp a b c
 obtain⟨N,hN⟩:∃ N,E.length=N:=⟨_,rfl⟩;rw[hN]at hb hC;have hget:∀ {i:Nat}{s:Spans},C[i]?=some s->∃ c,(firsts col N)[i]?=some c/\s=clsOf col (pieceA E top) c N:=fun {i s} hi=>by
  rw[hC]at hi;simp only[classesA,getElem?_map,map_eq_some_iff]at hi;obtain⟨c,a,b⟩:=hi;exact⟨c,a,b.symm⟩
 have hget2:∀ {i:Nat}{c:List Bool},(firsts col N)[i]?=some c->C[i]?=some (clsOf col (pieceA E top) c N):=fun {i c} hi=>by
  rw[hC];simp[classesA,hi]
 have hhas:∀(i:Nat) (s:Spans) (x:Int),C[i]?=some s->(hasSpan s x=true↔Sy top x/\(firsts col N)[i]?=some (colA L x)):=fun i s x hi=>by
  obtain⟨c,hc,rfl⟩:=hget hi;have hso:=JN hE htp' col c N (by omega);rw[hso.has x,AW];constructor
  ·rintro⟨p,hp,a1,a2⟩;obtain⟨k,hk,hck,rfl⟩:=D0.1 hp;have hst:=hE.step (k:=k) (by omega);simp only[pieceA]at a1 a2;refine⟨⟨by omega,by omega⟩,?_⟩;rw[hcolp' (k:=k) (by omega) a1 (by omega),hck];exact hc
  ·rintro⟨hx,hf⟩;obtain⟨k,hk,a1,a2⟩:=GU hE hx;have hc2:c=colA L x:=by rw[hc]at hf;exact Option.some.inj hf
   exact⟨pieceA E top k,D0.2 ⟨k,by omega,by rw[hc2];exact(hcolp' hx.2 a1 a2).symm,rfl⟩,a1,by simp only[pieceA];omega⟩
 have hset:∀ s∈C,refSpans s=0/\s≠[]/\s.length<=64:=fun s hsm=>by
  obtain⟨i,hi⟩:=getElem?_of_mem hsm;obtain⟨c,hc,e⟩:=hget hi;have hcm:=mem_of_getElem? hc;have hso:=JN hE htp' col c N (by omega);have hl:(clsOf col (pieceA E top) c N).length<=64:=by
   rcases lt_or_ge 64 (clsOf col (pieceA E top) c N).length with g|g
   ·exact absurd (.inr ⟨c,hcm,g⟩) hb
   ·exact g
  have hp:=Fa (pc:=pieceA E top) hcm;rw[e];exact⟨Fj hso.sep hso.good hl,fun e0=>by rw[e0]at hp;simp at hp,hl⟩
 have hlen:C.length<=1024:=by
  rw[hC,A4];rcases lt_or_ge 1024 (firsts col N).length with g|g
  ·exact absurd (.inl g) hb
  ·exact g
 have hcov:∀ x,Sy top x->∃ i s,C[i]?=some s/\hasSpan s x=true:=fun x hx=>by
  obtain⟨k,hk,a1,a2⟩:=GU hE hx;have hm:colA L x∈firsts col N:=BD.2 ⟨k,by omega,(hcolp' hx.2 a1 a2).symm⟩;obtain⟨i,hi⟩:=getElem?_of_mem hm;have:=hget2 hi;exact⟨i,_,this,(hhas _ _ _ this).2 ⟨hx,hi⟩⟩
 have huniq:∀(i j:Nat) (s t:Spans) (x:Int),C[i]?=some s->C[j]?=some t->hasSpan s x=true->hasSpan t x=true->i=j:=fun i j s t x hi hj h1 h2=>by
  have a:=((hhas _ _ _ hi).1 h1).2;have b:=((hhas _ _ _ hj).1 h2).2;have hi':=(List.getElem?_eq_some_iff.1 a).1;exact(List.getElem?_inj hi' (BX N)).1 (a.trans b.symm)
 have hdiv:DivOk C top:=by
  refine OO htp (fun s hsm=>⟨(hset s hsm).1,(hset s hsm).2.1⟩) (fun i s t hi hj=>?_) (fun s hsm x hx=>?_) (fun x hx=>?_) huniq
  ·have hs1:=hset s (mem_of_getElem? hi);have ht1:=hset t (mem_of_getElem? hj);obtain⟨k1,k2⟩:=(hhas _ _ _ hj).1 (DC ht1.1 ht1.2.1);obtain⟨k',hk',a1,a2⟩:=GU hE k1;have e':=hcolp' k1.2 a1 a2;obtain⟨k,hk,b⟩:=B9 k2 (by omega:k'<N) e'.symm;have hst:=hE.step (k:=k) (by omega);have h5:hasSpan s (lastP E top k)=true:=(hhas _ _ _ hi).2 ⟨⟨hst.2.1,hst.2.2.1⟩,by rw[hcolp' hst.2.2.1 (Int.le_refl _) hst.1];exact b⟩;have h6:=D1 hs1.1 h5;have h7:=hE.mono hk (by omega);omega
  ·obtain⟨i,hi⟩:=getElem?_of_mem hsm;exact((hhas _ _ _ hi).1 hx).1
  ·obtain⟨i,s,hi,h⟩:=hcov x hx;exact⟨s,mem_of_getElem? hi,h⟩
 refine⟨hdiv,hlen,fun s hsm=>(hset s hsm).2.2,fun x y hx hy=>?_⟩;obtain⟨i,s,hi,h1⟩:=hcov x hx;obtain⟨j,t,hj,h2⟩:=hcov y hy;rw[hdiv.clIx_eq hi h1,hdiv.clIx_eq hj h2];have e1:=((hhas _ _ _ hi).1 h1).2;have e2:=((hhas _ _ _ hj).1 h2).2;constructor
 ·rintro rfl;rw[e1]at e2;exact Option.some.inj e2
 ·intro e;rw[<- e]at e2;exact(List.getElem?_inj (List.getElem?_eq_some_iff.1 e1).1 (BX N)).1 (e1.trans e2.symm)
end
end Go.Ev
namespace Go.Ev
attribute [local go_sem] AV.cells Ah Ao bndO bnd evEq eqCells not_false_eq_true not_true_eq_false toList_some Array.size_empty length_append tySzE head?_drop mul_one AY Ae AU AZ Aa AS
section
attribute [local go_sem] evAppend evBin strOf map_append
theorem f78 (x y:Bool) (H:List MB):call Pg pol1 78 [.bool x,.bool y] H=some (.bool (x&&y),H):=by
 cases x<;>cases y<;>exact A1 (n:=5) 6 78 _ _ _ (by kernel_rfl)
theorem f80 (x y:Bool) (H:List MB):call Pg pol1 80 [.bool x,.bool y] H=some (.bool (x||y),H):=by
 cases x<;>cases y<;>exact A1 (n:=5) 6 80 _ _ _ (by kernel_rfl)
noncomputable def splitW (a b:AutoL):Option Cls:=if 1024<(a.cl++b.cl).length then none else splitA (a.cl++b.cl) (endsR (a.cl++b.cl) (topZ a.cl.flatten)) (topZ a.cl.flatten)
noncomputable def prodW (op:Bool->Bool->Bool) (a b:AutoL):AutoL×Int:=
 if bothW a b≠0 then(zA,bothW a b) else match splitW a b with
  | none=>(zA,4)
  | some C=>if(prodR a b C).length<=1024 then(prodA op a b C,0) else(zA,4)
noncomputable def combW (op:Bool->Bool->Bool) (a b:AutoL):AutoL×Int:=if(prodW op a b).2≠0 then(zA,(prodW op a b).2) else lstW (prodW op a b).1
theorem GA {a b:AutoL} (h:bothW a b=0):GoodA a/\GoodA b/\DivOk a.cl (topZ a.cl.flatten)/\DivOk b.cl (topZ a.cl.flatten):=by
 unfold bothW at h;split at h
 ·rename_i h1;exact absurd h h1
 ·rename_i h1;split at h
  ·rename_i h2;exact absurd h h2
  ·rename_i h2;split at h
   ·cases h
   ·rename_i h3;have h1:validW (dividesA a.cl) a=0:=by omega
    have h2:validW (dividesA b.cl) b=0:=by omega
    obtain⟨g1,d1⟩:=BC h1;obtain⟨g2,d2⟩:=BC h2;refine⟨g1,g2,DF d1,?_⟩;have h3:topZ a.cl.flatten=topZ b.cl.flatten:=by omega
    rw[h3];exact DF d2
theorem f92e (g:Nat) (a b:AutoL) (hba:AutoB a) (hbb:AutoB b) (hbw:bothW a b≠0) (H:List MB) :
  call Pg pol1 92 [autoAV a,autoAV b,.clo g []] H=some (pairAV (zA,bothW a b),H):=by
 have h139:=f139 a b hba hbb;have hpl:=Ac a;have hpl2:=Ac b;generalize bothW a b=e at *;refine AQ Tryz.func92 rfl rfl rfl rfl rfl rfl (fun _=>rfl) (by simp[AV.plainL,AV.plain,AM,AT,AJ]) (Ax _) ?_ H;unfold pairAV;simp +contextual (disch:=omega) only[Tryz.f92,dd92,go_sem,simprocAttr,mu92,↓AE,↓AD,↓AC,↓AA,h139,hbw];exact⟨_,rfl⟩
theorem f92s (g:Nat) (a b:AutoL) (hga:GoodA a) (hgb:GoodA b) (hba:AutoB a) (hbb:AutoB b) {top:Int} (hda:DivOk a.cl top) (hbw:bothW a b=0)
  (hC:∀ H,call Pg pol1 41 [.sl false ((a.cl++b.cl).map setAV9),I top] H=some (.tup [.sl false [],I 4],H)) (H:List MB) :
  call Pg pol1 92 [autoAV a,autoAV b,.clo g []] H=some (pairAV (zA,4),H):=by
 have h139:=f139 a b hba hbb;rw[hbw]at h139;have h140:=f140 a.cl b.cl (by
  have h1:=hda.top_;have:=(hda.clIx_lt (x:=0) (by omega) (by omega)).1;omega) (by have:=hga.cl;have:=hgb.cl;omega)
 have h72:=f72 a hba (fun s hs=>(hda.set s hs).2);rw[hda.topL_eq.1,hda.topL_eq.2]at h72;refine AQ Tryz.func92 rfl rfl rfl rfl rfl rfl (fun _=>rfl) (by simp[AV.plainL,AV.plain,AM,AT,AJ]) (Ax _) ?_ H;have c140:=fun H:List MB=>A3 (P:=Pg) (pol:=pol1) (f:=140) (args:=[.sl true [.sl false (a.cl.map setAV9),.sl false (b.cl.map setAV9)]]) (l:=[.sl false [.sl false (a.cl.map setAV9),.sl false (b.cl.map setAV9)]]) (H:=H) (H1:=H) rfl (by
  have hz:fz (.sl true [.sl false (a.cl.map setAV9),.sl false (b.cl.map setAV9)]) H=some (.sl false [.sl false (a.cl.map setAV9),.sl false (b.cl.map setAV9)],H):=by
   unfold fz;simp only[fzA,fzL,BA _ _ _ (AM _)]
  simp only[frzArgs,show pol1.byref 140 0=false from rfl,Bool.false_eq_true,if_false,hz]) (by simp[AV.plainL,AV.plain,AM])
 simp only[h140]at c140;generalize hAB:a.cl++b.cl=AB at *;unfold pairAV;simp +contextual (disch:=omega) only[Tryz.f92,dd92,go_sem,simprocAttr,mu92,↓AE,↓AD,↓AC,↓AA,h139,c140,h72,hC];repeat' (first|intro _|apply And.intro|(unfold dOk;kernel_rfl)|exact St.beq_refl _|exact Aq|(show altO _ _ _ _=true;kernel_rfl)|(show (_||_)=true;kernel_rfl)|(show (_&&_)=true;kernel_rfl))
 exact⟨_,rfl⟩
theorem Ep {s:Spans} (h:refSpans s=0):SetV s/\s.length<=64:=⟨⟨(A8 h).imp (fun h=>by omega),Ak h⟩,(BN h).2⟩
theorem f92W (g:Nat) (op:Bool->Bool->Bool) (hop:∀ x y H,call Pg pol1 g [.bool x,.bool y] H=some (.bool (op x y),H)) (hy:g≠yldF) (a b:AutoL) (hba:AutoB a) (hbb:AutoB b) (H:List MB) :
  call Pg pol1 92 [autoAV a,autoAV b,.clo g []] H=some (pairAV (prodW op a b),H):=by
 unfold prodW;by_cases hbw:bothW a b=0
 ·rw[if_neg (by simp[hbw])];obtain⟨hga,hgb,hda,hdb⟩:=GA hbw;have ht:=hda.top_;have hLs:∀ s∈a.cl++b.cl,refSpans s=0:=fun s hs=>by
   rcases List.mem_append.1 hs with h|h
   ·exact(hda.set s h).1
   ·exact(hdb.set s h).1
  have h41:=sf34 (a.cl++b.cl) (topZ a.cl.flatten) (by omega) (by omega) (fun s hs=>(Ep (hLs s hs)).1) hLs (by have:=hga.cl;have:=hgb.cl;simp;omega) (fun s hs=>(Ep (hLs s hs)).2);have h41':∀ H,call Pg pol1 41 [.sl false ((a.cl++b.cl).map setAV9),I (topZ a.cl.flatten)] H=some (splitR (splitW a b),H):=fun H=>by
   rw[h41 H];unfold splitW;split<;>rfl
  cases hsp:splitW a b with
  | none=>
    rw[hsp]at h41';exact f92s g a b hga hgb hba hbb hda hbw h41' H
  | some C=>
    rw[hsp]at h41';have hCd:=FI ht (fun s hs=>(Ep (hLs s hs)).1) (show splitA (a.cl++b.cl) (endsR (a.cl++b.cl) (topZ a.cl.flatten)) (topZ a.cl.flatten)=some C by
     unfold splitW at hsp;split at hsp
     ·cases hsp
     ·exact hsp)
    rw[f92 g op hop hy a b hga hgb hba hbb hda hdb hbw C h41' hCd.1 hCd.2.1 H];simp only[];split<;>rfl
 ·rw[if_pos hbw];exact f92e g a b hba hbb hbw H
end
end Go.Ev
