/- Functions of the program, each with what it computes; no further conditions. -/
import Derived.Test.YtmfpcondongbjaaDoorR07
import Derived.Test.YtmfpcondongbjaaDoorR17
set_option linter.unusedVariables false
set_option linter.unusedSimpArgs false
namespace Go.Ev
attribute [local go_sem] evBuild splice tySzE List.head?_drop Nat.mul_one zAN zAQ zAL zAO zAP zAU
section
attribute [local go_sem] evAppend List.length_append List.map_append
open Go.Proofs Go.RowKit Go.IntWalk
set_option maxRecDepth 100000
set_option maxHeartbeats 8000000
def optsM (md:Int) (k:Re) (e:Int):Nat→Nat→Nat→List Ins
 | _,_,0=>[]
 | p,j,m+1=>(if 0 < j then insSplit md (p+1:Nat) e else⟨0,0,0,0,[]⟩)::(codeG k (p+1)++optsM md k e (p+lenG k+1) (j - 1) m)
theorem zCW {caps top:Int} {k:Re} (h:GoodC caps top k) (md e:Int):∀(m p j:Nat),(optsM md k e p j m).length=m * (lenG k+1)
 | 0,_,_=>by simp[optsM]
 | m+1,p,j=>by
   rw[optsM,List.length_cons,List.length_append,zAm caps top k _ h,zCW h md e m,Nat.succ_mul]
   omega
theorem zD7 (md e:Int) (k:Re):∀(m p:Nat),optsM md k e p 0 (m+1)=optsM md k e p 0 m++(⟨0,0,0,0,[]⟩::codeG k (p+m * (lenG k+1)+1))
 | 0,p=>by simp[optsM]
 | m+1,p=>by
   rw[optsM,Nat.zero_sub,zD7 md e k m]
   conv=>rhs;rw[optsM]
   have:p+lenG k+1+m * (lenG k+1)+1=p+(m+1) * (lenG k+1)+1:=by rw[Nat.succ_mul];omega
   rw[this]
   simp
theorem zHI (md:Int) (e:Nat) (k:Re):∀(m p j:Nat),m≤j→optsM md k e p j m=optsG md k p e m
 | 0,_,_,_=>rfl
 | m+1,p,j,h=>by
   rw[optsM,if_pos (by omega),zHI md e k m _ (j - 1) (by omega),optsG,optsG,List.range_succ_eq_map,List.flatMap_cons,List.flatMap_map]
   simp only[Nat.zero_mul,Nat.add_zero,List.cons_append]
   congr 2
   congr 1
   funext i
   have:p+lenG k+1+i * (lenG k+1)+1=p+(i+1) * (lenG k+1)+1:=by rw[Nat.succ_mul];omega
   simp only[Function.comp,Nat.succ_eq_add_one,this]
theorem zE4 {caps top:Int} {k:Re} (hk:GoodC caps top k) (md e:Int):∀(m p j:Nat),j < m→(optsM md k e p j m)[j * (lenG k+1)]?=some ⟨0,0,0,0,[]⟩∧(optsM md k e p j m).set (j * (lenG k+1)) (insSplit md (p+j * (lenG k+1)+1:Nat) e)=optsM md k e p (j+1) m
 | 0,_,_,h=>by omega
 | m+1,p,0,h=>by
   refine⟨by simp[optsM],?_⟩
   simp[optsM]
 | m+1,p,j+1,h=>by
   have hl:=zAm caps top k (p+1) hk
   obtain⟨h1,h2⟩:=zE4 hk md e m (p+lenG k+1) j (by omega)
   have hp:(j+1) * (lenG k+1)=(codeG k (p+1)).length+j * (lenG k+1)+1:=by rw[Nat.succ_mul];omega
   have hq:p+lenG k+1+j * (lenG k+1)+1=p+(j+1) * (lenG k+1)+1:=by rw[Nat.succ_mul];omega
   rw[hq]at h2
   refine⟨?_,?_⟩
   ·rw[optsM,hp,List.getElem?_cons_succ,List.getElem?_append_right (by omega),Nat.add_sub_cancel_left]
    exact h1
   ·rw[optsM,if_pos (by omega),Nat.add_sub_cancel]
    conv=>lhs;arg 2;rw[hp]
    rw[List.set_cons_succ,List.set_append_right _ _ (by omega),Nat.add_sub_cancel_left,h2]
    conv=>rhs;rw[optsM,if_pos (by omega)]
    rfl
def splA (p L j:Nat):List AV:=(List.range j).map fun i=>I (p+i * (L+1):Nat)
theorem zGx (p L j:Nat):splA p L (j+1)=splA p L j++[I (p+j * (L+1):Nat)]:=by
 rw[splA,List.range_succ,List.map_append];rfl
theorem zEq (p L j:Nat):(splA p L j).length=j:=by simp[splA]
theorem zIe {p L j i:Nat} (h:i < j):(splA p L j)[i]?=some (I (p+i * (L+1):Nat)):=by
 simp[splA,List.getElem?_range h]
end
section
open Go.Proofs Go.RowKit Go.IntWalk
set_option maxRecDepth 100000
set_option maxHeartbeats 8000000
theorem zHA {K:List MB} {C C':List Ins} {n n':Nat} {b:MB}:sameAt (K.length+1+1+1+1+1+1) (cS (K++[b]) C n) (cS (K++[b]) C' n')=true:=by
 simp[sameAt,MB.beq_refl]
theorem zLP (caps top:Int) (set:List (Int×Int)) (k:Re) (mn mx md n0:Int) (neg:Bool) (hw:GoodC caps top (.mk 4 set [k] mn mx md n0 neg)) (ih:Does111 k):Does108 (.mk 4 set [k] mn mx md n0 neg):=by
 intro K C n hC hb hL
 have hgk:GoodC caps top k:=hw.kids k (List.mem_singleton.2 rfl)
 have hr:=(zAt hw.whole).2.2.1 rfl
 simp only[repG,Bool.and_eq_true,Bool.or_eq_true,decide_eq_true_eq,beq_iff_eq]at hr
 obtain⟨mn',rfl⟩:∃ m:Nat,mn=m:=⟨mn.toNat,by omega⟩
 have hmn:mn'≤32:=by omega
 have hll:lenL [k]=lenG k:=by simp[lenL]
 have hlr:mn' * lenG k≤lenG (.mk 4 set [k] mn' mx md n0 neg)∧lenG k≤lenG (.mk 4 set [k] mn' mx md n0 neg):=by
  rw[lenG,if_neg (by omega),if_neg (by omega),if_neg (by omega),if_pos rfl,hll,Int.toNat_natCast]
  split
  ·rw[Nat.succ_mul];omega
  ·obtain⟨e,he⟩:∃ e:Nat,mx=(mn' + e:Nat):=⟨(mx - mn').toNat,by omega⟩
   subst he
   rw[Int.toNat_natCast,Nat.add_mul]
   have:1≤mn'→lenG k≤mn' * lenG k:=fun h=>Nat.le_mul_of_pos_left _ h
   have:1≤e→lenG k≤e * lenG k:=fun h=>Nat.le_mul_of_pos_left _ h
   omega
 have hrc:(.pt (reC (.mk 4 set [k] mn' mx md n0 neg)):AV)=.pt (nodeL 4 set [k] mn' mx md n0 neg):=congrArg AV.pt zFn
 have hcl:=fun i=>zJY hgk n i
 have hl8:=zA1 k
 have ht8:=zBS k
 have fr:∀ H,frzArgs pol1 41 0 [.pt (nodeL 4 set [k] mn' mx md n0 neg),.rf 3 1 0 0,.rf 2 1 0 0,.rf 0 1 0 0] H=some ([.pt (nodeL 4 set [k] mn' mx md n0 neg),.rf 3 1 0 0,.rf 2 1 0 0,.rf 0 1 0 0],H):=fun H=>
  zAa _ _ _ (by simp[mixOk,show pol1.byref 41 1=true from rfl,show pol1.byref 41 2=true from rfl,show pol1.byref 41 3=true from rfl,AV.plain,AV.plainL,zAG,zAp,zA8])
 rw[hrc]
 refine zAg (pol:=pol1) Tryd.func41 rfl rfl rfl rfl (fr _) ?_
 simp +contextual (disch:=omega) only[Tryd.f41,dd41,go_sem,simprocAttr,evAppend,List.length_append,mu41,↓zAE,↓zAC,↓zAB,↓zAA]
 refine zAY (M:=(mskOf (pol1.mask 41) (pol1.gc 41) (pol1.acts 41) 0 1)) rfl mn' (fun i=>(⟨84,[(13,I i),(12,I mn'),(3,.rf 0 1 0 0),(2,.rf 2 1 0 0),(1,.rf 3 1 0 0),(0,.pt (nodeL 4 set [k] mn' mx md n0 neg))],cS K (C++copiesG k n i) (n+i * lenG k)⟩:St)) (fun _=>True) ?_ ?_ trivial _ ?_
 ·intro i hi _
  have e1:=zIK k n i
  have e3:(i+1) * lenG k=i * lenG k+lenG k:=Nat.succ_mul ..
  have e4:(i+1) * lenG k≤mn' * lenG k:=Nat.mul_le_mul_right _ hi
  have e2:=hcl i
  have h2:=ih K (C++copiesG k n i) (n+i * lenG k) (by rw[List.length_append,hC,e2]) (by omega) (by omega)
  simp +contextual (disch:=omega) only[Tryd.f41,dd41,go_sem,simprocAttr,evAppend,List.length_append,mu41,↓zAE,↓zAC,↓zAB,↓zAA,h2,hl8,ht8]
  repeat' (first|intro _|apply And.intro|(unfold dOk;kernel_rfl)|exact St.beq_refl _|(show altO _ _ _ _=true;kernel_rfl)|(show (_ || _)=true;kernel_rfl)|(show (_ && _)=true;kernel_rfl))
  rw[e1,e3,← List.append_assoc,← Nat.add_assoc]
  rfl
 ·intro _
  have hA:(C++copiesG k n mn').length=n+mn' * lenG k:=by rw[List.length_append,hC,hcl]
  generalize hAe:C++copiesG k n mn' = A at *
  have hp0:n+mn' * lenG k≤100000:=by omega
  generalize hpe:n+mn' * lenG k=p at *
  by_cases hmx:mx = -1
  ·subst hmx
   have hLL:lenG (.mk 4 set [k] mn' (-1) md n0 neg)=mn' * lenG k+lenG k+2:=by
    rw[lenG,if_neg (by omega),if_neg (by omega),if_neg (by omega),if_pos rfl,if_pos rfl,hll,Int.toNat_natCast,Nat.succ_mul]
   have hEb:(p+lenG k+2)≤100000:=by omega
   simp +contextual (disch:=omega) only[Tryd.f41,dd41,go_sem,simprocAttr,evAppend,List.length_append,mu41,↓zAE,↓zAC,↓zAB,↓zAA,hl8]
   repeat' (first|intro _|apply And.intro|(unfold dOk;kernel_rfl)|exact St.beq_refl _|(show altO _ _ _ _=true;kernel_rfl)|(show (_ || _)=true;kernel_rfl)|(show (_ && _)=true;kernel_rfl))
   refine zAY (M:=(mskOf (pol1.mask 41) (pol1.gc 41) (pol1.acts 41) 0 9)) rfl 1 (fun j=>(⟨84,[(38,I j),(37,I (1:Nat)),(6,.ms (K.length+1+1+1+1+1+1) 1 j 0 j),(3,.rf 0 1 0 0),(2,.rf 2 1 0 0),(1,.rf 3 1 0 0),(0,.pt (nodeL 4 set [k] mn' (-1) md n0 neg))],
    cS (K++[.row 1 (splA p (lenG k) j) 0]) (A++optsM md k ((p+lenG k+2):Nat) p 0 j) (p+j * (lenG k+1))⟩:St)) (fun _=>True) ?_ ?_ trivial _ ?_
   ·intro j hj _
    have e4:(j+1) * (lenG k+1)≤1 * (lenG k+1):=Nat.mul_le_mul_right _ hj
    have e3:(j+1) * (lenG k+1)=j * (lenG k+1)+lenG k+1:=by rw[Nat.succ_mul];omega
    have e1:=zD7 md ((p+lenG k+2):Nat) k j p
    have hol:=zCW hgk md ((p+lenG k+2):Nat) j p 0
    have h1:=fun R=>zFb 0 0 0 0 true [] (A++optsM md k ((p+lenG k+2):Nat) p 0 j) (p+j * (lenG k+1)) R (by rw[List.length_append,hA,hol]) (by omega)
    simp only[List.map_nil]at h1
    have hap:=fun C' m' x=>zGl (K:=K) (C:=C') (m:=m') (els:=splA p (lenG k) j) (n:=j) (x:=x) (zEq _ _ _) (by omega)
    have h2:=ih (K++[.row 1 (splA p (lenG k) j++[I (p+j * (lenG k+1):Nat)]) 0]) (A++optsM md k ((p+lenG k+2):Nat) p 0 j++[⟨0,0,0,0,[]⟩]) (p+j * (lenG k+1)+1) (by simp only[List.length_append,hA,hol,List.length_singleton]) (by omega) (by omega)
    have er:=zGx p (lenG k) j
    simp +contextual (disch:=omega) only[Tryd.f41,dd41,go_sem,simprocAttr,List.length_append,mu41,↓zAE,↓zAC,↓zAB,↓zAA,h1,hap,h2,hl8,ht8,zA5,zB5]
    repeat' (first|intro _|apply And.intro|(unfold dOk;kernel_rfl)|exact St.beq_refl _|(show altO _ _ _ _=true;kernel_rfl)|(show (_ || _)=true;kernel_rfl)|(show (_ && _)=true;kernel_rfl))
    have hq:p+(j+1) * (lenG k+1)=p+j * (lenG k+1)+1+lenG k:=by omega
    have hc:A++optsM md k ((p+lenG k+2):Nat) p 0 (j+1)=A++optsM md k ((p+lenG k+2):Nat) p 0 j++[⟨0,0,0,0,[]⟩]++codeG k (p+j * (lenG k+1)+1):=by rw[e1];simp
    rw[er,hc,hq]
    rfl
   ·intro _
    have hol0:=zCW hgk md ((p+lenG k+2:Nat):Int) 1 p 0
    have hp3:=fun R=>zFb 3 (p:Nat) 0 0 true [] (A++optsM md k ((p+lenG k+2:Nat)) p 0 1) (p+1 * (lenG k+1)) R (by rw[List.length_append,hA,hol0]) (by omega)
    simp only[List.map_nil]at hp3
    have hg0:(splA p (lenG k) 1)[0]?=some (I (p:Nat)):=by simp[splA]
    have hsl:=zEq p (lenG k) 1
    simp +contextual (disch:=omega) only[Tryd.f41,dd41,go_sem,simprocAttr,evAppend,List.length_append,mu41,↓zAE,↓zAC,↓zAB,↓zAA,hsl,zA5,hl8,zHA,hp3,hg0]
    repeat' (first|intro _|apply And.intro|(unfold dOk;kernel_rfl)|exact St.beq_refl _|(show altO _ _ _ _=true;kernel_rfl)|(show (_ || _)=true;kernel_rfl)|(show (_ && _)=true;kernel_rfl))
    refine zAY (M:=(mskOf (pol1.mask 41) (pol1.gc 41) (pol1.acts 41) 0 16)) rfl 1 (fun j=>(⟨84,[(67,I j),(66,I (1:Nat)),(65,.ms (K.length+1+1+1+1+1+1) 1 1 0 1),(3,.rf 0 1 0 0),(0,.pt (nodeL 4 set [k] mn' (-1) md n0 neg))],
     cS (K++[.row 1 (splA p (lenG k) 1) 0]) (A++optsM md k ((p+lenG k+2:Nat)) p j 1++[(⟨3,p,0,0,[]⟩:Ins)]) (p+lenG k+2)⟩:St)) (fun _=>True) ?_ ?_ trivial _ ?_
    ·intro j hj _
     have e4:(j+1) * (lenG k+1)≤1 * (lenG k+1):=Nat.mul_le_mul_right _ hj
     have e3:(j+1) * (lenG k+1)=j * (lenG k+1)+lenG k+1:=by rw[Nat.succ_mul];omega
     have hgs:=zIe (p:=p) (L:=lenG k) hj
     obtain⟨g1,g2⟩:=zE4 hgk md ((p+lenG k+2):Nat) 1 p j hj
     have hol:=zCW hgk md ((p+lenG k+2):Nat) 1 p j
     have hcl2:(A++optsM md k ((p+lenG k+2:Nat)) p j 1++[(⟨3,p,0,0,[]⟩:Ins)]).length=(p+lenG k+2):=by simp only[List.length_append,hA,hol,List.length_singleton]<;>omega
     have hget:(A++optsM md k ((p+lenG k+2:Nat)) p j 1++[(⟨3,p,0,0,[]⟩:Ins)])[p+j * (lenG k+1)]?=some ⟨0,0,0,0,[]⟩:=by
      rw[List.getElem?_append_left (by rw[List.length_append,hA,hol];omega),List.getElem?_append_right (by omega),hA,Nat.add_sub_cancel_left];exact g1
     have hset:(A++optsM md k ((p+lenG k+2:Nat)) p j 1++[(⟨3,p,0,0,[]⟩:Ins)]).set (p+j * (lenG k+1)) (insSplit md (p+j * (lenG k+1)+1:Nat) ((p+lenG k+2):Nat))=(A++optsM md k ((p+lenG k+2:Nat)) p (j+1) 1++[(⟨3,p,0,0,[]⟩:Ins)]):=by
      rw[List.set_append_left _ _ (by rw[List.length_append,hA,hol];omega),List.set_append_right _ _ (by omega),hA,Nat.add_sub_cancel_left,g2]
     have hst:((A++optsM md k ((p+lenG k+2:Nat)) p j 1++[(⟨3,p,0,0,[]⟩:Ins)]).map insAV).set (p+j * (lenG k+1)) (insAV (insSplit md (p+j * (lenG k+1)+1:Nat) ((p+lenG k+2):Nat)))=(A++optsM md k ((p+lenG k+2:Nat)) p (j+1) 1++[(⟨3,p,0,0,[]⟩:Ins)]).map insAV:=by
      rw[← hset,List.map_set]
     have h109:=zLn (p+j * (lenG k+1)+1:Nat) ((p+lenG k+2):Nat) md
     simp +contextual (disch:=omega) only[Tryd.f41,dd41,go_sem,simprocAttr,evAppend,mu41,↓zAE,↓zAC,↓zAB,↓zAA,hgs,hget,hcl2,hst,hsl,h109,zA5,zB5]
     repeat' (first|intro _|apply And.intro|(unfold dOk;kernel_rfl)|exact St.beq_refl _|(show altO _ _ _ _=true;kernel_rfl)|(show (_ || _)=true;kernel_rfl)|(show (_ && _)=true;kernel_rfl))
     rfl
    ·intro _
     simp +contextual (disch:=omega) only[Tryd.f41,dd41,go_sem,simprocAttr,evAppend,List.length_append,mu41,↓zAE,↓zAC,↓zAB,↓zAA,zA5]
     have hcode:codeG (.mk 4 set [k] mn' (-1) md n0 neg) n=copiesG k n mn'++insSplit md ((n+mn' * lenG k+1:Nat):Int) ((n+mn' * lenG k+lenG k+2:Nat):Int)::(codeG k (n+mn' * lenG k+1)++[⟨3,(n+mn' * lenG k:Nat),0,0,[]⟩]):=by
      rw[codeG]
      simp only[copiesG,hll,codeHd,Int.toNat_natCast,if_true]
      rfl
     rw[hpe]at hcode
     have hfin:C++codeG (.mk 4 set [k] mn' (-1) md n0 neg) n=A++optsM md k ((p+lenG k+2:Nat)) p 1 1++[(⟨3,p,0,0,[]⟩:Ins)]:=by
      rw[hcode,← List.append_assoc,hAe]
      simp[optsM]
     rw[hfin,show n+lenG (.mk 4 set [k] mn' (-1) md n0 neg)=p+lenG k+2 by omega]
     exact zH4 _ _ _ rfl rfl
    ·rw[show p+1 * (lenG k+1)+1=p+lenG k+2 by omega]
     rfl
   ·simp[optsM,splA]
    rfl
  ·obtain⟨e,rfl⟩:∃ e:Nat,mx=(mn' + e:Nat):=⟨(mx - mn').toNat,by omega⟩
   have hnn:mn' + e - mn' = e:=by omega
   have hLL:lenG (.mk 4 set [k] mn' (mn' + e:Nat) md n0 neg)=mn' * lenG k+e * (lenG k+1):=by
    rw[lenG,if_neg (by omega),if_neg (by omega),if_neg (by omega),if_pos rfl,if_neg hmx,hll,Int.toNat_natCast,Int.toNat_natCast,hnn,Nat.add_mul,Nat.mul_succ]
    omega
   have hsub:((mn' + e:Nat):Int) - (mn':Int)=(e:Int):=by omega
   have hEb:(p+e * (lenG k+1))≤100000:=by omega
   simp +contextual (disch:=omega) only[Tryd.f41,dd41,go_sem,simprocAttr,evAppend,List.length_append,mu41,↓zAE,↓zAC,↓zAB,↓zAA,hsub,hl8]
   repeat' (first|intro _|apply And.intro|(unfold dOk;kernel_rfl)|exact St.beq_refl _|(show altO _ _ _ _=true;kernel_rfl)|(show (_ || _)=true;kernel_rfl)|(show (_ && _)=true;kernel_rfl))
   refine zAY (M:=(mskOf (pol1.mask 41) (pol1.gc 41) (pol1.acts 41) 0 9)) rfl e (fun j=>(⟨84,[(38,I j),(37,I (e:Nat)),(6,.ms (K.length+1+1+1+1+1+1) 1 j 0 j),(3,.rf 0 1 0 0),(2,.rf 2 1 0 0),(1,.rf 3 1 0 0),(0,.pt (nodeL 4 set [k] mn' (mn' + e:Nat) md n0 neg))],
    cS (K++[.row 1 (splA p (lenG k) j) 0]) (A++optsM md k ((p+e * (lenG k+1)):Nat) p 0 j) (p+j * (lenG k+1))⟩:St)) (fun _=>True) ?_ ?_ trivial _ ?_
   ·intro j hj _
    have e4:(j+1) * (lenG k+1)≤e * (lenG k+1):=Nat.mul_le_mul_right _ hj
    have e3:(j+1) * (lenG k+1)=j * (lenG k+1)+lenG k+1:=by rw[Nat.succ_mul];omega
    have e1:=zD7 md ((p+e * (lenG k+1)):Nat) k j p
    have hol:=zCW hgk md ((p+e * (lenG k+1)):Nat) j p 0
    have h1:=fun R=>zFb 0 0 0 0 true [] (A++optsM md k ((p+e * (lenG k+1)):Nat) p 0 j) (p+j * (lenG k+1)) R (by rw[List.length_append,hA,hol]) (by omega)
    simp only[List.map_nil]at h1
    have hap:=fun C' m' x=>zGl (K:=K) (C:=C') (m:=m') (els:=splA p (lenG k) j) (n:=j) (x:=x) (zEq _ _ _) (by omega)
    have h2:=ih (K++[.row 1 (splA p (lenG k) j++[I (p+j * (lenG k+1):Nat)]) 0]) (A++optsM md k ((p+e * (lenG k+1)):Nat) p 0 j++[⟨0,0,0,0,[]⟩]) (p+j * (lenG k+1)+1) (by simp only[List.length_append,hA,hol,List.length_singleton]) (by omega) (by omega)
    have er:=zGx p (lenG k) j
    simp +contextual (disch:=omega) only[Tryd.f41,dd41,go_sem,simprocAttr,List.length_append,mu41,↓zAE,↓zAC,↓zAB,↓zAA,h1,hap,h2,hl8,ht8,zA5,zB5]
    repeat' (first|intro _|apply And.intro|(unfold dOk;kernel_rfl)|exact St.beq_refl _|(show altO _ _ _ _=true;kernel_rfl)|(show (_ || _)=true;kernel_rfl)|(show (_ && _)=true;kernel_rfl))
    have hq:p+(j+1) * (lenG k+1)=p+j * (lenG k+1)+1+lenG k:=by omega
    have hc:A++optsM md k ((p+e * (lenG k+1)):Nat) p 0 (j+1)=A++optsM md k ((p+e * (lenG k+1)):Nat) p 0 j++[⟨0,0,0,0,[]⟩]++codeG k (p+j * (lenG k+1)+1):=by rw[e1];simp
    rw[er,hc,hq]
    rfl
   ·intro _
    have hsl:=zEq p (lenG k) e
    simp +contextual (disch:=omega) only[Tryd.f41,dd41,go_sem,simprocAttr,evAppend,List.length_append,mu41,↓zAE,↓zAC,↓zAB,↓zAA,hsl,zA5,hl8,zHA]
    repeat' (first|intro _|apply And.intro|(unfold dOk;kernel_rfl)|exact St.beq_refl _|(show altO _ _ _ _=true;kernel_rfl)|(show (_ || _)=true;kernel_rfl)|(show (_ && _)=true;kernel_rfl))
    refine zAY (M:=(mskOf (pol1.mask 41) (pol1.gc 41) (pol1.acts 41) 0 16)) rfl e (fun j=>(⟨84,[(67,I j),(66,I (e:Nat)),(65,.ms (K.length+1+1+1+1+1+1) 1 e 0 e),(3,.rf 0 1 0 0),(0,.pt (nodeL 4 set [k] mn' (mn' + e:Nat) md n0 neg))],
     cS (K++[.row 1 (splA p (lenG k) e) 0]) (A++optsM md k ((p+e * (lenG k+1):Nat)) p j e) (p+e * (lenG k+1))⟩:St)) (fun _=>True) ?_ ?_ trivial _ ?_
    ·intro j hj _
     have e4:(j+1) * (lenG k+1)≤e * (lenG k+1):=Nat.mul_le_mul_right _ hj
     have e3:(j+1) * (lenG k+1)=j * (lenG k+1)+lenG k+1:=by rw[Nat.succ_mul];omega
     have hgs:=zIe (p:=p) (L:=lenG k) hj
     obtain⟨g1,g2⟩:=zE4 hgk md ((p+e * (lenG k+1)):Nat) e p j hj
     have hol:=zCW hgk md ((p+e * (lenG k+1)):Nat) e p j
     have hcl2:(A++optsM md k ((p+e * (lenG k+1):Nat)) p j e).length=(p+e * (lenG k+1)):=by simp only[List.length_append,hA,hol,List.length_singleton]<;>omega
     have hget:(A++optsM md k ((p+e * (lenG k+1):Nat)) p j e)[p+j * (lenG k+1)]?=some ⟨0,0,0,0,[]⟩:=by
      rw [ List.getElem?_append_right (by omega),hA,Nat.add_sub_cancel_left];exact g1
     have hset:(A++optsM md k ((p+e * (lenG k+1):Nat)) p j e).set (p+j * (lenG k+1)) (insSplit md (p+j * (lenG k+1)+1:Nat) ((p+e * (lenG k+1)):Nat))=(A++optsM md k ((p+e * (lenG k+1):Nat)) p (j+1) e):=by
      rw [ List.set_append_right _ _ (by omega),hA,Nat.add_sub_cancel_left,g2]
     have hst:((A++optsM md k ((p+e * (lenG k+1):Nat)) p j e).map insAV).set (p+j * (lenG k+1)) (insAV (insSplit md (p+j * (lenG k+1)+1:Nat) ((p+e * (lenG k+1)):Nat)))=(A++optsM md k ((p+e * (lenG k+1):Nat)) p (j+1) e).map insAV:=by
      rw[← hset,List.map_set]
     have h109:=zLn (p+j * (lenG k+1)+1:Nat) ((p+e * (lenG k+1)):Nat) md
     simp +contextual (disch:=omega) only[Tryd.f41,dd41,go_sem,simprocAttr,evAppend,mu41,↓zAE,↓zAC,↓zAB,↓zAA,hgs,hget,hcl2,hst,hsl,h109,zA5,zB5]
     repeat' (first|intro _|apply And.intro|(unfold dOk;kernel_rfl)|exact St.beq_refl _|(show altO _ _ _ _=true;kernel_rfl)|(show (_ || _)=true;kernel_rfl)|(show (_ && _)=true;kernel_rfl))
     rfl
    ·intro _
     simp +contextual (disch:=omega) only[Tryd.f41,dd41,go_sem,simprocAttr,evAppend,List.length_append,mu41,↓zAE,↓zAC,↓zAB,↓zAA,zA5]
     have hcode:codeG (.mk 4 set [k] mn' (mn' + e:Nat) md n0 neg) n=restG md k n mn' (p+e * (lenG k+1)) e:=by
      rw[codeG,if_neg (by omega),if_neg (by omega),if_neg (by omega),if_neg (by omega),if_neg (by omega),if_pos rfl,if_neg hmx]
      simp only[hll,Int.toNat_natCast,hnn,restG,optsG,copiesG,codeHd]
      have:n+(mn' + e) * lenG k+e=p+e * (lenG k+1):=by
       rw[← hpe,Nat.add_mul,Nat.mul_succ];omega
      rw[this]
     have hfin:C++codeG (.mk 4 set [k] mn' (mn' + e:Nat) md n0 neg) n=A++optsM md k ((p+e * (lenG k+1):Nat)) p e e:=by
      rw[hcode,restG,← List.append_assoc,hAe,hpe,zHI md _ k e p e (Nat.le_refl _)]
     rw[hfin,show n+lenG (.mk 4 set [k] mn' (mn' + e:Nat) md n0 neg)=p+e * (lenG k+1) by omega]
     exact zH4 _ _ _ rfl rfl
    ·rfl
   ·simp[optsM,splA]
    rfl
 ·simp[copiesG]
  rfl
end
section
attribute [local go_sem] List.length_append
open Go.Proofs Go.RowKit Go.IntWalk
set_option maxRecDepth 100000
set_option maxHeartbeats 8000000
theorem zLm (caps top:Int) (hcaps:caps≤1000):∀(N:Nat) (r:Re),r.wt≤N→r.wt≤1000000→GoodC caps top r→Does111 r
 | 0,r,h,_,_=>by have:=r.wt_pos;omega
 | N+1,r,h,hN,hw=>by
   refine zLN caps top hcaps r hN hw ?_
   rintro op set kids mn mx md n neg rfl
   have hkl:=Re.wtL_len kids
   have hwt:1+set.length+Re.wtL kids=(Re.mk op set kids mn mx md n neg).wt:=by simp[Re.wt]
   have hkd:=(zAt hw.whole).2.1
   have ih:=fun k (hk:k∈kids)=>zLm caps top hcaps N k (by have:=Re.wtL_mem hk;omega) (by have:=Re.wtL_mem hk;omega) (hw.kids k hk)
   refine⟨?_,?_,ih⟩
   ·rintro rfl
    obtain⟨k,rfl⟩:∃ k,kids=[k]:=List.length_eq_one_iff.1 (by simpa [kidsG] using hkd)
    exact zLP caps top set k mn mx md n neg hw (ih k (List.mem_singleton.2 rfl))
   ·rintro rfl
    exact zLO caps top kids (by simpa [kidsG] using hkd) (by omega) hw.kids ih
theorem f51 (caps top:Int) (hcaps:caps≤1000) (r:Re) (hN:r.wt≤1000000) (hw:GoodC caps top r) (hl:lenG r≤8192) (H:List MB) :
  call Tryd.prog pol1 23 [.pt (reC r)] H=some (.ms H.length 5 (lenG r) 0 (lenG r),H++[.row 5 ((codeG r 0).map insAV) 0]):=by
 have h111:=zLm caps top hcaps r.wt r (Nat.le_refl _) hN hw [] [] 0 rfl (by omega) hl
 have hlen:=zAm caps top r 0 hw
 rw[List.nil_append,Nat.zero_add]at h111
 refine zKS (k:=5) (els:=(codeG r 0).map insAV) Tryd.func23 rfl rfl rfl rfl (fun _=>rfl) (by simp[AV.plain,AV.plainL,zA8]) (zAH _) ?_ H
 generalize codeG r 0=B at *
 generalize lenG r=L at *
 have h2:call Tryd.prog pol1 44 [.pt (reC r),.rf 2 1 0 0,.rf 3 1 0 0,.rf 5 1 0 0,.rf 4 1 0 0] [.row 1 [.ms 1 5 0 0 0] 0,.row 5 [] 0,.row 1 [.clo 40 [.rf 0 1 0 0]] 0,.row 1 [.clo 44 [.rf 2 1 0 0,.rf 3 1 0 0,.rf 5 1 0 0,.rf 4 1 0 0]] 0,
  .row 1 [.clo 41 [.rf 3 1 0 0,.rf 2 1 0 0,.rf 0 1 0 0]] 0,.row 1 [.clo 43 [.rf 2 1 0 0,.rf 3 1 0 0,.rf 0 1 0 0]] 0]=some (.tup [],cS [] B L):=h111
 simp +contextual (disch:=omega) only[Tryd.f23,dd23,go_sem,simprocAttr,mu23,↓zAE,↓zAC,↓zAB,↓zAA,h2]
 exact zLF rfl rfl rfl hlen rfl (fun j=>zGR _)
end
end Go.Ev
