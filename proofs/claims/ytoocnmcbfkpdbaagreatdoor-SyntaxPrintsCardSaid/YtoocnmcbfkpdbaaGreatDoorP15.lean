/- What functions of the program compute; no further conditions. -/
import Derived.Test.YtoocnmcbfkpdbaaGreatDoorP14
set_option linter.unusedVariables false
set_option linter.unusedSimpArgs false
open List (append_assoc append_nil getElem?_eq_getElem length_append length_cons length_nil map_append map_cons map_nil map_set map_take mem_append mem_cons mem_of_getElem? take_add_one take_length take_succ_cons)
open Go.Proofs Go.RowKit Go.IntWalk
set_option maxHeartbeats 8000000
set_option maxRecDepth 100000
namespace Go.Ev
attribute [local go_sem] evBin AV.cells BA BG bndO bnd evEq eqCells not_false_eq_true not_true_eq_false Ak Array.size_empty length_append tySzE List.head?_drop Nat.mul_one Al Az Ae Am An Go.IntWalk.i64_quo Go.IntWalk.rem_in Ap
section
attribute [local go_sem] evAppend map_append
theorem p97 (n:Int) (H:List MB):call Pg pol1 97 [I n] H=some (T (assertT n),H):=by
 refine AQ Tryz.func97 rfl rfl rfl rfl rfl rfl (fun _=>rfl) rfl rfl ?_ H;unfold assertT;simp +contextual -implicitDefEqProofs (disch:=omega) only[Tryz.f97,dd97,go_sem,simprocAttr,mu97,↓AD,↓AC,↓AB,↓AA];repeat' (first|apply And.intro|intro _)
 all_goals first|(unfold dOk;kernel_rfl)|exact⟨_,rfl⟩
theorem p96 (op:Int) (set:List (Int×Int)) (kids:List Re) (mn mx md n:Int) (neg:Bool) (ho:op=7∨op=8) (H:List MB) :
  call Pg pol1 96 [.pt (nodeL op set kids mn mx md n neg)] H=some (T ((if op=8 then [40,63,60] else [40,63])++if neg=true then [33] else [61]),H):=by
 refine AQ Tryz.func96 rfl rfl rfl rfl rfl rfl (fun _=>rfl) (by simp[AV.plain,AV.plainL,AE,AK]) rfl ?_ H;rcases ho with rfl|rfl
 all_goals
  cases neg
  all_goals
   simp +contextual -implicitDefEqProofs (disch:=omega) only[Tryz.f96,dd96,go_sem,simprocAttr,mu96,↓AD,↓AC,↓AB,↓AA,evStrOp,AN,sapp,kS1,kS2,kS3,kS4,kS5,kS6,kS7,kS8,kS9,kS10,kS11,kS12,kS13,kS14,kS15,kS16,kS17,kS18,kS19,kS20,kS21,kS22,kS23,kS24,kS25,kS26,kS27,kS28,kS29,kS30,kS31,kS32,kS33,kS34,kS35,kS36,kS37,kS38]
   first|exact⟨_,rfl⟩
theorem p94 (set:List (Int×Int)) (kids:List Re) (mn mx md n:Int) (neg:Bool) (hr:repG mn mx md=true) (H:List MB) :
  call Pg pol1 94 [.pt (nodeL 4 set kids mn mx md n neg)] H=some (T (quantT mn mx md),H):=by
 refine AQ Tryz.func94 rfl rfl rfl rfl rfl rfl (fun _=>rfl) (by simp[AV.plain,AV.plainL,AE,AK]) rfl ?_ H;unfold repG at hr;simp at hr;have h47a:=p40 mn (by omega);have hla:=A4 10 mn;have hlb:=A4 10 mx;have hmd:md=0∨md=1∨md=2:=by omega
 by_cases hx:mx = -1
 ·subst hx;have hne:¬ (-1=mn):=by omega
  unfold quantT;generalize digI 10 mn=A at *;rcases hmd with rfl|rfl|rfl
  all_goals
   simp +contextual -implicitDefEqProofs (disch:=omega) only[Tryz.f94,dd94,go_sem,simprocAttr,mu94,↓AD,↓AC,↓AB,↓AA,h47a,evStrOp,AN,sapp,kS1,kS2,kS3,kS4,kS5,kS6,kS7,kS8,kS9,kS10,kS11,kS12,kS13,kS14,kS15,kS16,kS17,kS18,kS19,kS20,kS21,kS22,kS23,kS24,kS25,kS26,kS27,kS28,kS29,kS30,kS31,kS32,kS33,kS34,kS35,kS36,kS37,kS38];repeat' (first|apply And.intro|intro _)
   all_goals
    first
     | (unfold dOk;kernel_rfl)
     | (refine FV ?_
        first
         | (simp[*];done)
         | (repeat' split
            all_goals
             first
              | (exfalso;omega)
              | (simp;done)
              | (simp[*];done)))
 ·have h47b:=p40 mx (by omega);unfold quantT;generalize hA:digI 10 mn=A at *;generalize hB:digI 10 mx=B at *;have hmn:mn=0∨mn=1∨(mn≠0/\mn≠1):=by omega
  have hmx:mx=1∨mx≠1:=by omega
  rcases hmn with rfl|rfl|⟨hn0,hn1⟩
  all_goals
   rcases hmx with rfl|hm1
   all_goals
    (try rw[hA]at hB)
    (try subst hB)
    simp +contextual -implicitDefEqProofs (disch:=omega) only[Tryz.f94,dd94,go_sem,simprocAttr,mu94,↓AD,↓AC,↓AB,↓AA,h47a,h47b,evStrOp,AN,sapp,kS1,kS2,kS3,kS4,kS5,kS6,kS7,kS8,kS9,kS10,kS11,kS12,kS13,kS14,kS15,kS16,kS17,kS18,kS19,kS20,kS21,kS22,kS23,kS24,kS25,kS26,kS27,kS28,kS29,kS30,kS31,kS32,kS33,kS34,kS35,kS36,kS37,kS38];repeat' (first|apply And.intro|intro _)
    all_goals
     first
      | (unfold dOk;kernel_rfl)
      | (refine FV ?_
         first
          | (simp[*];done)
          | (repeat' split
             all_goals
              first
               | (exfalso;omega)
               | (simp;done)
               | (simp[*];done)))
theorem Jf {l:List Int}{v:Int} (h:v∈l):∃ i:Nat,l[i]?=some v/\∀ k,k<i->l[k]?≠some v:=by
 induction l with
 | nil=>cases h
 | cons a l ih=>
   by_cases e:a=v
   ·exact⟨0,by simp[e],fun k hk=>by omega⟩
   ·obtain⟨i,h1,h2⟩:=ih (by
     rcases mem_cons.1 h with h|h
     ·exact absurd h.symm e
     ·exact h)
    refine⟨i+1,by simpa using h1,fun k hk=>?_⟩;cases k with
    | zero=>simp[e]
    | succ k=>simpa using h2 k (by omega)
theorem p87 (l:List Int) (v:Int) (hl:l.length<=1000000) (H:List MB):∃ r:Int,(0<=r↔v∈l)/\∀ H,call Pg pol1 87 [.sl false (l.map I),I v] H=some (I r,H):=by
 have hr:∃ r:Int,(0<=r/\∃ i:Nat,r=i/\l[i]?=some v/\∀ k,k<i->l[k]?≠some v)∨(r = -1/\v ∉ l):=by
  by_cases h:v∈l
  ·obtain⟨i,h1,h2⟩:=Jf h;exact⟨(i:Nat),.inl ⟨by omega,i,rfl,h1,h2⟩⟩
  ·exact⟨-1,.inr ⟨rfl,h⟩⟩
 obtain⟨r,hr⟩:=hr;refine⟨r,?_,fun H=>?_⟩
 ·rcases hr with ⟨h0,i,rfl,h1,_⟩|⟨rfl,h⟩
  ·exact⟨fun _=>mem_of_getElem? h1,fun _=>h0⟩
  ·exact⟨fun h=>absurd h (by omega),fun h2=>absurd h2 h⟩
 refine AQ Tryz.func87 rfl rfl rfl rfl rfl rfl (fun _=>rfl) (by simp[AV.plain,AV.plainL,AF]) rfl ?_ H;simp +contextual -implicitDefEqProofs (disch:=omega) only[Tryz.f87,dd87,go_sem,simprocAttr,mu87,↓AD,↓AC,↓AB,↓AA];refine Af (M:=(mskOf (pol1.mask 87) (pol1.gc 87) (pol1.acts 87) 0 2)) rfl l.length (fun i=>(⟨19,[(8,I i),(7,I l.length),(1,I v),(0,.sl false (l.map I))],[]⟩:St)) (fun i=>∀ k,k<i->l[k]?≠some v) ?_ ?_ (fun k h=>by omega) _ (by first|rfl|(simp[keepT,AV.underL,AV.under,MB.under,AG,AJ,AH,AF,AE,AL,AM,-map_take,-List.map_replicate,-map_set];done))
 ·intro i hi hg;obtain⟨x,hx⟩:∃ x,l[i]?=some x:=⟨_,getElem?_eq_getElem hi⟩;have hlt:(i:Int)<(l.length:Int):=by omega
  by_cases e:v=x
  ·subst e;have hri:r=i:=by
    rcases hr with ⟨h0,j,rfl,h1,h2⟩|⟨rfl,h⟩
    ·have:¬ j<i:=fun h=>hg j h h1;have:¬ i<j:=fun h=>h2 i h hx;omega
    ·exact absurd (mem_of_getElem? hx) h
   subst hri;simp +contextual -implicitDefEqProofs (disch:=omega) only[Tryz.f87,dd87,go_sem,simprocAttr,mu87,↓AD,↓AC,↓AB,↓AA,hx,hlt];exact⟨_,rfl⟩
  ·simp +contextual -implicitDefEqProofs (disch:=omega) only[Tryz.f87,dd87,go_sem,simprocAttr,mu87,↓AD,↓AC,↓AB,↓AA,hx,hlt,e];refine⟨fun k hk e2=>?_,(by first|rfl|(simp[keepT,AV.underL,AV.under,MB.under,AG,AJ,AH,AF,AE,AL,AM,-map_take,-List.map_replicate,-map_set];done))⟩;by_cases h3:k=i
   ·subst h3;rw[hx]at e2;exact e (Option.some.inj e2).symm
   ·exact hg k (by omega) e2
 ·intro hg;have hr1:r = -1:=by
   rcases hr with ⟨h0,j,rfl,h1,h2⟩|⟨rfl,h⟩
   ·exact absurd h1 (hg j (List.getElem?_eq_some_iff.1 h1).1)
   ·rfl
  subst hr1;simp +contextual -implicitDefEqProofs (disch:=omega) only[Tryz.f87,dd87,go_sem,simprocAttr,mu87,↓AD,↓AC,↓AB,↓AA];exact⟨_,rfl⟩
theorem p37 (l:List Int) (v:Int) (hl:l.length<=1000000) (H:List MB):call Pg pol1 37 [.sl false (l.map I),I v] H=some (.bool (decide (v∈l)),H):=by
 refine AQ Tryz.func37 rfl rfl rfl rfl rfl rfl (fun _=>rfl) (by simp[AV.plain,AV.plainL,AF]) rfl ?_ H;obtain⟨r,hr,h87⟩:=p87 l v hl [];by_cases h:v∈l
 ·have h0:=hr.2 h;rw[decide_eq_true h];simp +contextual -implicitDefEqProofs (disch:=omega) only[Tryz.f37,dd37,go_sem,simprocAttr,mu37,↓AD,↓AC,↓AB,↓AA,h87];exact⟨_,rfl⟩
 ·have h0:¬ 0<=r:=fun h1=>h (hr.1 h1);rw[decide_eq_false h];simp +contextual -implicitDefEqProofs (disch:=omega) only[Tryz.f37,dd37,go_sem,simprocAttr,mu37,↓AD,↓AC,↓AB,↓AA,h87];exact⟨_,rfl⟩
end
section
attribute [local go_sem] evAppend map_append
theorem Fj {l:List Re}{i:Nat}{k:Re} (h:l[i]?=some k):catT (l.take (i+1))=catT (l.take i)++grpT (opIn [0,2,3] k) (treeT k):=by
 induction l generalizing i with
 | nil=>simp at h
 | cons a l ih=>
   cases i with
   | zero=>simp at h;subst h;simp[catT]
   | succ i=>simp only[take_succ_cons,catT];rw[ih (by simpa using h)];simp
theorem Ii {l:List Re}{i:Nat}{k:Re} (h:l[i]?=some k):barT (l.take (i+1))=barT (l.take i)++124::grpT (opIn [3] k) (treeT k):=by
 induction l generalizing i with
 | nil=>simp at h
 | cons a l ih=>
   cases i with
   | zero=>simp at h;subst h;simp[barT]
   | succ i=>simp only[take_succ_cons,barT];rw[ih (by simpa using h)];simp
theorem Fo {l:List Re}{i:Nat}{k:Re} (h:l[i]?=some k) (hi:0<i):alsT (l.take (i+1))=alsT (l.take i)++124::grpT (opIn [3] k) (treeT k):=by
 cases l with
 | nil=>simp at h
 | cons a l=>
   cases i with
   | zero=>omega
   | succ i=>simp only[take_succ_cons,alsT];rw[Ii (by simpa using h)];simp
theorem CG {l:List Re}{i:Nat}:Re.wtL (l.take i)<=Re.wtL l:=by
 conv=>rhs;rw[<- List.take_append_drop i l]
 induction (l.take i) with
 | nil=>simp[Re.wtL]
 | cons a b ih=>simp only[List.cons_append,Re.wtL];omega
theorem Hq {l:List (Int×Int)}{top:Int} (ht:top<=1114111) (h:spansG l top=true):SymS l/\l.length<=64:=by
 unfold spansG at h;simp only[Bool.and_eq_true,decide_eq_true_eq,Bool.not_eq_true']at h;refine⟨fun p hp=>?_,h.1⟩;obtain⟨i,hi,e⟩:=List.getElem_of_mem hp;have h2:=List.any_eq_false.1 h.2 i (List.mem_range.2 hi);unfold badS at h2;rw[getElem?_eq_getElem hi,e]at h2;simp only[Bool.or_eq_true,decide_eq_true_eq,not_or]at h2;obtain⟨⟨⟨a,b⟩,c⟩,_⟩:=h2;omega
theorem hd0 (k:Re):hdT [] [k]=treeT k:=by
 rw[hdT];obtain⟨op,set,kids,mn,mx,md,n,neg⟩:=k;rfl
theorem t19 {caps top:Int} (hcp:caps<=4000000000) (htp:top<=1114111):∀(N:Nat) (r:Re),r.wt<=N->r.wt<=1000000->wholeG caps top r=true->∀ H,call Pg pol1 19 [reAV r] H=some (T (treeT r),H)
 | 0,r,h,_,_=>by have:=r.wt_pos;omega
 | N+1,.mk op set kids mn mx md n neg,h,hN,hg=>by
   intro H;have hwt:1+set.length+Re.wtL kids=(Re.mk op set kids mn mx md n neg).wt:=by simp[Re.wt]
   rw[wholeG,Bool.and_eq_true,CN]at hg;obtain⟨hf,hkw⟩:=hg;have told:∀ k∈kids,Told k:=fun k hk=>by
    have h1:=Re.wtL_mem hk;have h2:=BQ k;exact⟨by omega,t19 hcp htp N k (by omega) (by omega) (hkw k hk)⟩
   have hkl:=Re.wtL_len kids;unfold formedG at hf;simp only[Bool.and_eq_true,decide_eq_true_eq]at hf;obtain⟨⟨⟨⟨⟨⟨f1,f2⟩,f3⟩,f4⟩,f5⟩,f6⟩,f7⟩:=hf;have hcase:op=0∨op=1∨op=2∨op=3∨op=4∨op=5∨op=6∨op=7∨op=8∨op=9∨op=10∨op=11:=by omega
   have hw:reAV (.mk op set kids mn mx md n neg)=.agg (nodeL op set kids mn mx md n neg):=congrArg AV.agg Ag;rw[hw];refine AQ Tryz.func19 rfl rfl rfl rfl rfl rfl (fun _=>rfl) (by simp[AV.plain,AV.plainL,AE,AK]) rfl ?_ H;rcases hcase with rfl|rfl|rfl|rfl|rfl|rfl|rfl|rfl|rfl|rfl|rfl|rfl
   ·cases neg
    all_goals
     simp +contextual -implicitDefEqProofs (disch:=omega) only[Tryz.f19,dd19,go_sem,simprocAttr,mu19,↓AD,↓AC,↓AB,↓AA,evStrOp,AN,sapp,kS1,kS2,kS3,kS4,kS5,kS6,kS7,kS8,kS9,kS10,kS11,kS12,kS13,kS14,kS15,kS16,kS17,kS18,kS19,kS20,kS21,kS22,kS23,kS24,kS25,kS26,kS27,kS28,kS29,kS30,kS31,kS32,kS33,kS34,kS35,kS36,kS37,kS38];repeat' (first|intro _|apply And.intro|(unfold dOk;kernel_rfl)|exact St.beq_refl _|exact AI|(show altO _ _ _ _=true;kernel_rfl)|(show (_||_)=true;kernel_rfl)|(show (_&&_)=true;kernel_rfl))
     exact⟨_,rfl⟩
   ·obtain⟨hs1,hs2⟩:=Hq htp (by simpa using f4);have h55:=t55 set hs1 (by omega);cases neg
    all_goals
     simp +contextual -implicitDefEqProofs (disch:=omega) only[Tryz.f19,dd19,go_sem,simprocAttr,mu19,↓AD,↓AC,↓AB,↓AA,h55,evStrOp,AN,sapp,kS1,kS2,kS3,kS4,kS5,kS6,kS7,kS8,kS9,kS10,kS11,kS12,kS13,kS14,kS15,kS16,kS17,kS18,kS19,kS20,kS21,kS22,kS23,kS24,kS25,kS26,kS27,kS28,kS29,kS30,kS31,kS32,kS33,kS34,kS35,kS36,kS37,kS38];repeat' (first|intro _|apply And.intro|(unfold dOk;kernel_rfl)|exact St.beq_refl _|exact AI|(show altO _ _ _ _=true;kernel_rfl)|(show (_||_)=true;kernel_rfl)|(show (_&&_)=true;kernel_rfl))
     exact⟨_,rfl⟩
   ·have hct:=Cj kids;have hcl:∀ i,(catT (kids.take i)).length<=300*Re.wtL kids:=fun i=>by
     have:=Cj (kids.take i);have:=CG (l:=kids) (i:=i);omega
    have hstp:∀ i k,kids[i]?=some k->catT (kids.take (i+1))=catT (kids.take i)++grpT (opIn [0,2,3] k) (treeT k):=fun i k h=>Fj h;have hen:treeT (.mk 2 set kids mn mx md n neg)=catT (kids.take kids.length):=by rw[take_length];rfl
    have hze:catT (kids.take 0)=[]:=by rw[List.take_zero];rfl
    rw[hen];clear hen;cases neg
    ·simp +contextual -implicitDefEqProofs (disch:=omega) only[Tryz.f19,dd19,go_sem,simprocAttr,mu19,↓AD,↓AC,↓AB,↓AA,evStrOp,AN,sapp,kS1,kS2,kS3,kS4,kS5,kS6,kS7,kS8,kS9,kS10,kS11,kS12,kS13,kS14,kS15,kS16,kS17,kS18,kS19,kS20,kS21,kS22,kS23,kS24,kS25,kS26,kS27,kS28,kS29,kS30,kS31,kS32,kS33,kS34,kS35,kS36,kS37,kS38];refine Af (M:=(mskOf (pol1.mask 19) (pol1.gc 19) (pol1.acts 19) 0 10)) rfl kids.length (fun i=>(⟨142,[(5,I i),(4,T (catT (kids.take i))),(1,.pt (nodeL 2 set kids mn mx md n false))],[]⟩:St)) (fun _=>True) ?_ ?_ trivial _ (by rw[hze];rfl)
     ·intro i hi _;obtain⟨k,hk⟩:∃ k,kids[i]?=some k:=⟨_,getElem?_eq_getElem hi⟩;have hkm:=mem_of_getElem? hk;have h56:=t56 k (told k hkm);have hl8:=AO k;have ht8:=AP k;have hki:=hcl i;have hgl:=BI (opIn [0,2,3] k) (treeT k);have htl:=(told k hkm).1;rw[hstp i k hk];generalize catT (kids.take i)=X at *;generalize grpT (opIn [0,2,3] k) (treeT k)=Y at *;simp +contextual -implicitDefEqProofs (disch:=omega) only[Tryz.f19,dd19,go_sem,simprocAttr,mu19,↓AD,↓AC,↓AB,↓AA,hk,hl8,ht8,h56,evStrOp,AN,sapp,kS1,kS2,kS3,kS4,kS5,kS6,kS7,kS8,kS9,kS10,kS11,kS12,kS13,kS14,kS15,kS16,kS17,kS18,kS19,kS20,kS21,kS22,kS23,kS24,kS25,kS26,kS27,kS28,kS29,kS30,kS31,kS32,kS33,kS34,kS35,kS36,kS37,kS38];rfl
     ·intro _;generalize catT (kids.take kids.length)=X at *;simp +contextual -implicitDefEqProofs (disch:=omega) only[Tryz.f19,dd19,go_sem,simprocAttr,mu19,↓AD,↓AC,↓AB,↓AA,evStrOp,AN,sapp,kS1,kS2,kS3,kS4,kS5,kS6,kS7,kS8,kS9,kS10,kS11,kS12,kS13,kS14,kS15,kS16,kS17,kS18,kS19,kS20,kS21,kS22,kS23,kS24,kS25,kS26,kS27,kS28,kS29,kS30,kS31,kS32,kS33,kS34,kS35,kS36,kS37,kS38];repeat' (first|intro _|apply And.intro|(unfold dOk;kernel_rfl)|exact St.beq_refl _|exact AI|(show altO _ _ _ _=true;kernel_rfl)|(show (_||_)=true;kernel_rfl)|(show (_&&_)=true;kernel_rfl))
      exact⟨_,rfl⟩
    ·simp +contextual -implicitDefEqProofs (disch:=omega) only[Tryz.f19,dd19,go_sem,simprocAttr,mu19,↓AD,↓AC,↓AB,↓AA,evStrOp,AN,sapp,kS1,kS2,kS3,kS4,kS5,kS6,kS7,kS8,kS9,kS10,kS11,kS12,kS13,kS14,kS15,kS16,kS17,kS18,kS19,kS20,kS21,kS22,kS23,kS24,kS25,kS26,kS27,kS28,kS29,kS30,kS31,kS32,kS33,kS34,kS35,kS36,kS37,kS38];refine Af (M:=(mskOf (pol1.mask 19) (pol1.gc 19) (pol1.acts 19) 0 10)) rfl kids.length (fun i=>(⟨142,[(5,I i),(4,T (catT (kids.take i))),(1,.pt (nodeL 2 set kids mn mx md n true))],[]⟩:St)) (fun _=>True) ?_ ?_ trivial _ (by rw[hze];rfl)
     ·intro i hi _;obtain⟨k,hk⟩:∃ k,kids[i]?=some k:=⟨_,getElem?_eq_getElem hi⟩;have hkm:=mem_of_getElem? hk;have h56:=t56 k (told k hkm);have hl8:=AO k;have ht8:=AP k;have hki:=hcl i;have hgl:=BI (opIn [0,2,3] k) (treeT k);have htl:=(told k hkm).1;rw[hstp i k hk];generalize catT (kids.take i)=X at *;generalize grpT (opIn [0,2,3] k) (treeT k)=Y at *;simp +contextual -implicitDefEqProofs (disch:=omega) only[Tryz.f19,dd19,go_sem,simprocAttr,mu19,↓AD,↓AC,↓AB,↓AA,hk,hl8,ht8,h56,evStrOp,AN,sapp,kS1,kS2,kS3,kS4,kS5,kS6,kS7,kS8,kS9,kS10,kS11,kS12,kS13,kS14,kS15,kS16,kS17,kS18,kS19,kS20,kS21,kS22,kS23,kS24,kS25,kS26,kS27,kS28,kS29,kS30,kS31,kS32,kS33,kS34,kS35,kS36,kS37,kS38];rfl
     ·intro _;generalize catT (kids.take kids.length)=X at *;simp +contextual -implicitDefEqProofs (disch:=omega) only[Tryz.f19,dd19,go_sem,simprocAttr,mu19,↓AD,↓AC,↓AB,↓AA,evStrOp,AN,sapp,kS1,kS2,kS3,kS4,kS5,kS6,kS7,kS8,kS9,kS10,kS11,kS12,kS13,kS14,kS15,kS16,kS17,kS18,kS19,kS20,kS21,kS22,kS23,kS24,kS25,kS26,kS27,kS28,kS29,kS30,kS31,kS32,kS33,kS34,kS35,kS36,kS37,kS38];repeat' (first|intro _|apply And.intro|(unfold dOk;kernel_rfl)|exact St.beq_refl _|exact AI|(show altO _ _ _ _=true;kernel_rfl)|(show (_||_)=true;kernel_rfl)|(show (_&&_)=true;kernel_rfl))
      exact⟨_,rfl⟩
   ·simp[kidsG]at f3;have hcl:∀ i,(alsT (kids.take i)).length<=300*Re.wtL kids:=fun i=>by
     have:=E0 (kids.take i);have:=CG (l:=kids) (i:=i);omega
    have hstp:∀ i k,kids[i+1]?=some k->alsT (kids.take (i+1+1))=alsT (kids.take (i+1))++124::grpT (opIn [3] k) (treeT k):=fun i k h=>Fo h (by omega);have hen:treeT (.mk 3 set kids mn mx md n neg)=alsT (kids.take (kids.length-1+1)):=by rw[show kids.length-1+1=kids.length by omega,take_length];rfl
    obtain⟨k0,hk0⟩:∃ k0,kids[0]?=some k0:=⟨_,getElem?_eq_getElem (by omega)⟩;have hze:alsT (kids.take (0+1))=grpT (opIn [3] k0) (treeT k0):=by
     cases kids with
     | nil=>simp at hk0
     | cons a l=>simp at hk0;subst hk0;simp[alsT,barT]
    rw[hen];clear hen;have h57:=t57 k0 (told k0 (mem_of_getElem? hk0));have hl8:=AO k0;have ht8:=AP k0;have hN:∃ N,kids.length=N+1:=⟨kids.length-1,by omega⟩;obtain⟨N,hN⟩:=hN;have hN1:kids.length-1=N:=by omega
    rw[hN1];rw[<- hze]at h57;clear hze;cases neg
    ·simp +contextual -implicitDefEqProofs (disch:=omega) only[Tryz.f19,dd19,go_sem,simprocAttr,mu19,↓AD,↓AC,↓AB,↓AA,hk0,hl8,ht8,h57,evStrOp,AN,sapp,kS1,kS2,kS3,kS4,kS5,kS6,kS7,kS8,kS9,kS10,kS11,kS12,kS13,kS14,kS15,kS16,kS17,kS18,kS19,kS20,kS21,kS22,kS23,kS24,kS25,kS26,kS27,kS28,kS29,kS30,kS31,kS32,kS33,kS34,kS35,kS36,kS37,kS38];refine Af (M:=(mskOf (pol1.mask 19) (pol1.gc 19) (pol1.acts 19) 0 17)) rfl N (fun i=>(⟨142,[(7,I ((i+1:Nat):Int)),(6,T (alsT (kids.take (i+1)))),(1,.pt (nodeL 3 set kids mn mx md n false))],[]⟩:St)) (fun _=>True) ?_ ?_ trivial _ (by rfl)
     ·intro i hi _;obtain⟨k,hk⟩:∃ k,kids[i+1]?=some k:=⟨_,getElem?_eq_getElem (by omega)⟩;have hkm:=mem_of_getElem? hk;have h57:=t57 k (told k hkm);have hl8:=AO k;have ht8:=AP k;have hki:=hcl (i+1);have hgl:=BI (opIn [3] k) (treeT k);have htl:=(told k hkm).1;have hlt:(((i+1:Nat):Int))<(kids.length:Int):=by omega
      rw[hstp i k hk];generalize alsT (kids.take (i+1))=X at *;generalize grpT (opIn [3] k) (treeT k)=Y at *;simp +contextual -implicitDefEqProofs (disch:=omega) only[Tryz.f19,dd19,go_sem,simprocAttr,mu19,↓AD,↓AC,↓AB,↓AA,hk,hl8,ht8,h57,hlt,evStrOp,AN,sapp,kS1,kS2,kS3,kS4,kS5,kS6,kS7,kS8,kS9,kS10,kS11,kS12,kS13,kS14,kS15,kS16,kS17,kS18,kS19,kS20,kS21,kS22,kS23,kS24,kS25,kS26,kS27,kS28,kS29,kS30,kS31,kS32,kS33,kS34,kS35,kS36,kS37,kS38];rw[show X++124::Y=X++[124]++Y by simp];rfl
     ·intro _;have hlt:¬ (((N+1:Nat):Int))<(kids.length:Int):=by omega
      generalize alsT (kids.take (N+1))=X at *;simp +contextual -implicitDefEqProofs (disch:=omega) only[Tryz.f19,dd19,go_sem,simprocAttr,mu19,↓AD,↓AC,↓AB,↓AA,hlt,evStrOp,AN,sapp,kS1,kS2,kS3,kS4,kS5,kS6,kS7,kS8,kS9,kS10,kS11,kS12,kS13,kS14,kS15,kS16,kS17,kS18,kS19,kS20,kS21,kS22,kS23,kS24,kS25,kS26,kS27,kS28,kS29,kS30,kS31,kS32,kS33,kS34,kS35,kS36,kS37,kS38];repeat' (first|intro _|apply And.intro|(unfold dOk;kernel_rfl)|exact St.beq_refl _|exact AI|(show altO _ _ _ _=true;kernel_rfl)|(show (_||_)=true;kernel_rfl)|(show (_&&_)=true;kernel_rfl))
      exact⟨_,rfl⟩
    ·simp +contextual -implicitDefEqProofs (disch:=omega) only[Tryz.f19,dd19,go_sem,simprocAttr,mu19,↓AD,↓AC,↓AB,↓AA,hk0,hl8,ht8,h57,evStrOp,AN,sapp,kS1,kS2,kS3,kS4,kS5,kS6,kS7,kS8,kS9,kS10,kS11,kS12,kS13,kS14,kS15,kS16,kS17,kS18,kS19,kS20,kS21,kS22,kS23,kS24,kS25,kS26,kS27,kS28,kS29,kS30,kS31,kS32,kS33,kS34,kS35,kS36,kS37,kS38];refine Af (M:=(mskOf (pol1.mask 19) (pol1.gc 19) (pol1.acts 19) 0 17)) rfl N (fun i=>(⟨142,[(7,I ((i+1:Nat):Int)),(6,T (alsT (kids.take (i+1)))),(1,.pt (nodeL 3 set kids mn mx md n true))],[]⟩:St)) (fun _=>True) ?_ ?_ trivial _ (by rfl)
     ·intro i hi _;obtain⟨k,hk⟩:∃ k,kids[i+1]?=some k:=⟨_,getElem?_eq_getElem (by omega)⟩;have hkm:=mem_of_getElem? hk;have h57:=t57 k (told k hkm);have hl8:=AO k;have ht8:=AP k;have hki:=hcl (i+1);have hgl:=BI (opIn [3] k) (treeT k);have htl:=(told k hkm).1;have hlt:(((i+1:Nat):Int))<(kids.length:Int):=by omega
      rw[hstp i k hk];generalize alsT (kids.take (i+1))=X at *;generalize grpT (opIn [3] k) (treeT k)=Y at *;simp +contextual -implicitDefEqProofs (disch:=omega) only[Tryz.f19,dd19,go_sem,simprocAttr,mu19,↓AD,↓AC,↓AB,↓AA,hk,hl8,ht8,h57,hlt,evStrOp,AN,sapp,kS1,kS2,kS3,kS4,kS5,kS6,kS7,kS8,kS9,kS10,kS11,kS12,kS13,kS14,kS15,kS16,kS17,kS18,kS19,kS20,kS21,kS22,kS23,kS24,kS25,kS26,kS27,kS28,kS29,kS30,kS31,kS32,kS33,kS34,kS35,kS36,kS37,kS38];rw[show X++124::Y=X++[124]++Y by simp];rfl
     ·intro _;have hlt:¬ (((N+1:Nat):Int))<(kids.length:Int):=by omega
      generalize alsT (kids.take (N+1))=X at *;simp +contextual -implicitDefEqProofs (disch:=omega) only[Tryz.f19,dd19,go_sem,simprocAttr,mu19,↓AD,↓AC,↓AB,↓AA,hlt,evStrOp,AN,sapp,kS1,kS2,kS3,kS4,kS5,kS6,kS7,kS8,kS9,kS10,kS11,kS12,kS13,kS14,kS15,kS16,kS17,kS18,kS19,kS20,kS21,kS22,kS23,kS24,kS25,kS26,kS27,kS28,kS29,kS30,kS31,kS32,kS33,kS34,kS35,kS36,kS37,kS38];repeat' (first|intro _|apply And.intro|(unfold dOk;kernel_rfl)|exact St.beq_refl _|exact AI|(show altO _ _ _ _=true;kernel_rfl)|(show (_||_)=true;kernel_rfl)|(show (_&&_)=true;kernel_rfl))
      exact⟨_,rfl⟩
   ·obtain⟨k,rfl⟩:∃ k,kids=[k]:=List.length_eq_one_iff.1 (by simpa [kidsG] using f3);have hrp:repG mn mx md=true:=by simpa using f5
    have h58:∀ neg H,call Pg pol1 58 [.agg [I 4,.sl false (set.map spanAV),.sl false [reAV k],I mn,I mx,I md,I n,.bool neg]] H=some (T (hdT [0,2,3,4] [k]++quantT mn mx md),H):=fun neg H=>by
     have:=t58 set k mn mx md n neg (told k (by simp)) hrp H
     rwa [show reAV (.mk 4 set [k] mn mx md n neg)=.agg (nodeL 4 set [k] mn mx md n neg) from congrArg AV.agg Ag]at this
    have hen:treeT (.mk 4 set [k] mn mx md n neg)=hdT [0,2,3,4] [k]++quantT mn mx md:=rfl;rw[hen];cases neg
    all_goals
     simp +contextual -implicitDefEqProofs (disch:=omega) only[Tryz.f19,dd19,go_sem,simprocAttr,mu19,↓AD,↓AC,↓AB,↓AA,h58,evStrOp,AN,sapp,kS1,kS2,kS3,kS4,kS5,kS6,kS7,kS8,kS9,kS10,kS11,kS12,kS13,kS14,kS15,kS16,kS17,kS18,kS19,kS20,kS21,kS22,kS23,kS24,kS25,kS26,kS27,kS28,kS29,kS30,kS31,kS32,kS33,kS34,kS35,kS36,kS37,kS38];repeat' (first|intro _|apply And.intro|(unfold dOk;kernel_rfl)|exact St.beq_refl _|exact AI|(show altO _ _ _ _=true;kernel_rfl)|(show (_||_)=true;kernel_rfl)|(show (_&&_)=true;kernel_rfl))
     exact⟨_,rfl⟩
   ·obtain⟨k,rfl⟩:∃ k,kids=[k]:=List.length_eq_one_iff.1 (by simpa [kidsG] using f3);have hn:1<=n/\n<=caps:=by simpa using f6
    have h47:=t47i n (by omega);obtain⟨htl,h19⟩:=told k (by simp);have hl8:=AO k;have ht8:=AP k;have hen:treeT (.mk 5 set [k] mn mx md n neg)=[40,63,60]++digI 10 n++[62]++treeT k++[41]:=by rw[<- hd0 k];rfl
    have hdl:=A4 10 n;rw[hen];generalize digI 10 n=D at *;generalize treeT k=X at *;cases neg
    all_goals
     simp +contextual -implicitDefEqProofs (disch:=omega) only[Tryz.f19,dd19,go_sem,simprocAttr,mu19,↓AD,↓AC,↓AB,↓AA,h47,h19,hl8,ht8,evStrOp,AN,sapp,kS1,kS2,kS3,kS4,kS5,kS6,kS7,kS8,kS9,kS10,kS11,kS12,kS13,kS14,kS15,kS16,kS17,kS18,kS19,kS20,kS21,kS22,kS23,kS24,kS25,kS26,kS27,kS28,kS29,kS30,kS31,kS32,kS33,kS34,kS35,kS36,kS37,kS38];repeat' (first|intro _|apply And.intro|(unfold dOk;kernel_rfl)|exact St.beq_refl _|exact AI|(show altO _ _ _ _=true;kernel_rfl)|(show (_||_)=true;kernel_rfl)|(show (_&&_)=true;kernel_rfl))
     exact⟨_,rfl⟩
   ·have hn:1<=n/\n<=caps:=by simpa using f6
    have h47:=t47i n (by omega);have hdl:=A4 10 n;have hen:treeT (.mk 6 set kids mn mx md n neg)=92::digI 10 n:=rfl;rw[hen];generalize digI 10 n=D at *;cases neg
    all_goals
     simp +contextual -implicitDefEqProofs (disch:=omega) only[Tryz.f19,dd19,go_sem,simprocAttr,mu19,↓AD,↓AC,↓AB,↓AA,h47,evStrOp,AN,sapp,kS1,kS2,kS3,kS4,kS5,kS6,kS7,kS8,kS9,kS10,kS11,kS12,kS13,kS14,kS15,kS16,kS17,kS18,kS19,kS20,kS21,kS22,kS23,kS24,kS25,kS26,kS27,kS28,kS29,kS30,kS31,kS32,kS33,kS34,kS35,kS36,kS37,kS38];repeat' (first|intro _|apply And.intro|(unfold dOk;kernel_rfl)|exact St.beq_refl _|exact AI|(show altO _ _ _ _=true;kernel_rfl)|(show (_||_)=true;kernel_rfl)|(show (_&&_)=true;kernel_rfl))
     exact⟨_,rfl⟩
   ·obtain⟨k,rfl⟩:∃ k,kids=[k]:=List.length_eq_one_iff.1 (by simpa [kidsG] using f3);obtain⟨htl,h19⟩:=told k (by simp);have hl8:=AO k;have ht8:=AP k;have hen:treeT (.mk 7 set [k] mn mx md n neg)=[40,63]++(if neg=true then [33] else [61])++treeT k++[41]:=by rw[<- hd0 k];rfl
    rw[hen];generalize treeT k=X at *;cases neg
    all_goals
     simp +contextual -implicitDefEqProofs (disch:=omega) only[Tryz.f19,dd19,go_sem,simprocAttr,mu19,↓AD,↓AC,↓AB,↓AA,h19,hl8,ht8,evStrOp,AN,sapp,kS1,kS2,kS3,kS4,kS5,kS6,kS7,kS8,kS9,kS10,kS11,kS12,kS13,kS14,kS15,kS16,kS17,kS18,kS19,kS20,kS21,kS22,kS23,kS24,kS25,kS26,kS27,kS28,kS29,kS30,kS31,kS32,kS33,kS34,kS35,kS36,kS37,kS38];repeat' (first|intro _|apply And.intro|(unfold dOk;kernel_rfl)|exact St.beq_refl _|exact AI|(show altO _ _ _ _=true;kernel_rfl)|(show (_||_)=true;kernel_rfl)|(show (_&&_)=true;kernel_rfl))
     exact⟨_,rfl⟩
   ·obtain⟨k,rfl⟩:∃ k,kids=[k]:=List.length_eq_one_iff.1 (by simpa [kidsG] using f3);obtain⟨htl,h19⟩:=told k (by simp);have hl8:=AO k;have ht8:=AP k;have hen:treeT (.mk 8 set [k] mn mx md n neg)=[40,63,60]++(if neg=true then [33] else [61])++treeT k++[41]:=by rw[<- hd0 k];rfl
    rw[hen];generalize treeT k=X at *;cases neg
    all_goals
     simp +contextual -implicitDefEqProofs (disch:=omega) only[Tryz.f19,dd19,go_sem,simprocAttr,mu19,↓AD,↓AC,↓AB,↓AA,h19,hl8,ht8,evStrOp,AN,sapp,kS1,kS2,kS3,kS4,kS5,kS6,kS7,kS8,kS9,kS10,kS11,kS12,kS13,kS14,kS15,kS16,kS17,kS18,kS19,kS20,kS21,kS22,kS23,kS24,kS25,kS26,kS27,kS28,kS29,kS30,kS31,kS32,kS33,kS34,kS35,kS36,kS37,kS38];repeat' (first|intro _|apply And.intro|(unfold dOk;kernel_rfl)|exact St.beq_refl _|exact AI|(show altO _ _ _ _=true;kernel_rfl)|(show (_||_)=true;kernel_rfl)|(show (_&&_)=true;kernel_rfl))
     exact⟨_,rfl⟩
   ·obtain⟨k,rfl⟩:∃ k,kids=[k]:=List.length_eq_one_iff.1 (by simpa [kidsG] using f3);obtain⟨htl,h19⟩:=told k (by simp);have hl8:=AO k;have ht8:=AP k;have hen:treeT (.mk 9 set [k] mn mx md n neg)=[40,63,62]++treeT k++[41]:=by rw[<- hd0 k];rfl
    rw[hen];generalize treeT k=X at *;cases neg
    all_goals
     simp +contextual -implicitDefEqProofs (disch:=omega) only[Tryz.f19,dd19,go_sem,simprocAttr,mu19,↓AD,↓AC,↓AB,↓AA,h19,hl8,ht8,evStrOp,AN,sapp,kS1,kS2,kS3,kS4,kS5,kS6,kS7,kS8,kS9,kS10,kS11,kS12,kS13,kS14,kS15,kS16,kS17,kS18,kS19,kS20,kS21,kS22,kS23,kS24,kS25,kS26,kS27,kS28,kS29,kS30,kS31,kS32,kS33,kS34,kS35,kS36,kS37,kS38];repeat' (first|intro _|apply And.intro|(unfold dOk;kernel_rfl)|exact St.beq_refl _|exact AI|(show altO _ _ _ _=true;kernel_rfl)|(show (_||_)=true;kernel_rfl)|(show (_&&_)=true;kernel_rfl))
     exact⟨_,rfl⟩
   ·obtain⟨a,b,rfl⟩:∃ a b,kids=[a,b]:=by
     have h2:kids.length=2:=by simpa [kidsG] using f3
     match kids,h2 with
     | [a,b],_=>exact⟨a,b,rfl⟩
    have hn:1<=n/\n<=caps:=by simpa using f6
    have h47:=t47i n (by omega);have hdl:=A4 10 n;have h57a:=t57 a (told a (by simp));have h57b:=t57 b (told b (by simp));have hla:=BI (opIn [3] a) (treeT a);have hlb:=BI (opIn [3] b) (treeT b);have hta:=(told a (by simp)).1;have htb:=(told b (by simp)).1;have hl8a:=AO a;have ht8a:=AP a;have hl8b:=AO b;have ht8b:=AP b;have hen:treeT (.mk 10 set [a,b] mn mx md n neg)=[40,63,40]++digI 10 n++[41]++grpT (opIn [3] a) (treeT a)++[124]++grpT (opIn [3] b) (treeT b)++[41]:=by
     have:treeT (.mk 10 set [a,b] mn mx md n neg)=[40,63,40]++digI 10 n++[41]++alsT [a,b]++[41]:=rfl;rw[this,alsT,barT,barT];simp
    rw[hen];generalize digI 10 n=D at *;generalize grpT (opIn [3] a) (treeT a)=A at *;generalize grpT (opIn [3] b) (treeT b)=B at *;cases neg
    all_goals
     simp +contextual -implicitDefEqProofs (disch:=omega) only[Tryz.f19,dd19,go_sem,simprocAttr,mu19,↓AD,↓AC,↓AB,↓AA,h47,h57a,h57b,hl8a,ht8a,hl8b,ht8b,evStrOp,AN,sapp,kS1,kS2,kS3,kS4,kS5,kS6,kS7,kS8,kS9,kS10,kS11,kS12,kS13,kS14,kS15,kS16,kS17,kS18,kS19,kS20,kS21,kS22,kS23,kS24,kS25,kS26,kS27,kS28,kS29,kS30,kS31,kS32,kS33,kS34,kS35,kS36,kS37,kS38];repeat' (first|intro _|apply And.intro|(unfold dOk;kernel_rfl)|exact St.beq_refl _|exact AI|(show altO _ _ _ _=true;kernel_rfl)|(show (_||_)=true;kernel_rfl)|(show (_&&_)=true;kernel_rfl))
     exact⟨_,rfl⟩
   ·have hn:0<=n/\n<=5:=by simpa using f6
    have hen:treeT (.mk 11 set kids mn mx md n neg)=assertT n:=rfl;rw[hen];have hc:n=0∨n=1∨n=2∨n=3∨n=4∨n=5:=by omega
    rcases hc with rfl|rfl|rfl|rfl|rfl|rfl
    all_goals
     cases neg
     all_goals
      simp +contextual -implicitDefEqProofs (disch:=omega) only[Tryz.f19,dd19,go_sem,simprocAttr,mu19,↓AD,↓AC,↓AB,↓AA,evStrOp,AN,sapp,kS1,kS2,kS3,kS4,kS5,kS6,kS7,kS8,kS9,kS10,kS11,kS12,kS13,kS14,kS15,kS16,kS17,kS18,kS19,kS20,kS21,kS22,kS23,kS24,kS25,kS26,kS27,kS28,kS29,kS30,kS31,kS32,kS33,kS34,kS35,kS36,kS37,kS38];repeat' (first|intro _|apply And.intro|(unfold dOk;kernel_rfl)|exact St.beq_refl _|exact AI|(show altO _ _ _ _=true;kernel_rfl)|(show (_||_)=true;kernel_rfl)|(show (_&&_)=true;kernel_rfl))
      exact⟨_,rfl⟩
end
section
attribute [local go_sem] evAppend map_append
def Wrt (k:Re):Prop:=∀ bs:List Int,bs.length+300*k.wt<=1900000000->call Pg pol1 41 [.rf 0 1 0 0,.pt (reC k)] (PW bs)=some (.tup [],PW (bs++treeT k))
theorem w95 (bs cs:List Int) (k:Re) (hk:Wrt k) (h0:cs≠[]) (hb:Byt cs) (hl:bs.length+cs.length+300*k.wt<=1900000000) :
  call Pg pol1 95 [.rf 0 1 0 0,T cs,.pt (reC k)] (PW bs)=some (.tup [],PW (bs++(cs++treeT k++[41]))):=by
 have fr:frzArgs pol1 95 0 [.rf 0 1 0 0,T cs,.pt (reC k)] (PW bs)=some ([.rf 0 1 0 0,T cs,.pt (reC k)],PW bs):=AR _ _ _ (by simp[mixOk,show pol1.byref 95 0=true from rfl,AV.plain,Aw]);refine AT (pol:=pol1) Tryz.func95 rfl rfl rfl rfl fr ?_;have rp:∀ H1 r H,retPol pol1 95 H1 r H=some (r,H):=fun H1 r H=>rfl;have htl:=BQ k;have h39:=w39 bs cs h0 hb (by omega);have h41:=hk (bs++cs) (by rw[length_append];omega);have h93:=w93 (bs++cs++treeT k) 41 (by simp only[length_append];omega);rw[show bs++(cs++treeT k++[41])=bs++cs++treeT k++[41] by simp];generalize PW (bs++cs++treeT k++[41])=Y3 at *;generalize PW (bs++cs++treeT k)=Y2 at *;generalize PW (bs++cs)=Y1 at *;generalize PW bs=Y0 at *;simp +contextual -implicitDefEqProofs (disch:=omega) only[Tryz.f95,dd95,go_sem,simprocAttr,mu95,↓AD,↓AC,↓AB,↓AA,h39,h41,h93];exact rp _ _ _
theorem w92 (bs ops:List Int) (k:Re) (hk:Wrt k) (ho:ops.length<=100) (hl:bs.length+4+300*k.wt<=1900000000) :
  call Pg pol1 92 [.rf 0 1 0 0,.pt (reC k),.sl true (ops.map I)] (PW bs)=some (.tup [],PW (bs++grpT (opIn ops k) (treeT k))):=by
 have fr:frzArgs pol1 92 0 [.rf 0 1 0 0,.pt (reC k),.sl true (ops.map I)] (PW bs)=some ([.rf 0 1 0 0,.pt (reC k),.sl false (ops.map I)],PW bs):=by
  have h1:∀ H,fz (.sl true (ops.map I)) H=some (.sl false (ops.map I),H):=fun H=>D9 _ true H (AF ops);have h2:∀ H,fz (.pt (reC k)) H=some (.pt (reC k),H):=fun H=>Ao H (by simp[AV.plain,Aw]);simp only[frzArgs,h1,h2,show pol1.byref 92 0=true from rfl,show pol1.byref 92 1=false from rfl,show pol1.byref 92 2=false from rfl,Bool.false_eq_true,if_false,if_true]
 refine AT (pol:=pol1) Tryz.func92 rfl rfl rfl rfl fr ?_;have rp:∀ H1 r H,retPol pol1 92 H1 r H=some (r,H):=fun H1 r H=>rfl;have h95:=w95 bs [40,63,58] k hk (by simp) (by intro x hx;simp at hx;omega) (by simp;omega);have h41:=hk bs (by omega);obtain⟨op,set,kids,mn,mx,md,n,neg⟩:=k;have h37:=p37 ops op (by omega);simp only[opIn];by_cases h:op∈ops
 ·rw[decide_eq_true h]at h37;have e:ops.contains op=true:=by simpa using h
  rw[e];rw[show grpT true (treeT (.mk op set kids mn mx md n neg))=[40,63,58]++treeT (.mk op set kids mn mx md n neg)++[41] from rfl];generalize PW (bs++([40,63,58]++treeT (.mk op set kids mn mx md n neg)++[41]))=Y1 at *;generalize PW bs=Y0 at *;rw[Ag]at *;simp +contextual -implicitDefEqProofs (disch:=omega) only[Tryz.f92,dd92,go_sem,simprocAttr,mu92,↓AD,↓AC,↓AB,↓AA,h37,h95,evStrOp,AN,sapp,kS1,kS2,kS3,kS4,kS5,kS6,kS7,kS8,kS9,kS10,kS11,kS12,kS13,kS14,kS15,kS16,kS17,kS18,kS19,kS20,kS21,kS22,kS23,kS24,kS25,kS26,kS27,kS28,kS29,kS30,kS31,kS32,kS33,kS34,kS35,kS36,kS37,kS38];exact rp _ _ _
 ·rw[decide_eq_false h]at h37;have e:ops.contains op=false:=by simpa using h
  rw[e];rw[show grpT false (treeT (.mk op set kids mn mx md n neg))=treeT (.mk op set kids mn mx md n neg) from rfl];generalize PW (bs++treeT (.mk op set kids mn mx md n neg))=Y1 at *;generalize PW bs=Y0 at *;rw[Ag]at *;simp +contextual -implicitDefEqProofs (disch:=omega) only[Tryz.f92,dd92,go_sem,simprocAttr,mu92,↓AD,↓AC,↓AB,↓AA,h37,h41,evStrOp,AN,sapp,kS1,kS2,kS3,kS4,kS5,kS6,kS7,kS8,kS9,kS10,kS11,kS12,kS13,kS14,kS15,kS16,kS17,kS18,kS19,kS20,kS21,kS22,kS23,kS24,kS25,kS26,kS27,kS28,kS29,kS30,kS31,kS32,kS33,kS34,kS35,kS36,kS37,kS38];exact rp _ _ _
theorem w41 {caps top:Int} (hcp:caps<=99) (htp:top<=1114111):∀(N:Nat) (r:Re),r.wt<=N->r.wt<=1000000->wholeG caps top r=true->Wrt r
 | 0,r,h,_,_=>by have:=r.wt_pos;omega
 | N+1,.mk op set kids mn mx md n neg,h,hN,hg=>by
   intro bs hbs;have hwt:1+set.length+Re.wtL kids=(Re.mk op set kids mn mx md n neg).wt:=by simp[Re.wt]
   rw[wholeG,Bool.and_eq_true,CN]at hg;obtain⟨hf,hkw⟩:=hg;have told:∀ k∈kids,Wrt k:=fun k hk=>by
    have h1:=Re.wtL_mem hk;exact w41 hcp htp N k (by omega) (by omega) (hkw k hk)
   have hkl:=Re.wtL_len kids;unfold formedG at hf;simp only[Bool.and_eq_true,decide_eq_true_eq]at hf;obtain⟨⟨⟨⟨⟨⟨f1,f2⟩,f3⟩,f4⟩,f5⟩,f6⟩,f7⟩:=hf;have hcase:op=0∨op=1∨op=2∨op=3∨op=4∨op=5∨op=6∨op=7∨op=8∨op=9∨op=10∨op=11:=by omega
   rw[show reC (.mk op set kids mn mx md n neg)=nodeL op set kids mn mx md n neg from Ag];have fr:frzArgs pol1 41 0 [.rf 0 1 0 0,.pt (nodeL op set kids mn mx md n neg)] (PW bs)=some ([.rf 0 1 0 0,.pt (nodeL op set kids mn mx md n neg)],PW bs):=AR _ _ _ (by simp[mixOk,show pol1.byref 41 0=true from rfl,AV.plain,AV.plainL,AE,AK]);refine AT (pol:=pol1) Tryz.func41 rfl rfl rfl rfl fr ?_;have rp:∀ H1 r H,retPol pol1 41 H1 r H=some (r,H):=fun H1 r H=>rfl;rcases hcase with rfl|rfl|rfl|rfl|rfl|rfl|rfl|rfl|rfl|rfl|rfl|rfl
   ·have hen:treeT (.mk 0 set kids mn mx md n neg)=[]:=rfl;rw[hen,append_nil];generalize PW bs=Y0 at *;simp +contextual -implicitDefEqProofs (disch:=omega) only[Tryz.f41,dd41,go_sem,simprocAttr,mu41,↓AD,↓AC,↓AB,↓AA];repeat' (first|intro _|apply And.intro|(unfold dOk;kernel_rfl)|exact St.beq_refl _|exact AI|(show altO _ _ _ _=true;kernel_rfl)|(show (_||_)=true;kernel_rfl)|(show (_&&_)=true;kernel_rfl))
    exact rp _ _ _
   ·obtain⟨hs1,hs2⟩:=Hq htp (by simpa using f4);have h91:=w91 bs set hs1 (by omega) (by omega);have hen:treeT (.mk 1 set kids mn mx md n neg)=setT set:=rfl;rw[hen];generalize PW (bs++setT set)=Y1 at *;generalize PW bs=Y0 at *;simp +contextual -implicitDefEqProofs (disch:=omega) only[Tryz.f41,dd41,go_sem,simprocAttr,mu41,↓AD,↓AC,↓AB,↓AA,h91];repeat' (first|intro _|apply And.intro|(unfold dOk;kernel_rfl)|exact St.beq_refl _|exact AI|(show altO _ _ _ _=true;kernel_rfl)|(show (_||_)=true;kernel_rfl)|(show (_&&_)=true;kernel_rfl))
    exact rp _ _ _
   ·have hcl:∀ i,(catT (kids.take i)).length<=300*Re.wtL (kids.take i):=fun i=>Cj (kids.take i);have hstp:∀ i k,kids[i]?=some k->catT (kids.take (i+1))=catT (kids.take i)++grpT (opIn [0,2,3] k) (treeT k):=fun i k h=>Fj h;have hwl:∀ i k,kids[i]?=some k->Re.wtL (kids.take i)+k.wt<=Re.wtL kids:=fun i k h=>by
     have h1:=CG (l:=kids) (i:=i+1);rw[take_add_one,h,Re.wtL_append]at h1
     simpa [Re.wtL] using h1
    have hen:treeT (.mk 2 set kids mn mx md n neg)=catT (kids.take kids.length):=by rw[take_length];rfl
    have hze:catT (kids.take 0)=[]:=by rw[List.take_zero];rfl
    rw[hen];clear hen;simp +contextual -implicitDefEqProofs (disch:=omega) only[Tryz.f41,dd41,go_sem,simprocAttr,mu41,↓AD,↓AC,↓AB,↓AA];refine Af (M:=⟨some [25,24,1,0],none,[]⟩) (by rfl) kids.length (fun i=>(⟨177,[(25,I i),(24,I kids.length),(1,.pt (nodeL 2 set kids mn mx md n neg)),(0,.rf 0 1 0 0)],PW (bs++catT (kids.take i))⟩:St)) (fun _=>True) ?_ ?_ trivial _ (by rw[hze,append_nil];rfl)
    ·intro i hi _;obtain⟨k,hk⟩:∃ k,kids[i]?=some k:=⟨_,getElem?_eq_getElem hi⟩;have hkm:=mem_of_getElem? hk;have hl8:=AO k;have ht8:=AP k;have hki:=hcl i;have hwi:=hwl i k hk;have hlt:(i:Int)<(kids.length:Int):=by omega
     have h92:=w92 (bs++catT (kids.take i)) [0,2,3] k (told k hkm) (by simp) (by rw[length_append];omega);simp only[map_cons,map_nil]at h92;rw[hstp i k hk,<- append_assoc];generalize PW (bs++catT (kids.take i)++grpT (opIn [0,2,3] k) (treeT k))=Y1 at *;generalize PW (bs++catT (kids.take i))=Y0 at *;simp +contextual -implicitDefEqProofs (disch:=omega) only[Tryz.f41,dd41,go_sem,simprocAttr,mu41,↓AD,↓AC,↓AB,↓AA,hk,hl8,ht8,hlt,h92];rfl
    ·intro _;generalize PW (bs++catT (kids.take kids.length))=Y1 at *;simp +contextual -implicitDefEqProofs (disch:=omega) only[Tryz.f41,dd41,go_sem,simprocAttr,mu41,↓AD,↓AC,↓AB,↓AA];repeat' (first|intro _|apply And.intro|(unfold dOk;kernel_rfl)|exact St.beq_refl _|exact AI|(show altO _ _ _ _=true;kernel_rfl)|(show (_||_)=true;kernel_rfl)|(show (_&&_)=true;kernel_rfl))
     exact rp _ _ _
   ·simp[kidsG]at f3;have hcl:∀ i,(alsT (kids.take i)).length<=300*Re.wtL (kids.take i):=fun i=>E0 (kids.take i);have hstp:∀ i k,kids[i]?=some k->alsT (kids.take (i+1))=alsT (kids.take i)++((if 0<i then [124] else [])++grpT (opIn [3] k) (treeT k)):=fun i k h=>by
     by_cases h0:0<i
     ·rw[Fo h h0,if_pos h0];rfl
     ·obtain rfl:i=0:=by omega
      cases kids with
      | nil=>simp at h
      | cons a l=>simp at h;subst h;simp[alsT,barT]
    have hwl:∀ i k,kids[i]?=some k->Re.wtL (kids.take i)+k.wt<=Re.wtL kids:=fun i k h=>by
     have h1:=CG (l:=kids) (i:=i+1);rw[take_add_one,h,Re.wtL_append]at h1
     simpa [Re.wtL] using h1
    have hen:treeT (.mk 3 set kids mn mx md n neg)=alsT (kids.take kids.length):=by rw[take_length];rfl
    have hze:alsT (kids.take 0)=[]:=by rw[List.take_zero];rfl
    rw[hen];clear hen;simp +contextual -implicitDefEqProofs (disch:=omega) only[Tryz.f41,dd41,go_sem,simprocAttr,mu41,↓AD,↓AC,↓AB,↓AA];refine Af (M:=⟨some [45,44,1,0],none,[]⟩) (by rfl) kids.length (fun i=>(⟨177,[(45,I i),(44,I kids.length),(1,.pt (nodeL 3 set kids mn mx md n neg)),(0,.rf 0 1 0 0)],PW (bs++alsT (kids.take i))⟩:St)) (fun _=>True) ?_ ?_ trivial _ (by rw[hze,append_nil];rfl)
    ·intro i hi _;obtain⟨k,hk⟩:∃ k,kids[i]?=some k:=⟨_,getElem?_eq_getElem hi⟩;have hkm:=mem_of_getElem? hk;have hl8:=AO k;have ht8:=AP k;have hki:=hcl i;have hwi:=hwl i k hk;have hlt:(i:Int)<(kids.length:Int):=by omega
     rw[hstp i k hk,<- append_assoc];by_cases h0:0<i
     ·rw[if_pos h0];have h93:=w93 (bs++alsT (kids.take i)) 124 (by rw[length_append];omega);have h92:=w92 (bs++alsT (kids.take i)++[124]) [3] k (told k hkm) (by simp) (by simp only[length_append,length_cons,length_nil];omega);simp only[map_cons,map_nil]at h92;rw[<- append_assoc];generalize PW (bs++alsT (kids.take i)++[124]++grpT (opIn [3] k) (treeT k))=Y2 at *;generalize PW (bs++alsT (kids.take i)++[124])=Y1 at *;generalize PW (bs++alsT (kids.take i))=Y0 at *;simp +contextual -implicitDefEqProofs (disch:=omega) only[Tryz.f41,dd41,go_sem,simprocAttr,mu41,↓AD,↓AC,↓AB,↓AA,hk,hl8,ht8,hlt,h92,h93];rfl
     ·rw[if_neg h0,List.nil_append];have h92:=w92 (bs++alsT (kids.take i)) [3] k (told k hkm) (by simp) (by rw[length_append];omega);simp only[map_cons,map_nil]at h92;generalize PW (bs++alsT (kids.take i)++grpT (opIn [3] k) (treeT k))=Y1 at *;generalize PW (bs++alsT (kids.take i))=Y0 at *;simp +contextual -implicitDefEqProofs (disch:=omega) only[Tryz.f41,dd41,go_sem,simprocAttr,mu41,↓AD,↓AC,↓AB,↓AA,hk,hl8,ht8,hlt,h92];rfl
    ·intro _;generalize PW (bs++alsT (kids.take kids.length))=Y1 at *;simp +contextual -implicitDefEqProofs (disch:=omega) only[Tryz.f41,dd41,go_sem,simprocAttr,mu41,↓AD,↓AC,↓AB,↓AA];repeat' (first|intro _|apply And.intro|(unfold dOk;kernel_rfl)|exact St.beq_refl _|exact AI|(show altO _ _ _ _=true;kernel_rfl)|(show (_||_)=true;kernel_rfl)|(show (_&&_)=true;kernel_rfl))
     exact rp _ _ _
   ·obtain⟨k,rfl⟩:∃ k,kids=[k]:=List.length_eq_one_iff.1 (by simpa [kidsG] using f3);have hkw1:k.wt<=Re.wtL [k]:=Re.wtL_mem (by simp);have hrp:repG mn mx md=true:=by simpa using f5
    have h94:=p94 set [k] mn mx md n neg hrp;have h92:=w92 bs [0,2,3,4] k (told k (by simp)) (by simp) (by omega);simp only[map_cons,map_nil]at h92;have htl:=BQ k;have hgl:=BI (opIn [0,2,3,4] k) (treeT k);have hql:=EP mn mx md;have hqn:quantT mn mx md≠[]:=by
     unfold quantT;repeat' split
     all_goals simp
    have h39:=w39 (bs++grpT (opIn [0,2,3,4] k) (treeT k)) (quantT mn mx md) hqn (HP _ _ _) (by rw[length_append];omega);have hl8:=AO k;have ht8:=AP k;have hen:treeT (.mk 4 set [k] mn mx md n neg)=grpT (opIn [0,2,3,4] k) (treeT k)++quantT mn mx md:=rfl;rw[hen,<- append_assoc];generalize PW (bs++grpT (opIn [0,2,3,4] k) (treeT k)++quantT mn mx md)=Y2 at *;generalize PW (bs++grpT (opIn [0,2,3,4] k) (treeT k))=Y1 at *;generalize PW bs=Y0 at *;generalize quantT mn mx md=Q at *;simp +contextual -implicitDefEqProofs (disch:=omega) only[Tryz.f41,dd41,go_sem,simprocAttr,mu41,↓AD,↓AC,↓AB,↓AA,hl8,ht8,h92,h94,h39];repeat' (first|intro _|apply And.intro|(unfold dOk;kernel_rfl)|exact St.beq_refl _|exact AI|(show altO _ _ _ _=true;kernel_rfl)|(show (_||_)=true;kernel_rfl)|(show (_&&_)=true;kernel_rfl))
    exact rp _ _ _
   ·obtain⟨k,rfl⟩:∃ k,kids=[k]:=List.length_eq_one_iff.1 (by simpa [kidsG] using f3);have hkw1:k.wt<=Re.wtL [k]:=Re.wtL_mem (by simp);have hn:1<=n/\n<=caps:=by simpa using f6
    have h40:=p40 n (by omega);have hdl:=A4 10 n;have hdb:=Bs (b:=10) (by decide) n;have hl8:=AO k;have ht8:=AP k;have hen:treeT (.mk 5 set [k] mn mx md n neg)=40::63::60::(digI 10 n++[62])++treeT k++[41]:=by
     have:treeT (.mk 5 set [k] mn mx md n neg)=[40,63,60]++digI 10 n++[62]++treeT k++[41]:=by rw[<- hd0 k];rfl
     rw[this];simp
    rw[hen];generalize digI 10 n=D at *;have h95:=w95 bs (40::63::60::(D++[62])) k (told k (by simp)) (by simp) (by
     intro x hx;simp only[mem_cons,mem_append,List.not_mem_nil,or_false]at hx;rcases hx with rfl|rfl|rfl|hx|rfl<;>first|omega|exact hdb x hx) (by simp only[length_cons,length_append,length_nil];omega)
    generalize PW (bs++(40::63::60::(D++[62])++treeT k++[41]))=Y1 at *;generalize PW bs=Y0 at *;simp +contextual -implicitDefEqProofs (disch:=omega) only[Tryz.f41,dd41,go_sem,simprocAttr,mu41,↓AD,↓AC,↓AB,↓AA,hl8,ht8,h40,h95,evStrOp,AN,sapp,kS1,kS2,kS3,kS4,kS5,kS6,kS7,kS8,kS9,kS10,kS11,kS12,kS13,kS14,kS15,kS16,kS17,kS18,kS19,kS20,kS21,kS22,kS23,kS24,kS25,kS26,kS27,kS28,kS29,kS30,kS31,kS32,kS33,kS34,kS35,kS36,kS37,kS38];repeat' (first|intro _|apply And.intro|(unfold dOk;kernel_rfl)|exact St.beq_refl _|exact AI|(show altO _ _ _ _=true;kernel_rfl)|(show (_||_)=true;kernel_rfl)|(show (_&&_)=true;kernel_rfl))
    exact rp _ _ _
   ·have hn:1<=n/\n<=caps:=by simpa using f6
    have h40:=p40 n (by omega);have hdl:=A4 10 n;have hdb:=Bs (b:=10) (by decide) n;have hen:treeT (.mk 6 set kids mn mx md n neg)=92::digI 10 n:=rfl;rw[hen];generalize digI 10 n=D at *;have h39:=w39 bs (92::D) (by simp) (hdb.cons (by decide)) (by simp only[length_cons];omega);generalize PW (bs++92::D)=Y1 at *;generalize PW bs=Y0 at *;simp +contextual -implicitDefEqProofs (disch:=omega) only[Tryz.f41,dd41,go_sem,simprocAttr,mu41,↓AD,↓AC,↓AB,↓AA,h40,h39,evStrOp,AN,sapp,kS1,kS2,kS3,kS4,kS5,kS6,kS7,kS8,kS9,kS10,kS11,kS12,kS13,kS14,kS15,kS16,kS17,kS18,kS19,kS20,kS21,kS22,kS23,kS24,kS25,kS26,kS27,kS28,kS29,kS30,kS31,kS32,kS33,kS34,kS35,kS36,kS37,kS38];repeat' (first|intro _|apply And.intro|(unfold dOk;kernel_rfl)|exact St.beq_refl _|exact AI|(show altO _ _ _ _=true;kernel_rfl)|(show (_||_)=true;kernel_rfl)|(show (_&&_)=true;kernel_rfl))
    exact rp _ _ _
   ·obtain⟨k,rfl⟩:∃ k,kids=[k]:=List.length_eq_one_iff.1 (by simpa [kidsG] using f3);have hkw1:k.wt<=Re.wtL [k]:=Re.wtL_mem (by simp);have h96:=p96 7 set [k] mn mx md n neg (.inl rfl);have hl8:=AO k;have ht8:=AP k;have hen:treeT (.mk 7 set [k] mn mx md n neg)=(if(7:Int)=8 then [40,63,60] else [40,63])++(if neg=true then [33] else [61])++treeT k++[41]:=by
     have:treeT (.mk 7 set [k] mn mx md n neg)=[40,63]++(if neg=true then [33] else [61])++treeT k++[41]:=by rw[<- hd0 k];rfl
     rw[this];simp
    rw[hen];have hb:Byt ((if(7:Int)=8 then [40,63,60] else [40,63])++(if neg=true then [33] else [61])):=by
     intro x hx;cases neg<;>simp at hx<;>omega
    have hln:((if(7:Int)=8 then [40,63,60] else [40,63]:List Int)++(if neg=true then [33] else [61])).length<=4:=by cases neg<;>simp
    have hne:((if(7:Int)=8 then [40,63,60] else [40,63]:List Int)++(if neg=true then [33] else [61]))≠[]:=by cases neg<;>simp
    generalize ((if(7:Int)=8 then [40,63,60] else [40,63]:List Int)++(if neg=true then [33] else [61]))=B at *;have h95:=w95 bs B k (told k (by simp)) hne hb (by omega);generalize PW (bs++(B++treeT k++[41]))=Y1 at *;generalize PW bs=Y0 at *;simp +contextual -implicitDefEqProofs (disch:=omega) only[Tryz.f41,dd41,go_sem,simprocAttr,mu41,↓AD,↓AC,↓AB,↓AA,hl8,ht8,h96,h95];repeat' (first|intro _|apply And.intro|(unfold dOk;kernel_rfl)|exact St.beq_refl _|exact AI|(show altO _ _ _ _=true;kernel_rfl)|(show (_||_)=true;kernel_rfl)|(show (_&&_)=true;kernel_rfl))
    exact rp _ _ _
   ·obtain⟨k,rfl⟩:∃ k,kids=[k]:=List.length_eq_one_iff.1 (by simpa [kidsG] using f3);have hkw1:k.wt<=Re.wtL [k]:=Re.wtL_mem (by simp);have h96:=p96 8 set [k] mn mx md n neg (.inr rfl);have hl8:=AO k;have ht8:=AP k;have hen:treeT (.mk 8 set [k] mn mx md n neg)=(if(8:Int)=8 then [40,63,60] else [40,63])++(if neg=true then [33] else [61])++treeT k++[41]:=by
     have:treeT (.mk 8 set [k] mn mx md n neg)=[40,63,60]++(if neg=true then [33] else [61])++treeT k++[41]:=by rw[<- hd0 k];rfl
     rw[this];simp
    rw[hen];have hb:Byt ((if(8:Int)=8 then [40,63,60] else [40,63])++(if neg=true then [33] else [61])):=by
     intro x hx;cases neg<;>simp at hx<;>omega
    have hln:((if(8:Int)=8 then [40,63,60] else [40,63]:List Int)++(if neg=true then [33] else [61])).length<=4:=by cases neg<;>simp
    have hne:((if(8:Int)=8 then [40,63,60] else [40,63]:List Int)++(if neg=true then [33] else [61]))≠[]:=by cases neg<;>simp
    generalize ((if(8:Int)=8 then [40,63,60] else [40,63]:List Int)++(if neg=true then [33] else [61]))=B at *;have h95:=w95 bs B k (told k (by simp)) hne hb (by omega);generalize PW (bs++(B++treeT k++[41]))=Y1 at *;generalize PW bs=Y0 at *;simp +contextual -implicitDefEqProofs (disch:=omega) only[Tryz.f41,dd41,go_sem,simprocAttr,mu41,↓AD,↓AC,↓AB,↓AA,hl8,ht8,h96,h95];repeat' (first|intro _|apply And.intro|(unfold dOk;kernel_rfl)|exact St.beq_refl _|exact AI|(show altO _ _ _ _=true;kernel_rfl)|(show (_||_)=true;kernel_rfl)|(show (_&&_)=true;kernel_rfl))
    exact rp _ _ _
   ·obtain⟨k,rfl⟩:∃ k,kids=[k]:=List.length_eq_one_iff.1 (by simpa [kidsG] using f3);have hkw1:k.wt<=Re.wtL [k]:=Re.wtL_mem (by simp);have hl8:=AO k;have ht8:=AP k;have hen:treeT (.mk 9 set [k] mn mx md n neg)=[40,63,62]++treeT k++[41]:=by rw[<- hd0 k];rfl
    rw[hen];have h95:=w95 bs [40,63,62] k (told k (by simp)) (by simp) (by intro x hx;simp at hx;omega) (by simp;omega);generalize PW (bs++([40,63,62]++treeT k++[41]))=Y1 at *;generalize PW bs=Y0 at *;simp +contextual -implicitDefEqProofs (disch:=omega) only[Tryz.f41,dd41,go_sem,simprocAttr,mu41,↓AD,↓AC,↓AB,↓AA,hl8,ht8,h95,evStrOp,AN,sapp,kS1,kS2,kS3,kS4,kS5,kS6,kS7,kS8,kS9,kS10,kS11,kS12,kS13,kS14,kS15,kS16,kS17,kS18,kS19,kS20,kS21,kS22,kS23,kS24,kS25,kS26,kS27,kS28,kS29,kS30,kS31,kS32,kS33,kS34,kS35,kS36,kS37,kS38];repeat' (first|intro _|apply And.intro|(unfold dOk;kernel_rfl)|exact St.beq_refl _|exact AI|(show altO _ _ _ _=true;kernel_rfl)|(show (_||_)=true;kernel_rfl)|(show (_&&_)=true;kernel_rfl))
    exact rp _ _ _
   ·obtain⟨a,b,rfl⟩:∃ a b,kids=[a,b]:=by
     have h2:kids.length=2:=by simpa [kidsG] using f3
     match kids,h2 with
     | [a,b],_=>exact⟨a,b,rfl⟩
    have hn:1<=n/\n<=caps:=by simpa using f6
    have h40:=p40 n (by omega);have hdl:=A4 10 n;have hdb:=Bs (b:=10) (by decide) n;have hwk:Re.wtL [a,b]=a.wt+b.wt:=by simp[Re.wtL]
    have hla:=BI (opIn [3] a) (treeT a);have hlb:=BI (opIn [3] b) (treeT b);have hta:=BQ a;have htb:=BQ b;have hl8a:=AO a;have ht8a:=AP a;have hl8b:=AO b;have ht8b:=AP b;have hen:treeT (.mk 10 set [a,b] mn mx md n neg)=40::63::40::(digI 10 n++[41])++grpT (opIn [3] a) (treeT a)++[124]++grpT (opIn [3] b) (treeT b)++[41]:=by
     have:treeT (.mk 10 set [a,b] mn mx md n neg)=[40,63,40]++digI 10 n++[41]++alsT [a,b]++[41]:=rfl;rw[this,alsT,barT,barT];simp
    rw[hen];generalize digI 10 n=D at *;have hDb:Byt (40::63::40::(D++[41])):=by
     intro x hx;simp only[mem_cons,mem_append,List.not_mem_nil,or_false]at hx;rcases hx with rfl|rfl|rfl|hx|rfl<;>first|omega|exact hdb x hx
    have h39:=w39 bs (40::63::40::(D++[41])) (by simp) hDb (by simp only[length_cons,length_append,length_nil];omega);have h92a:=w92 (bs++(40::63::40::(D++[41]))) [3] a (told a (by simp)) (by simp) (by simp only[length_cons,length_append,length_nil];omega);have h93:=w93 (bs++(40::63::40::(D++[41]))++grpT (opIn [3] a) (treeT a)) 124 (by simp only[length_cons,length_append,length_nil];omega);have h92b:=w92 (bs++(40::63::40::(D++[41]))++grpT (opIn [3] a) (treeT a)++[124]) [3] b (told b (by simp)) (by simp) (by simp only[length_cons,length_append,length_nil];omega);have h93b:=w93 (bs++(40::63::40::(D++[41]))++grpT (opIn [3] a) (treeT a)++[124]++grpT (opIn [3] b) (treeT b)) 41 (by simp only[length_cons,length_append,length_nil];omega);simp only[map_cons,map_nil]at h92a h92b;rw[show bs++(40::63::40::(D++[41])++grpT (opIn [3] a) (treeT a)++[124]++grpT (opIn [3] b) (treeT b)++[41])=bs++(40::63::40::(D++[41]))++grpT (opIn [3] a) (treeT a)++[124]++grpT (opIn [3] b) (treeT b)++[41] by simp];generalize PW (bs++(40::63::40::(D++[41]))++grpT (opIn [3] a) (treeT a)++[124]++grpT (opIn [3] b) (treeT b)++[41])=Y5 at *;generalize PW (bs++(40::63::40::(D++[41]))++grpT (opIn [3] a) (treeT a)++[124]++grpT (opIn [3] b) (treeT b))=Y4 at *;generalize PW (bs++(40::63::40::(D++[41]))++grpT (opIn [3] a) (treeT a)++[124])=Y3 at *;generalize PW (bs++(40::63::40::(D++[41]))++grpT (opIn [3] a) (treeT a))=Y2 at *;generalize PW (bs++(40::63::40::(D++[41])))=Y1 at *;generalize PW bs=Y0 at *;simp +contextual -implicitDefEqProofs (disch:=omega) only[Tryz.f41,dd41,go_sem,simprocAttr,mu41,↓AD,↓AC,↓AB,↓AA,hl8a,ht8a,hl8b,ht8b,h40,h39,h92a,h92b,h93,h93b,evStrOp,AN,sapp,kS1,kS2,kS3,kS4,kS5,kS6,kS7,kS8,kS9,kS10,kS11,kS12,kS13,kS14,kS15,kS16,kS17,kS18,kS19,kS20,kS21,kS22,kS23,kS24,kS25,kS26,kS27,kS28,kS29,kS30,kS31,kS32,kS33,kS34,kS35,kS36,kS37,kS38];repeat' (first|intro _|apply And.intro|(unfold dOk;kernel_rfl)|exact St.beq_refl _|exact AI|(show altO _ _ _ _=true;kernel_rfl)|(show (_||_)=true;kernel_rfl)|(show (_&&_)=true;kernel_rfl))
    exact rp _ _ _
   ·have h97:=p97 n;have hen:treeT (.mk 11 set kids mn mx md n neg)=assertT n:=rfl;have hal:=Dy n;have han:assertT n≠[]:=by
     unfold assertT;repeat' split
     all_goals simp
    rw[hen];have h39:=w39 bs (assertT n) han (G5 n) (by omega);generalize assertT n=A at *;generalize PW (bs++A)=Y1 at *;generalize PW bs=Y0 at *;simp +contextual -implicitDefEqProofs (disch:=omega) only[Tryz.f41,dd41,go_sem,simprocAttr,mu41,↓AD,↓AC,↓AB,↓AA,h97,h39];repeat' (first|intro _|apply And.intro|(unfold dOk;kernel_rfl)|exact St.beq_refl _|exact AI|(show altO _ _ _ _=true;kernel_rfl)|(show (_||_)=true;kernel_rfl)|(show (_&&_)=true;kernel_rfl))
    exact rp _ _ _
end
mutual
def capN:Re->List Int
 | .mk op set kids mn mx md n neg=>(if op=5 then [n] else [])++capL kids
def capL:List Re->List Int
 | []=>[]
 | k::l=>capN k++capL l
end
theorem G9 {l:List Int}{n x:Int}:x∈addN l n↔x∈l∨x=n:=by
 unfold addN;split
 ·rename_i h;exact⟨.inl,fun h2=>h2.elim id fun e=>e ▸ h⟩
 ·simp
theorem HA (l:List Int) (n:Int):(addN l n).length<=l.length+1:=by
 unfold addN;split<;>simp
theorem Fe:∀ {l acc:List Int}{x:Int},x∈l.foldl addN acc↔x∈acc∨x∈l
 | [],acc,x=>by simp
 | n::l,acc,x=>by
   rw[List.foldl_cons,Fe,G9];simp[or_assoc]
theorem Cq:∀(l acc:List Int),(l.foldl addN acc).length<=acc.length+l.length
 | [],acc=>by simp
 | n::l,acc=>by
   have h1:=Cq l (addN acc n);have h2:=HA acc n;rw[List.foldl_cons,length_cons];omega
theorem Ei {l acc:List Int}{i:Nat}{n:Int} (h:l[i]?=some n):(l.take (i+1)).foldl addN acc=addN ((l.take i).foldl addN acc) n:=by
 rw[take_add_one,h,List.foldl_append];rfl
mutual
theorem GY:∀ {r:Re}{x:Int},x∈numT r↔x∈capN r
 | .mk op set kids mn mx md n neg,x=>by
   rw[numT,capN,GZ,mem_append]
theorem GZ:∀ {l:List Re}{acc:List Int}{x:Int},x∈numL acc l↔x∈acc∨x∈capL l
 | [],acc,x=>by simp[numL,capL]
 | k::l,acc,x=>by
   rw[numL,capL,GZ,Fe,GY,mem_append,or_assoc]
end
mutual
theorem DO:∀ r:Re,(numT r).length<=r.size
 | .mk op set kids mn mx md n neg=>by
   have h:=EV kids (if op=5 then [n] else []);have h2:(if op=5 then [n] else []:List Int).length<=1:=by split<;>simp
   rw[numT,Re.size];omega
theorem EV:∀(l:List Re) (acc:List Int),(numL acc l).length<=acc.length+Re.sizeL l
 | [],acc=>by simp[numL,Re.sizeL]
 | k::l,acc=>by
   have h1:=DO k;have h2:=EV l ((numT k).foldl addN acc);have h3:=Cq (numT k) acc;rw[numL,Re.sizeL];omega
end
theorem FU {k:Re}:∀ {l:List Re}{acc:List Int}{i:Nat},l[i]?=some k->numL acc (l.take (i+1))=(numT k).foldl addN (numL acc (l.take i))
 | [],acc,i,h=>by simp at h
 | a::l,acc,0,h=>by
   simp at h;subst h;simp[numL]
 | a::l,acc,i+1,h=>by
   rw[take_succ_cons,take_succ_cons,numL,numL,FU (by simpa using h)]
mutual
def wN (acc:List Int):Re->List Int
 | .mk op set kids mn mx md n neg=>wL (if op=5 then addN acc n else acc) kids
def wL (acc:List Int):List Re->List Int
 | []=>acc
 | k::l=>wL (wN acc k) l
end
mutual
theorem Ip:∀ {r:Re}{acc:List Int}{x:Int},x∈wN acc r↔x∈acc∨x∈capN r
 | .mk op set kids mn mx md n neg,acc,x=>by
   rw[wN,capN,Ir,mem_append];split
   ·rw[G9,or_assoc,List.mem_singleton]
   ·simp
theorem Ir:∀ {l:List Re}{acc:List Int}{x:Int},x∈wL acc l↔x∈acc∨x∈capL l
 | [],acc,x=>by simp[wL,capL]
 | k::l,acc,x=>by rw[wL,capL,Ir,Ip,mem_append,or_assoc]
end
mutual
theorem Iq:∀(r:Re) (acc:List Int),(wN acc r).length<=acc.length+r.size
 | .mk op set kids mn mx md n neg,acc=>by
   have h:=EG kids (if op=5 then addN acc n else acc);have h2:(if op=5 then addN acc n else acc:List Int).length<=acc.length+1:=by
    split
    ·exact HA _ _
    ·omega
   rw[wN,Re.size];omega
theorem EG:∀(l:List Re) (acc:List Int),(wL acc l).length<=acc.length+Re.sizeL l
 | [],acc=>by simp[wL,Re.sizeL]
 | k::l,acc=>by
   have h1:=Iq k acc;have h2:=EG l (wN acc k);rw[wL,Re.sizeL];omega
end
theorem D5 {k:Re}:∀ {l:List Re}{acc:List Int}{i:Nat},l[i]?=some k->wL acc (l.take (i+1))=wN (wL acc (l.take i)) k
 | [],acc,i,h=>by simp at h
 | a::l,acc,0,h=>by
   simp at h;subst h;simp[wL]
 | a::l,acc,i+1,h=>by
   rw[take_succ_cons,take_succ_cons,wL,wL,D5 (by simpa using h)]
end Go.Ev
namespace Go.Ev
attribute [local go_sem] evBin AV.cells BA BG bndO bnd evEq eqCells not_false_eq_true not_true_eq_false Ak Array.size_empty length_append tySzE List.head?_drop Nat.mul_one Al Az Ae Am An Go.IntWalk.i64_quo Go.IntWalk.rem_in Ap
section
abbrev nH (acc:List Int) (n:Nat):List MB:=[.row 1 [.ms 1 1 n 0 n] 0,.row 1 (acc.map I) 0,.mp (.int .i64) (acc.map fun x=>(I x,.bool true)),.row 1 [.mpr 2] 0,.row 1 [.clo 88 [.rf 3 1 0 0,.rf 0 1 0 0,.rf 4 1 0 0]] 0]
theorem Ha (c:Int):∀ acc:List Int,findMp (I c) (acc.map fun x=>(I x,AV.bool true))=if c∈acc then some (.bool true) else none
 | []=>by simp[findMp]
 | x::acc=>by
   have ih:=Ha c acc;simp only[map_cons,findMp,ih];by_cases e:c=x
   ·subst e;simp[AV.beq]
   ·have e2:¬ x=c:=fun h=>e h.symm;simp[AV.beq,e,e2]
theorem Ky (c:Int):∀ acc:List Int,c ∉ acc->updMp (I c) (.bool true) (acc.map fun x=>(I x,AV.bool true))=(acc++[c]).map fun x=>(I x,AV.bool true)
 | [],_=>rfl
 | x::acc,h=>by
   have ih:=Ky c acc (fun h2=>h (by simp[h2]));have e:¬ c=x:=fun e=>h (by simp[e]);have e2:¬ x=c:=fun h=>e h.symm;simp only[map_cons,updMp,ih,List.cons_append];simp[AV.beq,e,e2]
theorem MQ {H:List MB}{i n:Nat}{rs:List Int}{c:Int}{t:Bool} (hi:getRow1 H i=some (1,rs.map I,0)) (hn:rs.length=n) (hr:n+1<=4000000000) :
  evAppend Pg H 22 22 (.ms i 1 n 0 n) (.sl t [I c])=some (.ms i 1 (n+1) 0 (n+1),H.set i (.row 1 ((rs++[c]).map I) 0)):=by
 have hs:srcElems Pg H 3 (.sl t [I c])=some [I c]:=rfl;rw[BV (e:=3) (by kernel_rfl) (by kernel_rfl) (k:=1) (by kernel_rfl) (by_:=8) (by kernel_rfl) (ze:=I 0) (by kernel_rfl) rfl (by omega) hs rfl hi (by rw[List.length_map];exact hn) (by omega) (Ap hr (by omega)),map_append];rfl
theorem p88:∀(N:Nat) (r:Re),r.wt<=N->∀(acc:List Int) (n:Nat),acc.length=n->n+r.wt<=1000000->call Pg pol1 88 [.pt (reC r),.rf 3 1 0 0,.rf 0 1 0 0,.rf 4 1 0 0] (nH acc n)=some (.tup [],nH (wN acc r) (wN acc r).length)
 | 0,r,h=>by have:=r.wt_pos;omega
 | N+1,.mk op set kids mn mx md c neg,h=>by
   intro acc n hn hN;have hwt:1+set.length+Re.wtL kids=(Re.mk op set kids mn mx md c neg).wt:=by simp[Re.wt]
   rw[show reC (.mk op set kids mn mx md c neg)=nodeL op set kids mn mx md c neg from Ag];have fr:frzArgs pol1 88 0 [.pt (nodeL op set kids mn mx md c neg),.rf 3 1 0 0,.rf 0 1 0 0,.rf 4 1 0 0] (nH acc n)=some ([.pt (nodeL op set kids mn mx md c neg),.rf 3 1 0 0,.rf 0 1 0 0,.rf 4 1 0 0],nH acc n):=AR _ _ _ (by simp[mixOk,show pol1.byref 88 0=false from rfl,show pol1.byref 88 1=true from rfl,show pol1.byref 88 2=true from rfl,show pol1.byref 88 3=true from rfl,AV.plain,AV.plainL,AE,AK]);refine AT (pol:=pol1) Tryz.func88 rfl rfl rfl rfl fr ?_;have rp:∀ H1 r H,retPol pol1 88 H1 r H=some (r,H):=fun H1 r H=>rfl;rw[wN];have hwl:∀ i k,kids[i]?=some k->Re.wtL (kids.take i)+k.wt<=Re.wtL kids:=fun i k h=>by
    have h1:=CG (l:=kids) (i:=i+1);rw[take_add_one,h,Re.wtL_append]at h1
    simpa [Re.wtL] using h1
   have hkl:=Re.wtL_len kids;have ih:=fun k (hk:k∈kids)=>p88 N k (by have:=Re.wtL_mem hk;omega);by_cases h5:op=5
   ·subst h5;rw[if_pos rfl];by_cases hm:c∈acc
    ·have hf:=Ha c acc;rw[if_pos hm]at hf;have e:addN acc c=acc:=if_pos hm;rw[e];simp +contextual -implicitDefEqProofs (disch:=omega) only[Tryz.f88,dd88,go_sem,simprocAttr,evAppend,map_append,mu88,↓AD,↓AC,↓AB,↓AA,hf];refine⟨by unfold dOk;kernel_rfl,?_⟩;have hlp:∃ st:Nat->List Int,st 0=acc/\(∀ i k,kids[i]?=some k->st (i+1)=wN (st i) k)/\(∀ i,(st i).length<=n+Re.wtL (kids.take i))/\st kids.length=wL (acc) kids:=
      ⟨fun i=>wL (acc) (kids.take i),rfl,fun i k h=>D5 h,fun i=>by
        have h1:=EG (kids.take i) (acc);have h2:=Re.sizeL_wt (kids.take i);have h3:(acc).length=n:=hn;simp only;omega,by simp⟩
     obtain⟨st,st0,stS,stl,stE⟩:=hlp;rw[<- stE];have h0l:n=(st 0).length:=by rw[st0];exact(hn).symm
     refine Af (M:=⟨some [37,36,3,0],none,[]⟩) (by rfl) kids.length (fun i=>(⟨49,[(37,I i),(36,I kids.length),(3,.rf 4 1 0 0),(0,.pt (nodeL 5 set kids mn mx md c neg))],nH (st i) (st i).length⟩:St)) (fun _=>True) ?_ ?_ trivial _ (by rw[<- h0l,st0];rfl)
     ·intro i hi _;obtain⟨k,hk⟩:∃ k,kids[i]?=some k:=⟨_,getElem?_eq_getElem hi⟩;have hkm:=mem_of_getElem? hk;have hl8:=AO k;have hli:=stl i;have hwi:=hwl i k hk;have hlt:(i:Int)<(kids.length:Int):=by omega
      have h88:=ih k hkm (st i) (st i).length rfl (by omega);rw[stS i k hk];generalize wN (st i) k=Z at *;generalize st i=X at *;simp +contextual -implicitDefEqProofs (disch:=omega) only[Tryz.f88,dd88,go_sem,simprocAttr,evAppend,map_append,mu88,↓AD,↓AC,↓AB,↓AA,hk,hl8,hlt,h88];repeat' (first|intro _|apply And.intro|(unfold dOk;kernel_rfl)|exact St.beq_refl _|exact AI|(show altO _ _ _ _=true;kernel_rfl)|(show (_||_)=true;kernel_rfl)|(show (_&&_)=true;kernel_rfl))
      rfl
     ·intro _;generalize st kids.length=X at *;simp +contextual -implicitDefEqProofs (disch:=omega) only[Tryz.f88,dd88,go_sem,simprocAttr,evAppend,map_append,mu88,↓AD,↓AC,↓AB,↓AA];exact rp _ _ _
    ·have hf:=Ha c acc;rw[if_neg hm]at hf;have hu:=Ky c acc hm;have e:addN acc c=acc++[c]:=if_neg hm;rw[e];have happ:=fun b0 b2 b3 b4 t=>MQ (H:=[b0,.row 1 (acc.map I) 0,b2,b3,b4]) (i:=1) (n:=n) (rs:=acc) (c:=c) (t:=t) rfl hn (by omega);simp +contextual -implicitDefEqProofs (disch:=omega) only[Tryz.f88,dd88,go_sem,simprocAttr,mu88,↓AD,↓AC,↓AB,↓AA,hf,hu,happ];repeat' (first|intro _|apply And.intro|(unfold dOk;kernel_rfl)|exact St.beq_refl _|exact AI|(show altO _ _ _ _=true;kernel_rfl)|(show (_||_)=true;kernel_rfl)|(show (_&&_)=true;kernel_rfl))
     have hlp:∃ st:Nat->List Int,st 0=acc++[c]/\(∀ i k,kids[i]?=some k->st (i+1)=wN (st i) k)/\(∀ i,(st i).length<=n+1+Re.wtL (kids.take i))/\st kids.length=wL (acc++[c]) kids:=
      ⟨fun i=>wL (acc++[c]) (kids.take i),rfl,fun i k h=>D5 h,fun i=>by
        have h1:=EG (kids.take i) (acc++[c]);have h2:=Re.sizeL_wt (kids.take i);have h3:(acc++[c]).length=n+1:=(show (acc++[c]).length=n+1 by rw[length_append,hn];rfl);simp only;omega,by simp⟩
     obtain⟨st,st0,stS,stl,stE⟩:=hlp;rw[<- stE];have h0l:n+1=(st 0).length:=by rw[st0];exact((show (acc++[c]).length=n+1 by rw[length_append,hn];rfl)).symm
     refine Af (M:=⟨some [37,36,3,0],none,[]⟩) (by rfl) kids.length (fun i=>(⟨49,[(37,I i),(36,I kids.length),(3,.rf 4 1 0 0),(0,.pt (nodeL 5 set kids mn mx md c neg))],nH (st i) (st i).length⟩:St)) (fun _=>True) ?_ ?_ trivial _ (by rw[<- h0l,st0];rfl)
     ·intro i hi _;obtain⟨k,hk⟩:∃ k,kids[i]?=some k:=⟨_,getElem?_eq_getElem hi⟩;have hkm:=mem_of_getElem? hk;have hl8:=AO k;have hli:=stl i;have hwi:=hwl i k hk;have hlt:(i:Int)<(kids.length:Int):=by omega
      have h88:=ih k hkm (st i) (st i).length rfl (by omega);rw[stS i k hk];generalize wN (st i) k=Z at *;generalize st i=X at *;simp +contextual -implicitDefEqProofs (disch:=omega) only[Tryz.f88,dd88,go_sem,simprocAttr,evAppend,map_append,mu88,↓AD,↓AC,↓AB,↓AA,hk,hl8,hlt,h88];repeat' (first|intro _|apply And.intro|(unfold dOk;kernel_rfl)|exact St.beq_refl _|exact AI|(show altO _ _ _ _=true;kernel_rfl)|(show (_||_)=true;kernel_rfl)|(show (_&&_)=true;kernel_rfl))
      rfl
     ·intro _;generalize st kids.length=X at *;simp +contextual -implicitDefEqProofs (disch:=omega) only[Tryz.f88,dd88,go_sem,simprocAttr,evAppend,map_append,mu88,↓AD,↓AC,↓AB,↓AA];exact rp _ _ _
   ·rw[if_neg h5];simp +contextual -implicitDefEqProofs (disch:=omega) only[Tryz.f88,dd88,go_sem,simprocAttr,evAppend,map_append,mu88,↓AD,↓AC,↓AB,↓AA];refine⟨by unfold dOk;kernel_rfl,?_⟩;have hlp:∃ st:Nat->List Int,st 0=acc/\(∀ i k,kids[i]?=some k->st (i+1)=wN (st i) k)/\(∀ i,(st i).length<=n+Re.wtL (kids.take i))/\st kids.length=wL (acc) kids:=
     ⟨fun i=>wL (acc) (kids.take i),rfl,fun i k h=>D5 h,fun i=>by
       have h1:=EG (kids.take i) (acc);have h2:=Re.sizeL_wt (kids.take i);have h3:(acc).length=n:=hn;simp only;omega,by simp⟩
    obtain⟨st,st0,stS,stl,stE⟩:=hlp;rw[<- stE];have h0l:n=(st 0).length:=by rw[st0];exact(hn).symm
    refine Af (M:=⟨some [37,36,3,0],none,[]⟩) (by rfl) kids.length (fun i=>(⟨49,[(37,I i),(36,I kids.length),(3,.rf 4 1 0 0),(0,.pt (nodeL op set kids mn mx md c neg))],nH (st i) (st i).length⟩:St)) (fun _=>True) ?_ ?_ trivial _ (by rw[<- h0l,st0];rfl)
    ·intro i hi _;obtain⟨k,hk⟩:∃ k,kids[i]?=some k:=⟨_,getElem?_eq_getElem hi⟩;have hkm:=mem_of_getElem? hk;have hl8:=AO k;have hli:=stl i;have hwi:=hwl i k hk;have hlt:(i:Int)<(kids.length:Int):=by omega
     have h88:=ih k hkm (st i) (st i).length rfl (by omega);rw[stS i k hk];generalize wN (st i) k=Z at *;generalize st i=X at *;simp +contextual -implicitDefEqProofs (disch:=omega) only[Tryz.f88,dd88,go_sem,simprocAttr,evAppend,map_append,mu88,↓AD,↓AC,↓AB,↓AA,hk,hl8,hlt,h88];repeat' (first|intro _|apply And.intro|(unfold dOk;kernel_rfl)|exact St.beq_refl _|exact AI|(show altO _ _ _ _=true;kernel_rfl)|(show (_||_)=true;kernel_rfl)|(show (_&&_)=true;kernel_rfl))
     rfl
    ·intro _;generalize st kids.length=X at *;simp +contextual -implicitDefEqProofs (disch:=omega) only[Tryz.f88,dd88,go_sem,simprocAttr,evAppend,map_append,mu88,↓AD,↓AC,↓AB,↓AA];exact rp _ _ _
theorem p38 (re:Re) (hw:re.wt<=1000000):∃ N:List Int,(N.length<=1000000/\∀ x,x∈N↔x∈capN re)/\∀ H,call Pg pol1 38 [reAV re] H=some (.sl false (N.map I),H):=by
 refine⟨wN [] re,⟨?_,fun x=>?_⟩,fun H=>?_⟩
 ·have h1:=Iq re [];have h2:=re.size_wt;simp at h1;omega
 ·rw[Ip];simp
 ·have h88:call Pg pol1 88 [.pt (reC re),.rf 3 1 0 0,.rf 0 1 0 0,.rf 4 1 0 0] [.row 1 [.ms 1 1 0 0 0] 0,.row 1 [] 0,.mp (.int .i64) [],.row 1 [.mpr 2] 0,.row 1 [.clo 88 [.rf 3 1 0 0,.rf 0 1 0 0,.rf 4 1 0 0]] 0]=_:=p88 re.wt re (Nat.le_refl _) [] 0 rfl (by omega);have hl8:=AO re;have ht8:=AP re;have hok:=AU re;refine AQ Tryz.func38 rfl rfl rfl rfl rfl rfl (fun _=>rfl) (by simp[AV.plain,AV.plainL,Aw]) (by simp[AV.plain,AF]) ?_ H;generalize wN [] re=N at *;simp +contextual -implicitDefEqProofs (disch:=omega) only[Tryz.f38,dd38,go_sem,simprocAttr,evAppend,map_append,mu38,↓AD,↓AC,↓AB,↓AA,h88,hl8,ht8,hok];exact⟨_,Eg (els:=N.map I) (z:=0) (k:=1) rfl (by rw[List.length_map]) (AF N)⟩
end
end Go.Ev
