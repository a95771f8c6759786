/- What functions of the program compute; no further conditions. -/
import Derived.Test.YtoocnmcbfkpdbaaGreatDoorP15
set_option linter.unusedVariables false
set_option linter.unusedSimpArgs false
open List (all_append append_nil getElem?_append_right getElem?_eq_getElem length_append length_cons length_eq_zero_iff length_map length_nil map_append map_replicate map_set map_take mem_of_getElem? take_of_length_le)
open Nat (le_refl zero_le)
open Go.Proofs Go.RowKit Go.IntWalk
set_option maxHeartbeats 8000000
set_option maxRecDepth 100000
namespace Go.Ev
attribute [local go_sem] evBin AV.cells BA BG bndO bnd evEq eqCells not_false_eq_true not_true_eq_false Ak Array.size_empty length_append tySzE List.head?_drop Nat.mul_one Al Az Ae Am An Go.IntWalk.i64_quo Go.IntWalk.rem_in Ap
section
attribute [local go_sem] evAppend map_append
def textP (p:Pat):List Int:=(if 0<p.caps/\p.caps ∉ capN p.re then [40,63,35]++digI 10 p.caps++[41] else [])++treeT p.re
def printP (p:Pat):List Int×Int:=if validP p≠0 then([],validP p) else if 2048<(textP p).length then([],4) else(textP p,0)
theorem Dl {p:Pat} (h:validP p=0):p.re.size<=256/\p.re.depth<=24/\0<=p.caps/\p.caps<=9/\wholeG p.caps (topI p.runes) p.re=true:=by
 unfold validP at h;split at h
 ·omega
 ·split at h
  ·omega
  ·rename_i h1 h2;refine⟨by omega,by omega,by omega,by omega,?_⟩;cases hq:wholeG p.caps (topI p.runes) p.re with
   | true=>rfl
   | false=>exact absurd (.inr (.inr hq)) h2
theorem p11 (p:Pat) (hw:p.re.wt<=1000000) (H:List MB):call Pg pol1 11 [patAV p] H=some (.tup [T (printP p).1,I (printP p).2],H):=by
 have h26:=f48 p hw;obtain⟨re,caps,runes⟩:=p;simp only at hw;have hpl:=Aa ⟨re,caps,runes⟩;have hl8:=AO re;have hget8:(reC re++[I caps,.bool runes])[8]?=some (I caps):=by rw[getElem?_append_right (by omega),hl8];rfl
 have hlen:(reC re).length+(0+1+1)=10:=by omega
 have ht8:List.take 8 (reC re++[I caps,.bool runes])=reC re:=by rw[List.take_append_of_le_length (by omega)];exact take_of_length_le (by omega)
 have ht10:List.take 10 (reC re++[I caps,.bool runes])=reC re++[I caps,.bool runes]:=take_of_length_le (by simp[hl8]);have hd8:List.drop 8 (reC re++[I caps,.bool runes])=[I caps,.bool runes]:=by
  rw[List.drop_append_of_le_length (by omega),List.drop_of_length_le (by omega)];rfl
 have hok:=AU re;have htr:=AP re;have hall:(patC ⟨re,caps,runes⟩).all AV.ok=true:=by simp[AU,AV.ok]
 refine AQ Tryz.func11 rfl rfl rfl rfl rfl rfl (fun _=>rfl) (by simp only[AV.plainL,AV.plain,Bool.and_true];exact hpl) rfl ?_ H;by_cases hv:validP ⟨re,caps,runes⟩=0
 ·obtain⟨hsz,hdp,hc0,hc9,hwg⟩:=Dl hv;simp only at hsz hdp hc0 hc9 hwg;have hpr:printP ⟨re,caps,runes⟩=if 2048<(textP ⟨re,caps,runes⟩).length then([],4) else(textP ⟨re,caps,runes⟩,0):=by
   unfold printP;rw[if_neg (by omega)]
  rw[hv]at h26;obtain⟨N,hNm,h38⟩:=p38 re (by omega);have hNl:=hNm.1;have h37:=p37 N caps (by omega);have h41:=w41 (by omega) (D6 runes) re.wt re (le_refl _) (by omega) hwg;have hdl:=A4 10 caps;have htl:=BQ re;by_cases hcd:0<caps/\caps ∉ capN re
  ·have htx:textP ⟨re,caps,runes⟩=40::63::35::(digI 10 caps++[41])++treeT re:=by
    unfold textP;rw[if_pos hcd];simp
   have h40:=p40 caps (by omega);have hdb:=Bs (b:=10) (by decide) caps;rw[decide_eq_false (fun h=>hcd.2 ((hNm.2 caps).1 h))]at h37;rw[hpr,htx];generalize digI 10 caps=D at *;have h39:=w39 [] (40::63::35::(D++[41])) (by simp) (by
    intro x hx;simp only[List.mem_cons,List.mem_append,List.not_mem_nil,or_false]at hx;rcases hx with rfl|rfl|rfl|hx|rfl<;>first|omega|exact hdb x hx) (by simp only[length_cons,length_append,length_nil];omega)
   rw[List.nil_append,Dk]at h39;have h41:=h41 (40::63::35::(D++[41])) (by simp only[length_cons,length_append,length_nil];omega);have hXl:(40::63::35::(D++[41])).length<=100:=by simp only[length_cons,length_append,length_nil];omega
   generalize hX:40::63::35::(D++[41])=X at *;have h42:=w42 (X++treeT re);obtain⟨H',h43⟩:=w43 (X++treeT re) (by rw[length_append];omega);generalize X++treeT re=Z at *;generalize PW Z=Y2 at *;generalize PW X=Y1 at *;by_cases h20:2048<Z.length
   ·rw[if_pos h20];simp +contextual -implicitDefEqProofs (disch:=omega) only[Tryz.f11,dd11,go_sem,simprocAttr,mu11,↓AD,↓AC,↓AB,↓AA,h26,hget8,hlen,ht8,ht10,hd8,hok,htr,hl8,h38,h37,h40,h39,hX,h41,h42,h43,evStrOp,AN,sapp,kS1,kS2,kS3,kS4,kS5,kS6,kS7,kS8,kS9,kS10,kS11,kS12,kS13,kS14,kS15,kS16,kS17,kS18,kS19,kS20,kS21,kS22,kS23,kS24,kS25,kS26,kS27,kS28,kS29,kS30,kS31,kS32,kS33,kS34,kS35,kS36,kS37,kS38];refine⟨hall,?_⟩;repeat' (first|intro _|apply And.intro|(unfold dOk;kernel_rfl)|exact St.beq_refl _|exact AI|(show altO _ _ _ _=true;kernel_rfl)|(show (_||_)=true;kernel_rfl)|(show (_&&_)=true;kernel_rfl))
    exact⟨_,rfl⟩
   ·rw[if_neg h20];simp +contextual -implicitDefEqProofs (disch:=omega) only[Tryz.f11,dd11,go_sem,simprocAttr,mu11,↓AD,↓AC,↓AB,↓AA,h26,hget8,hlen,ht8,ht10,hd8,hok,htr,hl8,h38,h37,h40,h39,hX,h41,h42,h43,evStrOp,AN,sapp,kS1,kS2,kS3,kS4,kS5,kS6,kS7,kS8,kS9,kS10,kS11,kS12,kS13,kS14,kS15,kS16,kS17,kS18,kS19,kS20,kS21,kS22,kS23,kS24,kS25,kS26,kS27,kS28,kS29,kS30,kS31,kS32,kS33,kS34,kS35,kS36,kS37,kS38];refine⟨hall,?_⟩;repeat' (first|intro _|apply And.intro|(unfold dOk;kernel_rfl)|exact St.beq_refl _|exact AI|(show altO _ _ _ _=true;kernel_rfl)|(show (_||_)=true;kernel_rfl)|(show (_&&_)=true;kernel_rfl))
    exact⟨_,rfl⟩
  ·have htx:textP ⟨re,caps,runes⟩=treeT re:=by
    unfold textP;rw[if_neg hcd];rfl
   rw[hpr,htx];have h41:=h41 [] (by simp;omega);rw[List.nil_append,Dk]at h41;have h42:=w42 (treeT re);obtain⟨H',h43⟩:=w43 (treeT re) (by omega);generalize treeT re=Z at *;generalize PW Z=Y2 at *;by_cases hc:0<caps
   ·rw[decide_eq_true ((hNm.2 caps).2 (Classical.byContradiction fun h=>hcd ⟨hc,h⟩))]at h37;by_cases h20:2048<Z.length
    ·rw[if_pos h20];simp +contextual -implicitDefEqProofs (disch:=omega) only[Tryz.f11,dd11,go_sem,simprocAttr,mu11,↓AD,↓AC,↓AB,↓AA,h26,hget8,hlen,ht8,ht10,hd8,hok,htr,hl8,h38,h37,  h41,h42,h43,evStrOp,AN,sapp,kS1,kS2,kS3,kS4,kS5,kS6,kS7,kS8,kS9,kS10,kS11,kS12,kS13,kS14,kS15,kS16,kS17,kS18,kS19,kS20,kS21,kS22,kS23,kS24,kS25,kS26,kS27,kS28,kS29,kS30,kS31,kS32,kS33,kS34,kS35,kS36,kS37,kS38];refine⟨hall,?_⟩;repeat' (first|intro _|apply And.intro|(unfold dOk;kernel_rfl)|exact St.beq_refl _|exact AI|(show altO _ _ _ _=true;kernel_rfl)|(show (_||_)=true;kernel_rfl)|(show (_&&_)=true;kernel_rfl))
     exact⟨_,rfl⟩
    ·rw[if_neg h20];simp +contextual -implicitDefEqProofs (disch:=omega) only[Tryz.f11,dd11,go_sem,simprocAttr,mu11,↓AD,↓AC,↓AB,↓AA,h26,hget8,hlen,ht8,ht10,hd8,hok,htr,hl8,h38,h37,  h41,h42,h43,evStrOp,AN,sapp,kS1,kS2,kS3,kS4,kS5,kS6,kS7,kS8,kS9,kS10,kS11,kS12,kS13,kS14,kS15,kS16,kS17,kS18,kS19,kS20,kS21,kS22,kS23,kS24,kS25,kS26,kS27,kS28,kS29,kS30,kS31,kS32,kS33,kS34,kS35,kS36,kS37,kS38];refine⟨hall,?_⟩;repeat' (first|intro _|apply And.intro|(unfold dOk;kernel_rfl)|exact St.beq_refl _|exact AI|(show altO _ _ _ _=true;kernel_rfl)|(show (_||_)=true;kernel_rfl)|(show (_&&_)=true;kernel_rfl))
     exact⟨_,rfl⟩
   ·by_cases h20:2048<Z.length
    ·rw[if_pos h20];simp +contextual -implicitDefEqProofs (disch:=omega) only[Tryz.f11,dd11,go_sem,simprocAttr,mu11,↓AD,↓AC,↓AB,↓AA,h26,hget8,hlen,ht8,ht10,hd8,hok,htr,hl8,h38,h37,  h41,h42,h43,evStrOp,AN,sapp,kS1,kS2,kS3,kS4,kS5,kS6,kS7,kS8,kS9,kS10,kS11,kS12,kS13,kS14,kS15,kS16,kS17,kS18,kS19,kS20,kS21,kS22,kS23,kS24,kS25,kS26,kS27,kS28,kS29,kS30,kS31,kS32,kS33,kS34,kS35,kS36,kS37,kS38];refine⟨hall,?_⟩;repeat' (first|intro _|apply And.intro|(unfold dOk;kernel_rfl)|exact St.beq_refl _|exact AI|(show altO _ _ _ _=true;kernel_rfl)|(show (_||_)=true;kernel_rfl)|(show (_&&_)=true;kernel_rfl))
     exact⟨_,rfl⟩
    ·rw[if_neg h20];simp +contextual -implicitDefEqProofs (disch:=omega) only[Tryz.f11,dd11,go_sem,simprocAttr,mu11,↓AD,↓AC,↓AB,↓AA,h26,hget8,hlen,ht8,ht10,hd8,hok,htr,hl8,h38,h37,  h41,h42,h43,evStrOp,AN,sapp,kS1,kS2,kS3,kS4,kS5,kS6,kS7,kS8,kS9,kS10,kS11,kS12,kS13,kS14,kS15,kS16,kS17,kS18,kS19,kS20,kS21,kS22,kS23,kS24,kS25,kS26,kS27,kS28,kS29,kS30,kS31,kS32,kS33,kS34,kS35,kS36,kS37,kS38];refine⟨hall,?_⟩;repeat' (first|intro _|apply And.intro|(unfold dOk;kernel_rfl)|exact St.beq_refl _|exact AI|(show altO _ _ _ _=true;kernel_rfl)|(show (_||_)=true;kernel_rfl)|(show (_&&_)=true;kernel_rfl))
     exact⟨_,rfl⟩
 ·have hpr:printP ⟨re,caps,runes⟩=([],validP ⟨re,caps,runes⟩):=by unfold printP;rw[if_pos hv]
  rw[hpr];generalize validP ⟨re,caps,runes⟩=e at *;simp +contextual -implicitDefEqProofs (disch:=omega) only[Tryz.f11,dd11,go_sem,simprocAttr,mu11,↓AD,↓AC,↓AB,↓AA,h26,hget8,hlen,ht8,ht10,hd8,hok,htr,hl8];exact⟨hall,_,rfl⟩
end
section
theorem t45 (l:List Int) (v:Int) (hl:l.length<=1000000) (H:List MB):call Pg pol1 45 [.sl false (l.map I),I v] H=some (.bool (decide (v∈l)),H):=by
 refine AQ Tryz.func45 rfl rfl rfl rfl rfl rfl (fun _=>rfl) (by simp[AV.plain,AV.plainL,AF]) rfl ?_ H;simp +contextual -implicitDefEqProofs (disch:=omega) only[Tryz.f45,dd45,go_sem,simprocAttr,evAppend,map_append,mu45,↓AD,↓AC,↓AB,↓AA];refine Af (M:=(mskOf (pol1.mask 45) (pol1.gc 45) (pol1.acts 45) 0 2)) rfl l.length (fun i=>(⟨18,[(5,I i),(1,I v),(0,.sl false (l.map I))],[]⟩:St)) (fun i=>∀ k,k<i->l[k]?≠some v) ?_ ?_ (fun k h=>by omega) _ (by first|rfl|(simp[keepT,AV.underL,AV.under,MB.under,AG,AJ,AH,AF,AE,AL,AM,-map_take,-map_replicate,-map_set];done))
 ·intro i hi hg;obtain⟨x,hx⟩:∃ x,l[i]?=some x:=⟨_,getElem?_eq_getElem hi⟩;by_cases e:x=v
  ·subst e;rw[decide_eq_true (mem_of_getElem? hx)];simp +contextual -implicitDefEqProofs (disch:=omega) only[Tryz.f45,dd45,go_sem,simprocAttr,evAppend,map_append,mu45,↓AD,↓AC,↓AB,↓AA,hx];exact⟨_,rfl⟩
  ·simp +contextual -implicitDefEqProofs (disch:=omega) only[Tryz.f45,dd45,go_sem,simprocAttr,evAppend,map_append,mu45,↓AD,↓AC,↓AB,↓AA,hx,e];refine⟨fun k hk e2=>?_,(by first|rfl|(simp[keepT,AV.underL,AV.under,MB.under,AG,AJ,AH,AF,AE,AL,AM,-map_take,-map_replicate,-map_set];done))⟩;by_cases h3:k=i
   ·subst h3;rw[hx]at e2;exact e (Option.some.inj e2)
   ·exact hg k (by omega) e2
 ·intro hg;have hn:v ∉ l:=fun h=>by
   obtain⟨i,hi,e⟩:=List.getElem_of_mem h;exact hg i hi (by rw[getElem?_eq_getElem hi,e])
  rw[decide_eq_false hn];simp +contextual -implicitDefEqProofs (disch:=omega) only[Tryz.f45,dd45,go_sem,simprocAttr,evAppend,map_append,mu45,↓AD,↓AC,↓AB,↓AA];exact⟨_,rfl⟩
theorem Hm {H:List MB}{i n z:Nat}{rs:List Int}{c:Int}{t:Bool} (hi:getRow1 H i=some (1,rs.map I,z)) (hn:rs.length=n) (hz:z<=n) (hr:n+1<=4000000000) :
  evAppend Pg H 22 22 (.ms i 1 n 0 n) (.sl t [I c])=some (.ms i 1 (n+1) 0 (n+1),H.set i (.row 1 ((rs++[c]).map I) z)):=by
 have hs:srcElems Pg H 3 (.sl t [I c])=some [I c]:=rfl;rw[BV (e:=3) (by kernel_rfl) (by kernel_rfl) (k:=1) (by kernel_rfl) (by_:=8) (by kernel_rfl) (ze:=I 0) (by kernel_rfl) rfl (by omega) hs rfl hi (by rw[length_map];exact hn) hz (Ap hr (by omega)),map_append];rfl
theorem t45m {rs:List Int}{n z:Nat} (v:Int) (hn:rs.length=n) (hz:z<=n) (hl:n<=1000000):call Pg pol1 45 [.ms 0 1 n 0 n,I v] [.row 1 (rs.map I) z]=some (.bool (decide (v∈rs)),[.row 1 (rs.map I) n]):=by
 subst hn;have h1:fz (.ms 0 1 rs.length 0 rs.length) [.row 1 (rs.map I) z]=some (.sl false (rs.map I),mark [.row 1 (rs.map I) z] 0 rs.length):=Eg (els:=rs.map I) (z:=z) (k:=1) rfl (by rw[length_map]) (AF rs);have h2:mark [.row 1 (rs.map I) z] 0 rs.length=[.row 1 (rs.map I) rs.length]:=by
  simp[mark,getRow];omega
 rw[h2]at h1;have h3:∀ H,fz (I v) H=some (I v,H):=fun H=>rfl;rw[Dh (l:=[.sl false (rs.map I),I v]) (H1:=[.row 1 (rs.map I) rs.length]) rfl (by simp only[frzArgs,h1,h3,show pol1.byref 45 0=false from rfl,show pol1.byref 45 1=false from rfl,Bool.false_eq_true,if_false]) (by simp[AV.plain,AV.plainL,AF])];exact t45 rs v hl _
theorem t46:∀(N:Nat) (r:Re),r.wt<=N->r.wt<=1000000->∀ H,call Pg pol1 46 [reAV r] H=some (.sl false ((numT r).map I),H)
 | 0,r,h,_=>by have:=r.wt_pos;omega
 | N+1,.mk op set kids mn mx md n neg,h,hN=>by
   intro H;have hwt:1+set.length+Re.wtL kids=(Re.mk op set kids mn mx md n neg).wt:=by simp[Re.wt]
   have ih:∀ k∈kids,k.wt<=1000000/\∀ H,call Pg pol1 46 [reAV k] H=some (.sl false ((numT k).map I),H):=fun k hk=>by
    have h1:=Re.wtL_mem hk;exact⟨by omega,t46 N k (by omega) (by omega)⟩
   have hkl:=Re.wtL_len kids;have hw:reAV (.mk op set kids mn mx md n neg)=.agg (nodeL op set kids mn mx md n neg):=congrArg AV.agg Ag;rw[hw,numT];refine AQ Tryz.func46 rfl rfl rfl rfl rfl rfl (fun _=>rfl) (by simp[AV.plain,AV.plainL,AE,AK]) (by simp[AV.plain,AF]) ?_ H;have hwl:∀ i k,kids[i]?=some k->Re.wtL (kids.take i)+k.wt<=Re.wtL kids:=fun i k h=>by
    have h1:Re.wtL (kids.take (i+1))<=Re.wtL kids:=by
     conv=>rhs;rw[<- List.take_append_drop (i+1) kids]
     induction (kids.take (i+1)) with
     | nil=>simp[Re.wtL]
     | cons a b ih=>simp only[List.cons_append,Re.wtL];omega
    rw[List.take_add_one,h]at h1;have h2:∀ a:List Re,Re.wtL (a++[k])=Re.wtL a+k.wt:=fun a=>by
     induction a with
     | nil=>simp[Re.wtL]
     | cons x a ih=>simp only[List.cons_append,Re.wtL,ih];omega
    rw[show (some k).toList=[k] from rfl,h2]at h1;exact h1
   have happ:=fun(rs:List Int) (c:Int) (t:Bool)=>Hm (H:=[.row 1 (rs.map I) 0]) (i:=0) (n:=rs.length) (z:=0) (rs:=rs) (c:=c) (t:=t) rfl rfl (zero_le _);have loop:∀(acc:List Int),acc.length<=1->∃ st:Nat->List Int,st 0=acc/\(∀ i k,kids[i]?=some k->st (i+1)=(numT k).foldl addN (st i))/\(∀ i,(st i).length<=1+Re.wtL (kids.take i))/\st kids.length=numL acc kids:=fun acc hal=>
    ⟨fun i=>numL acc (kids.take i),rfl,fun i k h=>FU h,fun i=>by
      have h1:=EV (kids.take i) acc;have h2:=Re.sizeL_wt (kids.take i);simp only;omega,by simp⟩
   by_cases h5:op=5
   ·subst h5;rw[if_pos rfl];obtain⟨st,st0,stS,stl,stE⟩:=loop [n] (by simp);rw[<- stE];have happ0:∀ t,evAppend Pg [.row 1 [] 0] 22 22 (.ms 0 1 0 0 0) (.sl t [I n])=some (.ms 0 1 1 0 1,[.row 1 [I n] 0]):=fun t=>happ [] n t (by simp);simp +contextual -implicitDefEqProofs (disch:=omega) only[Tryz.f46,dd46,go_sem,simprocAttr,map_append,mu46,↓AD,↓AC,↓AB,↓AA,happ0];refine E1 (σ:=Nat×Nat) (M:=(mskOf (pol1.mask 46) (pol1.gc 46) (pol1.acts 46) 0 5)) rfl (fun x=>(⟨49,[(4,I (x.1:Nat)),(3,.ms 0 1 (st x.1).length 0 (st x.1).length),(1,.pt (nodeL 5 set kids mn mx md n neg))],[.row 1 ((st x.1).map I) x.2]⟩:St)) (fun x=>x.1<=kids.length/\x.2<=(st x.1).length) (fun x=>kids.length-x.1) (0,0) ?_ ⟨zero_le _,zero_le _⟩ _ (by rw[st0];exact(by first|rfl|(refine AX (n:=1) (m:=⟨some [4,3,1],some 1,[]⟩) rfl rfl ?_ ?_ ?_<;>first|rfl|(simp[keepT,AV.underL,AV.under,MB.under,AG,AJ,AH,AF,AE,AL,AM,-map_take,-map_replicate,-map_set,AK];done)|(simp[keepT,AV.underL,AV.under,MB.under,AG,AJ,AH,AF,AE,AL,AM,-map_take,-map_replicate,-map_set,AK];omega))));rintro⟨i,z⟩ ⟨hi,hz⟩;simp only at hi hz |-;by_cases hie:i<kids.length
    ·obtain⟨k,hk⟩:∃ k,kids[i]?=some k:=⟨_,getElem?_eq_getElem hie⟩;have hkm:=mem_of_getElem? hk;obtain⟨hkw,h46⟩:=ih k hkm;have hl8:=AO k;have ht8:=AP k;have hli:=stl i;have hwi:=hwl i k hk;have hnt:=DO k;have hks:=k.size_wt;have hS:=stS i k hk;generalize hX:st i=X at *;generalize numT k=T0 at *;have hB:∃ B:Nat->List Int,B 0=X/\(∀ j x,T0[j]?=some x->B (j+1)=addN (B j) x)/\(∀ j,(B j).length<=X.length+j)/\B T0.length=T0.foldl addN X:=
      ⟨fun j=>(T0.take j).foldl addN X,rfl,fun j x h=>Ei h,fun j=>by
        have:=Cq (T0.take j) X;rw[List.length_take]at this;simp only;omega,by simp⟩
     obtain⟨B,B0,BS,Bl,BE⟩:=hB;simp +contextual -implicitDefEqProofs (disch:=omega) only[Tryz.f46,dd46,go_sem,simprocAttr,evAppend,map_append,mu46,↓AD,↓AC,↓AB,↓AA,hk,hl8,ht8,h46];refine E1 (σ:=Nat×Nat) (M:=(mskOf (pol1.mask 46) (pol1.gc 46) (pol1.acts 46) 0 9)) rfl (fun x=>(⟨49,[(6,I (x.1:Nat)),(5,.sl false (T0.map I)),(4,I i),(3,.ms 0 1 (B x.1).length 0 (B x.1).length),(1,.pt (nodeL 5 set kids mn mx md n neg))],[.row 1 ((B x.1).map I) x.2]⟩:St)) (fun x=>x.1<=T0.length/\x.2<=(B x.1).length) (fun x=>T0.length-x.1) (0,z) ?_ ⟨zero_le _,by simp only;rw[B0];exact hz⟩ _ (by rw[B0];exact(by first|rfl|(refine AX (n:=1) (m:=⟨some [6,5,4,3,1],some 1,[]⟩) rfl rfl ?_ ?_ ?_<;>first|rfl|(simp[keepT,AV.underL,AV.under,MB.under,AG,AJ,AH,AF,AE,AL,AM,-map_take,-map_replicate,-map_set,AK];done)|(simp[keepT,AV.underL,AV.under,MB.under,AG,AJ,AH,AF,AE,AL,AM,-map_take,-map_replicate,-map_set,AK];omega))));rintro⟨j,y⟩ ⟨hj,hy⟩;simp only at hj hy |-;by_cases hje:j<T0.length
     ·obtain⟨x,hx⟩:∃ x,T0[j]?=some x:=⟨_,getElem?_eq_getElem hje⟩;have hBj:=Bl j;have hBS:=BS j x hx;generalize B j=Y at *;have h45:=t45m (rs:=Y) (z:=y) x rfl hy (by omega);by_cases hm:x∈Y
      ·rw[decide_eq_true hm]at h45;have e:B (j+1)=Y:=by rw[hBS];exact if_pos hm
       simp +contextual -implicitDefEqProofs (disch:=omega) only[Tryz.f46,dd46,go_sem,simprocAttr,evAppend,map_append,mu46,↓AD,↓AC,↓AB,↓AA,hx,h45];refine⟨(j+1,Y.length),⟨by simp only;omega,by simp only;rw[e];exact le_refl _⟩,by simp only;omega,?_⟩;simp only;rw[e];exact(by first|rfl|(refine AX (n:=1) (m:=⟨some [6,5,4,3,1],some 1,[]⟩) rfl rfl ?_ ?_ ?_<;>first|rfl|(simp[keepT,AV.underL,AV.under,MB.under,AG,AJ,AH,AF,AE,AL,AM,-map_take,-map_replicate,-map_set,AK];done)|(simp[keepT,AV.underL,AV.under,MB.under,AG,AJ,AH,AF,AE,AL,AM,-map_take,-map_replicate,-map_set,AK];omega)))
      ·rw[decide_eq_false hm]at h45;have e:B (j+1)=Y++[x]:=by rw[hBS];exact if_neg hm
       have happ2:=fun t=>Hm (H:=[.row 1 (Y.map I) Y.length]) (i:=0) (n:=Y.length) (z:=Y.length) (rs:=Y) (c:=x) (t:=t) rfl rfl (le_refl _) (by omega);simp +contextual -implicitDefEqProofs (disch:=omega) only[Tryz.f46,dd46,go_sem,simprocAttr,mu46,↓AD,↓AC,↓AB,↓AA,hx,h45,happ2];refine⟨(j+1,Y.length),⟨by simp only;omega,by simp only;rw[e];simp⟩,by simp only;omega,?_⟩;simp only;rw[e,length_append];exact(by first|rfl|(refine AX (n:=1) (m:=⟨some [6,5,4,3,1],some 1,[]⟩) rfl rfl ?_ ?_ ?_<;>first|rfl|(simp[keepT,AV.underL,AV.under,MB.under,AG,AJ,AH,AF,AE,AL,AM,-map_take,-map_replicate,-map_set,AK];done)|(simp[keepT,AV.underL,AV.under,MB.under,AG,AJ,AH,AF,AE,AL,AM,-map_take,-map_replicate,-map_set,AK];omega)))
     ·have hje2:j=T0.length:=by omega
      subst hje2;rw[BE,<- hS]at hy |-;simp +contextual -implicitDefEqProofs (disch:=omega) only[Tryz.f46,dd46,go_sem,simprocAttr,evAppend,map_append,mu46,↓AD,↓AC,↓AB,↓AA];refine⟨(i+1,y),⟨by simp only;omega,by simp only;exact hy⟩,by simp only;omega,?_⟩;exact(by first|rfl|(refine AX (n:=1) (m:=⟨some [4,3,1],some 1,[]⟩) rfl rfl ?_ ?_ ?_<;>first|rfl|(simp[keepT,AV.underL,AV.under,MB.under,AG,AJ,AH,AF,AE,AL,AM,-map_take,-map_replicate,-map_set,AK];done)|(simp[keepT,AV.underL,AV.under,MB.under,AG,AJ,AH,AF,AE,AL,AM,-map_take,-map_replicate,-map_set,AK];omega)))
    ·have hie2:i=kids.length:=by omega
     subst hie2;generalize st kids.length=X at *;simp +contextual -implicitDefEqProofs (disch:=omega) only[Tryz.f46,dd46,go_sem,simprocAttr,evAppend,map_append,mu46,↓AD,↓AC,↓AB,↓AA];exact⟨_,Eg (els:=X.map I) (z:=z) (k:=1) rfl (by rw[length_map]) (AF X)⟩
   ·rw[if_neg h5];obtain⟨st,st0,stS,stl,stE⟩:=loop [] (by simp);rw[<- stE];simp +contextual -implicitDefEqProofs (disch:=omega) only[Tryz.f46,dd46,go_sem,simprocAttr,evAppend,map_append,mu46,↓AD,↓AC,↓AB,↓AA];refine E1 (σ:=Nat×Nat) (M:=(mskOf (pol1.mask 46) (pol1.gc 46) (pol1.acts 46) 0 5)) rfl (fun x=>(⟨49,[(4,I (x.1:Nat)),(3,.ms 0 1 (st x.1).length 0 (st x.1).length),(1,.pt (nodeL op set kids mn mx md n neg))],[.row 1 ((st x.1).map I) x.2]⟩:St)) (fun x=>x.1<=kids.length/\x.2<=(st x.1).length) (fun x=>kids.length-x.1) (0,0) ?_ ⟨zero_le _,zero_le _⟩ _ (by rw[st0];exact(by first|rfl|(refine AX (n:=1) (m:=⟨some [4,3,1],some 1,[]⟩) rfl rfl ?_ ?_ ?_<;>first|rfl|(simp[keepT,AV.underL,AV.under,MB.under,AG,AJ,AH,AF,AE,AL,AM,-map_take,-map_replicate,-map_set,AK];done)|(simp[keepT,AV.underL,AV.under,MB.under,AG,AJ,AH,AF,AE,AL,AM,-map_take,-map_replicate,-map_set,AK];omega))));rintro⟨i,z⟩ ⟨hi,hz⟩;simp only at hi hz |-;by_cases hie:i<kids.length
    ·obtain⟨k,hk⟩:∃ k,kids[i]?=some k:=⟨_,getElem?_eq_getElem hie⟩;have hkm:=mem_of_getElem? hk;obtain⟨hkw,h46⟩:=ih k hkm;have hl8:=AO k;have ht8:=AP k;have hli:=stl i;have hwi:=hwl i k hk;have hnt:=DO k;have hks:=k.size_wt;have hS:=stS i k hk;generalize hX:st i=X at *;generalize numT k=T0 at *;have hB:∃ B:Nat->List Int,B 0=X/\(∀ j x,T0[j]?=some x->B (j+1)=addN (B j) x)/\(∀ j,(B j).length<=X.length+j)/\B T0.length=T0.foldl addN X:=
      ⟨fun j=>(T0.take j).foldl addN X,rfl,fun j x h=>Ei h,fun j=>by
        have:=Cq (T0.take j) X;rw[List.length_take]at this;simp only;omega,by simp⟩
     obtain⟨B,B0,BS,Bl,BE⟩:=hB;simp +contextual -implicitDefEqProofs (disch:=omega) only[Tryz.f46,dd46,go_sem,simprocAttr,evAppend,map_append,mu46,↓AD,↓AC,↓AB,↓AA,hk,hl8,ht8,h46];refine E1 (σ:=Nat×Nat) (M:=(mskOf (pol1.mask 46) (pol1.gc 46) (pol1.acts 46) 0 9)) rfl (fun x=>(⟨49,[(6,I (x.1:Nat)),(5,.sl false (T0.map I)),(4,I i),(3,.ms 0 1 (B x.1).length 0 (B x.1).length),(1,.pt (nodeL op set kids mn mx md n neg))],[.row 1 ((B x.1).map I) x.2]⟩:St)) (fun x=>x.1<=T0.length/\x.2<=(B x.1).length) (fun x=>T0.length-x.1) (0,z) ?_ ⟨zero_le _,by simp only;rw[B0];exact hz⟩ _ (by rw[B0];exact(by first|rfl|(refine AX (n:=1) (m:=⟨some [6,5,4,3,1],some 1,[]⟩) rfl rfl ?_ ?_ ?_<;>first|rfl|(simp[keepT,AV.underL,AV.under,MB.under,AG,AJ,AH,AF,AE,AL,AM,-map_take,-map_replicate,-map_set,AK];done)|(simp[keepT,AV.underL,AV.under,MB.under,AG,AJ,AH,AF,AE,AL,AM,-map_take,-map_replicate,-map_set,AK];omega))));rintro⟨j,y⟩ ⟨hj,hy⟩;simp only at hj hy |-;by_cases hje:j<T0.length
     ·obtain⟨x,hx⟩:∃ x,T0[j]?=some x:=⟨_,getElem?_eq_getElem hje⟩;have hBj:=Bl j;have hBS:=BS j x hx;generalize B j=Y at *;have h45:=t45m (rs:=Y) (z:=y) x rfl hy (by omega);by_cases hm:x∈Y
      ·rw[decide_eq_true hm]at h45;have e:B (j+1)=Y:=by rw[hBS];exact if_pos hm
       simp +contextual -implicitDefEqProofs (disch:=omega) only[Tryz.f46,dd46,go_sem,simprocAttr,evAppend,map_append,mu46,↓AD,↓AC,↓AB,↓AA,hx,h45];refine⟨(j+1,Y.length),⟨by simp only;omega,by simp only;rw[e];exact le_refl _⟩,by simp only;omega,?_⟩;simp only;rw[e];exact(by first|rfl|(refine AX (n:=1) (m:=⟨some [6,5,4,3,1],some 1,[]⟩) rfl rfl ?_ ?_ ?_<;>first|rfl|(simp[keepT,AV.underL,AV.under,MB.under,AG,AJ,AH,AF,AE,AL,AM,-map_take,-map_replicate,-map_set,AK];done)|(simp[keepT,AV.underL,AV.under,MB.under,AG,AJ,AH,AF,AE,AL,AM,-map_take,-map_replicate,-map_set,AK];omega)))
      ·rw[decide_eq_false hm]at h45;have e:B (j+1)=Y++[x]:=by rw[hBS];exact if_neg hm
       have happ2:=fun t=>Hm (H:=[.row 1 (Y.map I) Y.length]) (i:=0) (n:=Y.length) (z:=Y.length) (rs:=Y) (c:=x) (t:=t) rfl rfl (le_refl _) (by omega);simp +contextual -implicitDefEqProofs (disch:=omega) only[Tryz.f46,dd46,go_sem,simprocAttr,mu46,↓AD,↓AC,↓AB,↓AA,hx,h45,happ2];refine⟨(j+1,Y.length),⟨by simp only;omega,by simp only;rw[e];simp⟩,by simp only;omega,?_⟩;simp only;rw[e,length_append];exact(by first|rfl|(refine AX (n:=1) (m:=⟨some [6,5,4,3,1],some 1,[]⟩) rfl rfl ?_ ?_ ?_<;>first|rfl|(simp[keepT,AV.underL,AV.under,MB.under,AG,AJ,AH,AF,AE,AL,AM,-map_take,-map_replicate,-map_set,AK];done)|(simp[keepT,AV.underL,AV.under,MB.under,AG,AJ,AH,AF,AE,AL,AM,-map_take,-map_replicate,-map_set,AK];omega)))
     ·have hje2:j=T0.length:=by omega
      subst hje2;rw[BE,<- hS]at hy |-;simp +contextual -implicitDefEqProofs (disch:=omega) only[Tryz.f46,dd46,go_sem,simprocAttr,evAppend,map_append,mu46,↓AD,↓AC,↓AB,↓AA];refine⟨(i+1,y),⟨by simp only;omega,by simp only;exact hy⟩,by simp only;omega,?_⟩;exact(by first|rfl|(refine AX (n:=1) (m:=⟨some [4,3,1],some 1,[]⟩) rfl rfl ?_ ?_ ?_<;>first|rfl|(simp[keepT,AV.underL,AV.under,MB.under,AG,AJ,AH,AF,AE,AL,AM,-map_take,-map_replicate,-map_set,AK];done)|(simp[keepT,AV.underL,AV.under,MB.under,AG,AJ,AH,AF,AE,AL,AM,-map_take,-map_replicate,-map_set,AK];omega)))
    ·have hie2:i=kids.length:=by omega
     subst hie2;generalize st kids.length=X at *;simp +contextual -implicitDefEqProofs (disch:=omega) only[Tryz.f46,dd46,go_sem,simprocAttr,evAppend,map_append,mu46,↓AD,↓AC,↓AB,↓AA];exact⟨_,Eg (els:=X.map I) (z:=z) (k:=1) rfl (by rw[length_map]) (AF X)⟩
end
section
attribute [local go_sem] evAppend map_append
theorem f150 (op:Int) (H:List MB):call Pg pol1 161 [I op] H =
  some (.tup [I (if op=2∨op=3 then 2 else if op=4∨op=5∨op=7∨op=8∨op=9 then 1 else if op=10 then 2 else 0),I (if op=2∨op=3 then -1 else if op=4∨op=5∨op=7∨op=8∨op=9 then 1 else if op=10 then 2 else 0)],H):=by
 refine AQ Tryz.func161 rfl rfl rfl rfl rfl rfl (fun _=>rfl) rfl rfl ?_ H;by_cases h1:op=2∨op=3
 ·rw[if_pos h1,if_pos h1];rcases h1 with rfl|rfl
  all_goals (
   simp +contextual -implicitDefEqProofs (disch:=omega) only[Tryz.f161,IB,go_sem,simprocAttr,H0,↓AD,↓AC,↓AB,↓AA];exact fzEq rfl rfl)
 ·rw[if_neg h1,if_neg h1];by_cases h2:op=4∨op=5∨op=7∨op=8∨op=9
  ·rw[if_pos h2];rcases h2 with rfl|rfl|rfl|rfl|rfl
   all_goals (
    simp +contextual -implicitDefEqProofs (disch:=omega) only[Tryz.f161,IB,go_sem,simprocAttr,H0,↓AD,↓AC,↓AB,↓AA];exact fzEq rfl rfl)
  ·rw[if_neg h2];by_cases h3:op=10
   ·rw[if_pos h3];subst h3;simp +contextual -implicitDefEqProofs (disch:=omega) only[Tryz.f161,IB,go_sem,simprocAttr,H0,↓AD,↓AC,↓AB,↓AA];exact fzEq rfl rfl
   ·rw[if_neg h3];simp +contextual -implicitDefEqProofs (disch:=omega) only[Tryz.f161,IB,go_sem,simprocAttr,H0,↓AD,↓AC,↓AB,↓AA];exact fzEq rfl rfl
theorem f151 (l:List (Int×Int)) (top:Int) (ht:top<=1114111) (hl:l.length<=1000000) (H:List MB):call Pg pol1 162 [.sl false (l.map spanAV),I top] H=some (.bool (spansG l top),H):=by
 refine AQ Tryz.func162 rfl rfl rfl rfl rfl rfl (fun _=>rfl) (by simp[AV.plain,AV.plainL,AE]) rfl ?_ H;by_cases h64:64<l.length
 ·rw[Dm h64];simp +contextual -implicitDefEqProofs (disch:=omega) only[Tryz.f162,Eo,go_sem,simprocAttr,EZ,↓AD,↓AC,↓AB,↓AA];exact fzEq rfl rfl
 ·simp +contextual -implicitDefEqProofs (disch:=omega) only[Tryz.f162,Eo,go_sem,simprocAttr,EZ,↓AD,↓AC,↓AB,↓AA];refine Af (M:=(mskOf (pol1.mask 162) (pol1.gc 162) (pol1.acts 162) 0 4)) rfl l.length (fun i=>(⟨62,[(5,I i),(1,I top),(0,.sl false (l.map spanAV))],[]⟩:St)) (fun i=>∀ k,k<i->badS l top k=false) ?_ ?_ (fun k h=>by omega) _ (by first|rfl|(refine AX (n:=0) (m:=⟨some [5,1,0],some 0,[]⟩) rfl rfl ?_ ?_ ?_<;>first|rfl|(simp[keepT,AV.underL,AV.under,MB.under,AG,AJ,AH,AF,AE,AL,AM,-map_take,-map_replicate,-map_set];done)|(simp[keepT,AV.underL,AV.under,MB.under,AG,AJ,AH,AF,AE,AL,AM,-map_take,-map_replicate,-map_set];omega)))
  ·intro i hlt hg;obtain⟨p,hp⟩:∃ p,l[i]?=some p:=⟨_,getElem?_eq_getElem hlt⟩;have ext:badS l top i=false->∀ k,k<i+1->badS l top k=false:=fun h k hk=>by
    rcases Nat.lt_or_ge k i with h1|h1
    ·exact hg k h1
    ·obtain rfl:k=i:=by omega
     exact h
   by_cases hgd:p.1<0∨p.2<p.1∨top<p.2
   ·rw[CO hlt (IE hp hgd)];have hgd':p.1<0∨(¬ p.1<0/\p.2<p.1)∨(¬ p.1<0/\¬ p.2<p.1/\top<p.2):=by omega
    rcases hgd' with h|⟨h,h'⟩|⟨h,h',h''⟩
    all_goals (
     simp +contextual -implicitDefEqProofs (disch:=omega) only[Tryz.f162,Eo,go_sem,simprocAttr,EZ,↓AD,↓AC,↓AB,↓AA,hp,spanAV];repeat' (first|intro _|apply And.intro|(unfold dOk;kernel_rfl)|exact St.beq_refl _|exact AI|(show altO _ _ _ _=true;kernel_rfl)|(show (_||_)=true;kernel_rfl)|(show (_&&_)=true;kernel_rfl))
     all_goals exact fzEq rfl rfl)
   ·rcases i with _|i
    ·simp +contextual -implicitDefEqProofs (disch:=omega) only[Tryz.f162,Eo,go_sem,simprocAttr,EZ,↓AD,↓AC,↓AB,↓AA,hp,spanAV];repeat' (first|intro _|apply And.intro|(unfold dOk;kernel_rfl)|exact St.beq_refl _|exact AI|(show altO _ _ _ _=true;kernel_rfl)|(show (_||_)=true;kernel_rfl)|(show (_&&_)=true;kernel_rfl))
     ·exact ext (Fl hp hgd) _ ‹_›
     ·exact(by first|rfl|(refine AX (n:=0) (m:=⟨some [5,1,0],some 0,[]⟩) rfl rfl ?_ ?_ ?_<;>first|rfl|(simp[keepT,AV.underL,AV.under,MB.under,AG,AJ,AH,AF,AE,AL,AM,-map_take,-map_replicate,-map_set];done)|(simp[keepT,AV.underL,AV.under,MB.under,AG,AJ,AH,AF,AE,AL,AM,-map_take,-map_replicate,-map_set];omega)))
    ·obtain⟨q,hq⟩:∃ q,l[i]?=some q:=⟨_,getElem?_eq_getElem (by omega)⟩;have hqb:=IF hq (hg i (by omega));have hb:=Fm hp hq hgd;by_cases h2:p.1<q.2+2
     ·rw[CO hlt (by rw[hb];simp[h2])];simp +contextual -implicitDefEqProofs (disch:=omega) only[Tryz.f162,Eo,go_sem,simprocAttr,EZ,↓AD,↓AC,↓AB,↓AA,hp,hq,spanAV];repeat' (first|intro _|apply And.intro|(unfold dOk;kernel_rfl)|exact St.beq_refl _|exact AI|(show altO _ _ _ _=true;kernel_rfl)|(show (_||_)=true;kernel_rfl)|(show (_&&_)=true;kernel_rfl))
      all_goals exact fzEq rfl rfl
     ·simp +contextual -implicitDefEqProofs (disch:=omega) only[Tryz.f162,Eo,go_sem,simprocAttr,EZ,↓AD,↓AC,↓AB,↓AA,hp,hq,spanAV];repeat' (first|intro _|apply And.intro|(unfold dOk;kernel_rfl)|exact St.beq_refl _|exact AI|(show altO _ _ _ _=true;kernel_rfl)|(show (_||_)=true;kernel_rfl)|(show (_&&_)=true;kernel_rfl))
      ·exact ext (by rw[hb];simp[h2]) _ ‹_›
      ·exact(by first|rfl|(refine AX (n:=0) (m:=⟨some [5,1,0],some 0,[]⟩) rfl rfl ?_ ?_ ?_<;>first|rfl|(simp[keepT,AV.underL,AV.under,MB.under,AG,AJ,AH,AF,AE,AL,AM,-map_take,-map_replicate,-map_set];done)|(simp[keepT,AV.underL,AV.under,MB.under,AG,AJ,AH,AF,AE,AL,AM,-map_take,-map_replicate,-map_set];omega)))
  ·intro hg;rw[Dn (by omega) hg];simp +contextual -implicitDefEqProofs (disch:=omega) only[Tryz.f162,Eo,go_sem,simprocAttr,EZ,↓AD,↓AC,↓AB,↓AA];exact fzEq rfl rfl
theorem f135 (caps top:Int) (ht:top<=1114111) (op:Int) (set:List (Int×Int)) (kids:List Re) (mn mx md n:Int) (neg:Bool) (hs:set.length<=1000000) (hk:kids.length<=1000000) (H:List MB) :
  call Pg pol1 133 [.agg (nodeL op set kids mn mx md n neg),I caps,I top] H=some (.bool (formedG caps top (.mk op set kids mn mx md n neg)),H):=by
 refine AQ Tryz.func133 rfl rfl rfl rfl rfl rfl (fun _=>rfl) (by simp[AV.plain,AV.plainL,AE,AK]) rfl ?_ H;have h151:=f151 set top ht hs;have h150:=f150 op;by_cases h0:op<0∨11<op
 ·have e:formedG caps top (.mk op set kids mn mx md n neg)=false:=by
   have:¬ (0<=op/\op<=11):=by omega
   simp only[formedG,Bool.and_eq_false_iff,decide_eq_false_iff_not];omega
  rw[e];have h0':op<0∨(¬ op<0/\11<op):=by omega
  rcases h0' with h|⟨h,h'⟩
  all_goals (
   simp +contextual -implicitDefEqProofs (disch:=omega) only[Tryz.f133,Jn,go_sem,simprocAttr,JQ,↓AD,↓AC,↓AB,↓AA,h150];repeat' (first|intro _|apply And.intro|(unfold dOk;kernel_rfl)|exact St.beq_refl _|exact AI|(show altO _ _ _ _=true;kernel_rfl)|(show (_||_)=true;kernel_rfl)|(show (_&&_)=true;kernel_rfl))
   all_goals exact fzEq rfl rfl)
 have hop:op=1∨op=4∨op=0∨op=2∨op=3∨op=5∨op=6∨op=7∨op=8∨op=9∨op=10∨op=11:=by omega
 clear h0;rcases hop with rfl|rfl|rfl|rfl|rfl|rfl|rfl|rfl|rfl|rfl|rfl|rfl
 ·cases hsp:spansG set top
  all_goals (
   rw[hsp]at h151;simp at h150;cases neg <;>
   simp +contextual -implicitDefEqProofs (disch:=omega) only[Tryz.f133,Jn,go_sem,simprocAttr,JQ,↓AD,↓AC,↓AB,↓AA,h150,h151];repeat' (first|intro _|apply And.intro|(unfold dOk;kernel_rfl)|exact St.beq_refl _|exact AI|(show altO _ _ _ _=true;kernel_rfl)|(show (_||_)=true;kernel_rfl)|(show (_&&_)=true;kernel_rfl))
   all_goals (clear h151 h150;refine fzEq rfl (congrArg AV.bool ?_);first|(simp_all [formedG,kidsG,repG,-length_eq_zero_iff];done)|(simp_all [formedG,kidsG,repG,-length_eq_zero_iff];omega)))
 all_goals (
  simp at h150;cases neg <;>
  simp +contextual -implicitDefEqProofs (disch:=omega) only[Tryz.f133,Jn,go_sem,simprocAttr,JQ,↓AD,↓AC,↓AB,↓AA,h150];repeat' (first|intro _|apply And.intro|(unfold dOk;kernel_rfl)|exact St.beq_refl _|exact AI|(show altO _ _ _ _=true;kernel_rfl)|(show (_||_)=true;kernel_rfl)|(show (_&&_)=true;kernel_rfl))
  all_goals (clear h151 h150;refine fzEq rfl (congrArg AV.bool ?_);first|(simp_all [formedG,kidsG,repG,-length_eq_zero_iff];done)|(simp_all [formedG,kidsG,repG,-length_eq_zero_iff];omega)))
end
section
attribute [local go_sem] evAppend map_append
theorem f114 (caps top:Int) (ht:top<=1114111):∀(N:Nat) (r:Re),r.wt<=N->r.wt<=1000000->∀ H,call Pg pol1 100 [reAV r,I caps,I top] H=some (.bool (wholeG caps top r),H)
 | 0,r,h,_,_=>by have:=r.wt_pos;omega
 | N+1,.mk op set kids mn mx md n neg,h,hN,H=>by
   have hkl:=Re.wtL_len kids;have hwt:1+set.length+Re.wtL kids=(Re.mk op set kids mn mx md n neg).wt:=by simp[Re.wt]
   have ih:=fun k (hk:k∈kids)=>f114 caps top ht N k (by have:=Re.wtL_mem hk;omega) (by have:=Re.wtL_mem hk;omega);have h135:=f135 caps top ht op set kids mn mx md n neg (by omega) (by omega);rw[show reAV (.mk op set kids mn mx md n neg)=.agg (nodeL op set kids mn mx md n neg) from congrArg AV.agg Ag];refine AQ Tryz.func100 rfl rfl rfl rfl rfl rfl (fun _=>rfl) (by simp[AV.plain,AV.plainL,AE,AK]) rfl ?_ H;rw[wholeG];cases hfg:formedG caps top (.mk op set kids mn mx md n neg) with
   | false=>
     rw[hfg]at h135;simp +contextual (disch:=omega) only[Tryz.f100,Gv,go_sem,simprocAttr,Gb,↓AD,↓AC,↓AB,↓AA,h135];exact fzEq rfl rfl
   | true=>
     rw[hfg]at h135;simp +contextual (disch:=omega) only[Tryz.f100,Gv,go_sem,simprocAttr,Gb,↓AD,↓AC,↓AB,↓AA,h135];refine Af (M:=(mskOf (pol1.mask 100) (pol1.gc 100) (pol1.acts 100) 0 4)) rfl kids.length (fun i=>(⟨29,[(7,I i),(3,.rf 0 1 0 0),(2,I top),(1,I caps)],[.row 8 [.agg (nodeL op set kids mn mx md n neg)] 0]⟩:St)) (fun i=>wholeL caps top (kids.take i)=true) ?_ ?_ (by simp[wholeL]) _ (by first|rfl|(refine AX (n:=1) (m:=⟨some [7,3,2,1],some 1,[]⟩) rfl rfl ?_ ?_ ?_<;>first|rfl|(simp[keepT,AV.underL,AV.under,MB.under,AG,AJ,AH,AF,AE,AL,AM,-map_take,-map_replicate,-map_set,AK];done)|(simp[keepT,AV.underL,AV.under,MB.under,AG,AJ,AH,AF,AE,AL,AM,-map_take,-map_replicate,-map_set,AK];omega)))
     ·intro i hi hg;obtain⟨k,hk⟩:∃ k,kids[i]?=some k:=⟨_,getElem?_eq_getElem hi⟩;have ihk:=ih k (mem_of_getElem? hk);have hl8:=AO k;have ht8:=AP k;have e3:=CV (caps:=caps) (top:=top) hk;cases hn:wholeG caps top k with
      | false=>
        rw[hn]at ihk;have hf:wholeL caps top kids=false:=by
         rw[Bool.eq_false_iff];intro hw;rw[CN]at hw;have:=hw k (mem_of_getElem? hk);rw[hn]at this;cases this
        rw[hf];simp +contextual (disch:=omega) only[Tryz.f100,Gv,go_sem,simprocAttr,Gb,↓AD,↓AC,↓AB,↓AA,hk,ihk,hl8,ht8];exact fzEq rfl rfl
      | true=>
        rw[hn]at ihk;rw[e3,hg,hn];simp +contextual (disch:=omega) only[Tryz.f100,Gv,go_sem,simprocAttr,Gb,↓AD,↓AC,↓AB,↓AA,hk,ihk,hl8,ht8];exact(by first|rfl|(refine AX (n:=1) (m:=⟨some [7,3,2,1],some 1,[]⟩) rfl rfl ?_ ?_ ?_<;>first|rfl|(simp[keepT,AV.underL,AV.under,MB.under,AG,AJ,AH,AF,AE,AL,AM,-map_take,-map_replicate,-map_set,AK];done)|(simp[keepT,AV.underL,AV.under,MB.under,AG,AJ,AH,AF,AE,AL,AM,-map_take,-map_replicate,-map_set,AK];omega)))
     ·intro hg;rw[List.take_length]at hg;rw[hg];simp +contextual (disch:=omega) only[Tryz.f100,Gv,go_sem,simprocAttr,Gb,↓AD,↓AC,↓AB,↓AA];exact fzEq rfl rfl
theorem f52 (p:Pat) (hw:p.re.wt<=1000000) (H:List MB):call Pg pol1 44 [patAV p] H=some (I (validP p),H):=by
 obtain⟨re,caps,runes⟩:=p;simp only at hw;refine AQ Tryz.func44 rfl rfl rfl rfl rfl rfl (fun _=>rfl) (by simp[AV.plainL,AV.plain];exact Aa _) rfl ?_ H;have hl8:=AO re;have hget8:(reC re++[I caps,.bool runes])[8]?=some (I caps):=by rw[getElem?_append_right (by omega),hl8];rfl
 have hget9:(reC re++[I caps,.bool runes])[9]?=some (.bool runes):=by rw[getElem?_append_right (by omega),hl8];rfl
 have htk8:∀ l,List.take 8 (reC re++l)=reC re:=fun l=>by
  rw[List.take_append_of_le_length (by omega)];exact take_of_length_le (by omega)
 have hall:=AU re;have h112:=f112 re.wt re (le_refl _) (by omega);have h113:=f113 re.wt re (le_refl _) (by omega);have h114:=f114 caps (topI runes) (D6 runes) re.wt re (le_refl _) hw;have hsw:=re.size_wt;cases runes
 ·rw[show topI false=255 from rfl]at h114;by_cases h1:256<re.size
  ·rw[show validP ⟨re,caps,false⟩=4 from if_pos (.inl h1)];simp +contextual (disch:=omega) only[Tryz.f44,dd44,go_sem,simprocAttr,mu44,↓AD,↓AC,↓AB,↓AA,hl8,hget8,hget9,h112,h113,hall,htk8,all_append];repeat' (first|intro _|apply And.intro|(unfold dOk;kernel_rfl)|exact St.beq_refl _|exact AI|(show altO _ _ _ _=true;kernel_rfl)|(show (_||_)=true;kernel_rfl)|(show (_&&_)=true;kernel_rfl))
   all_goals exact fzEq rfl rfl
  by_cases h2:24<re.depth
  ·rw[show validP ⟨re,caps,false⟩=4 from if_pos (.inr h2)];simp +contextual (disch:=omega) only[Tryz.f44,dd44,go_sem,simprocAttr,mu44,↓AD,↓AC,↓AB,↓AA,hl8,hget8,hget9,h112,h113,hall,htk8,all_append];repeat' (first|intro _|apply And.intro|(unfold dOk;kernel_rfl)|exact St.beq_refl _|exact AI|(show altO _ _ _ _=true;kernel_rfl)|(show (_||_)=true;kernel_rfl)|(show (_&&_)=true;kernel_rfl))
   all_goals exact fzEq rfl rfl
  have hno:¬ (256<re.size∨24<re.depth):=by omega
  have hcp:(caps<0)∨(¬ caps<0/\9<caps)∨(¬ caps<0/\¬ 9<caps):=by omega
  rcases hcp with h3|⟨h3,h4⟩|⟨h3,h4⟩
  ·rw[show validP ⟨re,caps,false⟩=1 from(if_neg hno).trans (if_pos (.inl h3))];simp +contextual (disch:=omega) only[Tryz.f44,dd44,go_sem,simprocAttr,mu44,↓AD,↓AC,↓AB,↓AA,hl8,hget8,hget9,h112,h113,hall,htk8,all_append];repeat' (first|intro _|apply And.intro|(unfold dOk;kernel_rfl)|exact St.beq_refl _|exact AI|(show altO _ _ _ _=true;kernel_rfl)|(show (_||_)=true;kernel_rfl)|(show (_&&_)=true;kernel_rfl))
   all_goals exact fzEq rfl rfl
  ·rw[show validP ⟨re,caps,false⟩=1 from(if_neg hno).trans (if_pos (.inr (.inl h4)))];simp +contextual (disch:=omega) only[Tryz.f44,dd44,go_sem,simprocAttr,mu44,↓AD,↓AC,↓AB,↓AA,hl8,hget8,hget9,h112,h113,hall,htk8,all_append];repeat' (first|intro _|apply And.intro|(unfold dOk;kernel_rfl)|exact St.beq_refl _|exact AI|(show altO _ _ _ _=true;kernel_rfl)|(show (_||_)=true;kernel_rfl)|(show (_&&_)=true;kernel_rfl))
   all_goals exact fzEq rfl rfl
  ·cases hwg:wholeG caps 255 re with
   | true=>
     rw[hwg]at h114;rw[show validP ⟨re,caps,false⟩=0 from(if_neg hno).trans (if_neg (by simp only[topI,Bool.false_eq_true,if_false,if_true,hwg];simp;omega))];simp +contextual (disch:=omega) only[Tryz.f44,dd44,go_sem,simprocAttr,mu44,↓AD,↓AC,↓AB,↓AA,hl8,hget8,hget9,h112,h113,h114,hall,htk8,all_append];repeat' (first|intro _|apply And.intro|(unfold dOk;kernel_rfl)|exact St.beq_refl _|exact AI|(show altO _ _ _ _=true;kernel_rfl)|(show (_||_)=true;kernel_rfl)|(show (_&&_)=true;kernel_rfl))
     all_goals exact fzEq rfl rfl
   | false=>
     rw[hwg]at h114;rw[show validP ⟨re,caps,false⟩=1 from(if_neg hno).trans (if_pos (.inr (.inr hwg)))];simp +contextual (disch:=omega) only[Tryz.f44,dd44,go_sem,simprocAttr,mu44,↓AD,↓AC,↓AB,↓AA,hl8,hget8,hget9,h112,h113,h114,hall,htk8,all_append];repeat' (first|intro _|apply And.intro|(unfold dOk;kernel_rfl)|exact St.beq_refl _|exact AI|(show altO _ _ _ _=true;kernel_rfl)|(show (_||_)=true;kernel_rfl)|(show (_&&_)=true;kernel_rfl))
     all_goals exact fzEq rfl rfl
 ·rw[show topI true=1114111 from rfl]at h114;by_cases h1:256<re.size
  ·rw[show validP ⟨re,caps,true⟩=4 from if_pos (.inl h1)];simp +contextual (disch:=omega) only[Tryz.f44,dd44,go_sem,simprocAttr,mu44,↓AD,↓AC,↓AB,↓AA,hl8,hget8,hget9,h112,h113,hall,htk8,all_append];repeat' (first|intro _|apply And.intro|(unfold dOk;kernel_rfl)|exact St.beq_refl _|exact AI|(show altO _ _ _ _=true;kernel_rfl)|(show (_||_)=true;kernel_rfl)|(show (_&&_)=true;kernel_rfl))
   all_goals exact fzEq rfl rfl
  by_cases h2:24<re.depth
  ·rw[show validP ⟨re,caps,true⟩=4 from if_pos (.inr h2)];simp +contextual (disch:=omega) only[Tryz.f44,dd44,go_sem,simprocAttr,mu44,↓AD,↓AC,↓AB,↓AA,hl8,hget8,hget9,h112,h113,hall,htk8,all_append];repeat' (first|intro _|apply And.intro|(unfold dOk;kernel_rfl)|exact St.beq_refl _|exact AI|(show altO _ _ _ _=true;kernel_rfl)|(show (_||_)=true;kernel_rfl)|(show (_&&_)=true;kernel_rfl))
   all_goals exact fzEq rfl rfl
  have hno:¬ (256<re.size∨24<re.depth):=by omega
  have hcp:(caps<0)∨(¬ caps<0/\9<caps)∨(¬ caps<0/\¬ 9<caps):=by omega
  rcases hcp with h3|⟨h3,h4⟩|⟨h3,h4⟩
  ·rw[show validP ⟨re,caps,true⟩=1 from(if_neg hno).trans (if_pos (.inl h3))];simp +contextual (disch:=omega) only[Tryz.f44,dd44,go_sem,simprocAttr,mu44,↓AD,↓AC,↓AB,↓AA,hl8,hget8,hget9,h112,h113,hall,htk8,all_append];repeat' (first|intro _|apply And.intro|(unfold dOk;kernel_rfl)|exact St.beq_refl _|exact AI|(show altO _ _ _ _=true;kernel_rfl)|(show (_||_)=true;kernel_rfl)|(show (_&&_)=true;kernel_rfl))
   all_goals exact fzEq rfl rfl
  ·rw[show validP ⟨re,caps,true⟩=1 from(if_neg hno).trans (if_pos (.inr (.inl h4)))];simp +contextual (disch:=omega) only[Tryz.f44,dd44,go_sem,simprocAttr,mu44,↓AD,↓AC,↓AB,↓AA,hl8,hget8,hget9,h112,h113,hall,htk8,all_append];repeat' (first|intro _|apply And.intro|(unfold dOk;kernel_rfl)|exact St.beq_refl _|exact AI|(show altO _ _ _ _=true;kernel_rfl)|(show (_||_)=true;kernel_rfl)|(show (_&&_)=true;kernel_rfl))
   all_goals exact fzEq rfl rfl
  ·cases hwg:wholeG caps 1114111 re with
   | true=>
     rw[hwg]at h114;rw[show validP ⟨re,caps,true⟩=0 from(if_neg hno).trans (if_neg (by simp only[topI,Bool.false_eq_true,if_false,if_true,hwg];simp;omega))];simp +contextual (disch:=omega) only[Tryz.f44,dd44,go_sem,simprocAttr,mu44,↓AD,↓AC,↓AB,↓AA,hl8,hget8,hget9,h112,h113,h114,hall,htk8,all_append];repeat' (first|intro _|apply And.intro|(unfold dOk;kernel_rfl)|exact St.beq_refl _|exact AI|(show altO _ _ _ _=true;kernel_rfl)|(show (_||_)=true;kernel_rfl)|(show (_&&_)=true;kernel_rfl))
     all_goals exact fzEq rfl rfl
   | false=>
     rw[hwg]at h114;rw[show validP ⟨re,caps,true⟩=1 from(if_neg hno).trans (if_pos (.inr (.inr hwg)))];simp +contextual (disch:=omega) only[Tryz.f44,dd44,go_sem,simprocAttr,mu44,↓AD,↓AC,↓AB,↓AA,hl8,hget8,hget9,h112,h113,h114,hall,htk8,all_append];repeat' (first|intro _|apply And.intro|(unfold dOk;kernel_rfl)|exact St.beq_refl _|exact AI|(show altO _ _ _ _=true;kernel_rfl)|(show (_||_)=true;kernel_rfl)|(show (_&&_)=true;kernel_rfl))
     all_goals exact fzEq rfl rfl
end
section
attribute [local go_sem] evAppend map_append
theorem t12 (p:Pat) (hw:p.re.wt<=1000000) (H:List MB):call Pg pol1 12 [patAV p] H=some (.tup [T (printP p).1,I (printP p).2],H):=by
 have h44:=f52 p hw;obtain⟨re,caps,runes⟩:=p;simp only at hw;have hpl:=Aa ⟨re,caps,runes⟩;have hl8:=AO re;have hget8:(reC re++[I caps,.bool runes])[8]?=some (I caps):=by rw[getElem?_append_right (by omega),hl8];rfl
 have hlen:(reC re).length+(0+1+1)=10:=by omega
 have ht8:List.take 8 (reC re++[I caps,.bool runes])=reC re:=by rw[List.take_append_of_le_length (by omega)];exact take_of_length_le (by omega)
 have ht10:List.take 10 (reC re++[I caps,.bool runes])=reC re++[I caps,.bool runes]:=take_of_length_le (by simp[hl8]);have hd8:List.drop 8 (reC re++[I caps,.bool runes])=[I caps,.bool runes]:=by
  rw[List.drop_append_of_le_length (by omega),List.drop_of_length_le (by omega)];rfl
 have hok:=AU re;have htr:=AP re;have hall:(patC ⟨re,caps,runes⟩).all AV.ok=true:=by simp[AU,AV.ok]
 refine AQ Tryz.func12 rfl rfl rfl rfl rfl rfl (fun _=>rfl) (by simp only[AV.plainL,AV.plain,Bool.and_true];exact hpl) rfl ?_ H;by_cases hv:validP ⟨re,caps,runes⟩=0
 ·obtain⟨hsz,hdp,hc0,hc9,hwg⟩:=Dl hv;simp only at hsz hdp hc0 hc9 hwg;have hpr:printP ⟨re,caps,runes⟩=if 2048<(textP ⟨re,caps,runes⟩).length then([],4) else(textP ⟨re,caps,runes⟩,0):=by
   unfold printP;rw[if_neg (by omega)]
  rw[hv]at h44;have h19:=t19 (by omega) (D6 runes) re.wt re (le_refl _) (by omega) hwg;have h46:=t46 re.wt re (le_refl _) (by omega);have hNl:=DO re;have hNm:caps∈numT re↔caps∈capN re:=GY;have h45:=t45 (numT re) caps (by have:=re.size_wt;omega);generalize numT re=N at *;have hdl:=A4 10 caps;have htl:=BQ re;by_cases hcd:0<caps/\caps ∉ capN re
  ·have htx:textP ⟨re,caps,runes⟩=40::63::35::(digI 10 caps++[41])++treeT re:=by
    unfold textP;rw[if_pos hcd];simp
   have h47:=t47i caps (by omega);rw[decide_eq_false (fun h=>hcd.2 (hNm.1 h))]at h45;rw[hpr,htx];generalize digI 10 caps=D at *;generalize treeT re=Z at *;have hln:(40::63::35::(D++[41])++Z).length=D.length+Z.length+4:=by simp only[length_cons,length_append,length_nil];omega
   rw[hln];by_cases h20:2048<D.length+Z.length+4
   ·rw[if_pos h20];have h20':¬ (((D.length+(Z.length+1)+1+1+1:Nat):Int))<=2048:=by omega
    simp +contextual -implicitDefEqProofs (disch:=omega) only[Tryz.f12,dd12,go_sem,simprocAttr,mu12,↓AD,↓AC,↓AB,↓AA,h44,hget8,hlen,ht8,ht10,hd8,hok,htr,hl8,h19,h46,h45,h47,evStrOp,AN,sapp,kS1,kS2,kS3,kS4,kS5,kS6,kS7,kS8,kS9,kS10,kS11,kS12,kS13,kS14,kS15,kS16,kS17,kS18,kS19,kS20,kS21,kS22,kS23,kS24,kS25,kS26,kS27,kS28,kS29,kS30,kS31,kS32,kS33,kS34,kS35,kS36,kS37,kS38];refine⟨hall,?_⟩;repeat' (first|intro _|apply And.intro|(unfold dOk;kernel_rfl)|exact St.beq_refl _|exact AI|(show altO _ _ _ _=true;kernel_rfl)|(show (_||_)=true;kernel_rfl)|(show (_&&_)=true;kernel_rfl))
    exact⟨_,rfl⟩
   ·rw[if_neg h20];simp +contextual -implicitDefEqProofs (disch:=omega) only[Tryz.f12,dd12,go_sem,simprocAttr,mu12,↓AD,↓AC,↓AB,↓AA,h44,hget8,hlen,ht8,ht10,hd8,hok,htr,hl8,h19,h46,h45,h47,evStrOp,AN,sapp,kS1,kS2,kS3,kS4,kS5,kS6,kS7,kS8,kS9,kS10,kS11,kS12,kS13,kS14,kS15,kS16,kS17,kS18,kS19,kS20,kS21,kS22,kS23,kS24,kS25,kS26,kS27,kS28,kS29,kS30,kS31,kS32,kS33,kS34,kS35,kS36,kS37,kS38];refine⟨hall,?_⟩;repeat' (first|intro _|apply And.intro|(unfold dOk;kernel_rfl)|exact St.beq_refl _|exact AI|(show altO _ _ _ _=true;kernel_rfl)|(show (_||_)=true;kernel_rfl)|(show (_&&_)=true;kernel_rfl))
    exact⟨_,rfl⟩
  ·have htx:textP ⟨re,caps,runes⟩=treeT re:=by
    unfold textP;rw[if_neg hcd];rfl
   rw[hpr,htx];generalize treeT re=Z at *;by_cases hc:0<caps
   ·rw[decide_eq_true (hNm.2 (Classical.byContradiction fun h=>hcd ⟨hc,h⟩))]at h45;by_cases h20:2048<Z.length
    ·rw[if_pos h20];simp +contextual -implicitDefEqProofs (disch:=omega) only[Tryz.f12,dd12,go_sem,simprocAttr,mu12,↓AD,↓AC,↓AB,↓AA,h44,hget8,hlen,ht8,ht10,hd8,hok,htr,hl8,h19,h46,h45,evStrOp,AN,sapp,kS1,kS2,kS3,kS4,kS5,kS6,kS7,kS8,kS9,kS10,kS11,kS12,kS13,kS14,kS15,kS16,kS17,kS18,kS19,kS20,kS21,kS22,kS23,kS24,kS25,kS26,kS27,kS28,kS29,kS30,kS31,kS32,kS33,kS34,kS35,kS36,kS37,kS38];refine⟨hall,?_⟩;repeat' (first|intro _|apply And.intro|(unfold dOk;kernel_rfl)|exact St.beq_refl _|exact AI|(show altO _ _ _ _=true;kernel_rfl)|(show (_||_)=true;kernel_rfl)|(show (_&&_)=true;kernel_rfl))
     exact⟨_,rfl⟩
    ·rw[if_neg h20];simp +contextual -implicitDefEqProofs (disch:=omega) only[Tryz.f12,dd12,go_sem,simprocAttr,mu12,↓AD,↓AC,↓AB,↓AA,h44,hget8,hlen,ht8,ht10,hd8,hok,htr,hl8,h19,h46,h45,evStrOp,AN,sapp,kS1,kS2,kS3,kS4,kS5,kS6,kS7,kS8,kS9,kS10,kS11,kS12,kS13,kS14,kS15,kS16,kS17,kS18,kS19,kS20,kS21,kS22,kS23,kS24,kS25,kS26,kS27,kS28,kS29,kS30,kS31,kS32,kS33,kS34,kS35,kS36,kS37,kS38];refine⟨hall,?_⟩;repeat' (first|intro _|apply And.intro|(unfold dOk;kernel_rfl)|exact St.beq_refl _|exact AI|(show altO _ _ _ _=true;kernel_rfl)|(show (_||_)=true;kernel_rfl)|(show (_&&_)=true;kernel_rfl))
     exact⟨_,rfl⟩
   ·by_cases h20:2048<Z.length
    ·rw[if_pos h20];simp +contextual -implicitDefEqProofs (disch:=omega) only[Tryz.f12,dd12,go_sem,simprocAttr,mu12,↓AD,↓AC,↓AB,↓AA,h44,hget8,hlen,ht8,ht10,hd8,hok,htr,hl8,h19,h46,h45,evStrOp,AN,sapp,kS1,kS2,kS3,kS4,kS5,kS6,kS7,kS8,kS9,kS10,kS11,kS12,kS13,kS14,kS15,kS16,kS17,kS18,kS19,kS20,kS21,kS22,kS23,kS24,kS25,kS26,kS27,kS28,kS29,kS30,kS31,kS32,kS33,kS34,kS35,kS36,kS37,kS38];refine⟨hall,?_⟩;repeat' (first|intro _|apply And.intro|(unfold dOk;kernel_rfl)|exact St.beq_refl _|exact AI|(show altO _ _ _ _=true;kernel_rfl)|(show (_||_)=true;kernel_rfl)|(show (_&&_)=true;kernel_rfl))
     exact⟨_,rfl⟩
    ·rw[if_neg h20];simp +contextual -implicitDefEqProofs (disch:=omega) only[Tryz.f12,dd12,go_sem,simprocAttr,mu12,↓AD,↓AC,↓AB,↓AA,h44,hget8,hlen,ht8,ht10,hd8,hok,htr,hl8,h19,h46,h45,evStrOp,AN,sapp,kS1,kS2,kS3,kS4,kS5,kS6,kS7,kS8,kS9,kS10,kS11,kS12,kS13,kS14,kS15,kS16,kS17,kS18,kS19,kS20,kS21,kS22,kS23,kS24,kS25,kS26,kS27,kS28,kS29,kS30,kS31,kS32,kS33,kS34,kS35,kS36,kS37,kS38];refine⟨hall,?_⟩;repeat' (first|intro _|apply And.intro|(unfold dOk;kernel_rfl)|exact St.beq_refl _|exact AI|(show altO _ _ _ _=true;kernel_rfl)|(show (_||_)=true;kernel_rfl)|(show (_&&_)=true;kernel_rfl))
     exact⟨_,rfl⟩
 ·have hpr:printP ⟨re,caps,runes⟩=([],validP ⟨re,caps,runes⟩):=by unfold printP;rw[if_pos hv]
  rw[hpr];generalize validP ⟨re,caps,runes⟩=e at *;simp +contextual -implicitDefEqProofs (disch:=omega) only[Tryz.f12,dd12,go_sem,simprocAttr,mu12,↓AD,↓AC,↓AB,↓AA,h44,hget8,hlen,ht8,ht10,hd8,hok,htr,hl8];exact⟨hall,_,rfl⟩
end
section
section
variable (k:IntKind) (a b:Int)
theorem Av:evBin .add k a b=some (.int k (k.wrap (a+b))):=rfl
theorem Aq:evBin .sub k a b=some (.int k (k.wrap (a-b))):=rfl
theorem Au:evBin .eql k a b=some (.bool (a==b)):=rfl
theorem Ar:evBin .neq k a b=some (.bool (a != b)):=rfl
theorem As:evBin .lss k a b=some (.bool (decide (a<b))):=rfl
theorem At:evBin .gtr k a b=some (.bool (decide (a > b))):=rfl
end
section
variable {α:Type} (K:List α) (a b c x:α)
theorem ex1:∃ L,K++[a]=K++L:=⟨_,rfl⟩
theorem ex2:∃ L,K++[a]++[b]=K++L:=⟨[a,b],by simp⟩
theorem ex3:∃ L,K++[a]++[b]++[c]=K++L:=⟨[a,b,c],by simp⟩
theorem BN:(K++[a]++[b])[K.length]?=some a:=by simp
theorem BJ:(K++[a]++[b])[K.length+1]?=some b:=by simp
theorem BM:(K++[a]++[b]).set K.length x=K++[x]++[b]:=by simp
theorem BL:(K++[a]++[b]).set (K.length+1) x=K++[a]++[x]:=by simp[List.set_append]
theorem Ki:(K++[a]++[b]++[c])[K.length]?=some a:=by simp
theorem Kh:(K++[a]++[b]++[c])[K.length+1]?=some b:=by simp[List.getElem?_append]
theorem Kg:(K++[a]++[b]++[c])[K.length+1+1]?=some c:=by
 rw[getElem?_append_right (by simp)];simp
theorem KI:(K++[a]++[b]++[c]).set K.length x=K++[x]++[b]++[c]:=by simp
theorem KH:(K++[a]++[b]++[c]).set (K.length+1) x=K++[a]++[x]++[c]:=by simp[List.set_append]
theorem KG:(K++[a]++[b]++[c]).set (K.length+1+1) x=K++[a]++[b]++[x]:=by
 rw[List.set_append_right _ _ (by simp)];simp
end
theorem CP {f:Nat} (hk:pol1.keep f=false) (ho:pol1.own f=false) {l:List Int}{uses:Int} (s s':MS) {b0:MB}{K M:List MB} (hM:∃ L,M=K++L) {r r':AV} (hz:∀ H,fz r H=some (r',H)) (hp:AV.plain r' = true) :
  retPol pol1 f (mH b0 l uses s K) r (mH b0 l uses s' M)=some (r',mH b0 l uses s' K):=by
 obtain⟨L,rfl⟩:=hM;exact HN hk ho hz hp
theorem BY {f:Nat} (hk:pol1.keep f=false) (ho:pol1.own f=false) {l:List Int}{uses:Int} (s s':MS) {b0:MB}{K M:List MB} (hM:∃ L,M=K++L) (a b:Bool) (op:Int) (set:List (Int×Int)) (kids:List Re) (mn mx md n:Int) (neg:Bool) :
  retPol pol1 f (mH b0 l uses s K) (.agg [I op,.sl a (set.map spanAV),.sl b (kids.map reAV),I mn,I mx,I md,I n,.bool neg]) (mH b0 l uses s' M)=some (reAV (.mk op set kids mn mx md n neg),mH b0 l uses s' K):=by
 rw[CP hk ho s s' hM (H7 a b op set kids mn mx md n neg) (by simp[AV.plain,AV.plainL,AE,AK])];rw[show reAV (.mk op set kids mn mx md n neg)=.agg (nodeL op set kids mn mx md n neg) from congrArg AV.agg Ag]
section
variable {l:List Int} (hl:∀ x∈l,In64 x) {uses:Int}{d:Nat} (hd:d<=5) (ht:TreeLaw l uses d) (hb:TreeB l uses d)
include hl hd ht hb
theorem f99 (s:MS) (hp:Pre (5+3*mA1 d) (3*mS1 d) s) (b0:MB) (K:List MB) :
  call Pg pol1 108 [.rf 1 1 0 0,I ((d+1:Nat):Int)] (mH b0 l uses s K)=some (.sl false ((kidsF l (treeF l uses d) s).1.map reAV),mH b0 l uses (kidsF l (treeF l uses d) s).2 K):=by
 have fr:frzArgs pol1 108 0 [.rf 1 1 0 0,I ((d+1:Nat):Int)] (mH b0 l uses s K)=some ([.rf 1 1 0 0,I ((d+1:Nat):Int)],mH b0 l uses s K):=AR _ _ _ rfl;have hA:=A3 d;have hS:=A1 d;have hpost:=fun i hi=>DM hb hp i hi;have hmul:∀ i n:Nat,i<=n->(i:Int)*mA1 d<=n*mA1 d/\(i:Int)*mS1 d<=n*mS1 d:=fun i n hi=>⟨Int.mul_le_mul_of_nonneg_right (by omega) (by omega),Int.mul_le_mul_of_nonneg_right (by omega) (by omega)⟩;have hlen:=fun i=>Hr l (treeF l uses d) s i;refine AT (pol:=pol1) Tryz.func108 rfl rfl rfl rfl fr ?_;obtain⟨N,hN,hN2,hval⟩:∃ N:Nat,2<=N/\N<=3/\kidsF l (treeF l uses d) s=((stK l (treeF l uses d) s N).1,(nx l 2 (stK l (treeF l uses d) s N).2).2)/\(N=3->(nx l 2 (stK l (treeF l uses d) s 2).2).1=1)/\(N=2->(nx l 2 (stK l (treeF l uses d) s 2).2).1≠1):=by
  unfold kidsF;by_cases h:(nx l 2 (stK l (treeF l uses d) s 2).2).1=1
  ·exact⟨3,by omega,by omega,if_pos h,fun _=>h,fun h=>by omega⟩
  ·exact⟨2,by omega,by omega,if_neg h,fun h=>by omega,fun _=>h⟩
 obtain⟨hval,h3,h2⟩:=hval;rw[hval];simp +contextual (disch:=omega) only[Tryz.f108,Jo,go_sem,simprocAttr,evAppend,map_append,JR,↓AD,↓AC,↓AB,↓AA];refine Af (M:=(mskOf (pol1.mask 108) (pol1.gc 108) (pol1.acts 108) 0 3)) rfl N (fun i=>(⟨22,[(6,I i),(5,.ms (K.length+1+1) 8 i 0 i),(1,I ((d+1:Nat):Int)),(0,.rf 1 1 0 0)],mH b0 l uses (stK l (treeF l uses d) s i).2 (K++[.row 8 ((stK l (treeF l uses d) s i).1.map reAV) 0])⟩:St)) (fun _=>True) ?_ ?_ trivial _ (by rfl)
 ·intro i hi _;have pi:=hpost i (by omega);have hmi:=hmul i 2 (by omega);have hli:=hlen i;have e:stK l (treeF l uses d) s (i+1)=((stK l (treeF l uses d) s i).1++[(treeF l uses d (nx l 2 (stK l (treeF l uses d) s i).2).2).1],(treeF l uses d (nx l 2 (stK l (treeF l uses d) s i).2).2).2):=rfl;rw[e];have hv2:i=2->(nx l 2 (stK l (treeF l uses d) s i).2).1=1:=fun h=>by subst h;exact h3 (by omega)
  generalize stK l (treeF l uses d) s i=X at *;obtain⟨ks,si⟩:=X;simp only at pi hli hv2 |-;obtain⟨pa,pl,pc⟩:=pi;obtain⟨qa,ql,qc⟩:=hp;have h97:=fun K=>f97 l hl uses 2 (by omega) si ⟨by omega,by omega⟩ b0 K;have hv:=BF l (n:=2) (by omega) si;have hq:=AY l 2 si pc;generalize nx l 2 si=Y at *;obtain⟨v,sj⟩:=Y;simp only at h97 hv hq hv2 |-;obtain⟨ra,rl,rc⟩:=hq;have h44:=fun K=>ht sj b0 K ⟨by omega,by omega,rc⟩;generalize treeF l uses d sj=Z at *;obtain⟨r,sk⟩:=Z;simp only at h44 |-;have hap:=fun s=>GH (H:=mH b0 l uses s (K++[.row 8 (ks.map reAV) 0])) (i:=K.length+1+1) (n:=i) (t:=true) (y:=reAV r) (z:=0) (els:=ks.map reAV) (by simp[getRow1]) (by rw[length_map];exact hli) (by simp[AV.cells,AO,AU]) (zero_le _) (by omega);simp +contextual (disch:=omega) only[Tryz.f108,Jo,go_sem,simprocAttr,JR,↓AD,↓AC,↓AB,↓AA,h97,h44,hap,Ah,Ad,AO,AU,AP,AS,append_nil];rw[map_append];rfl
 ·intro _;have pi:=hpost N (by omega);have hmi:=hmul N 3 (by omega);have hli:=hlen N;have hv2:N=2->(nx l 2 (stK l (treeF l uses d) s N).2).1≠1:=fun h=>by rw[h];exact h2 h
  generalize stK l (treeF l uses d) s N=X at *;obtain⟨ks,si⟩:=X;simp only at pi hli hv2 |-;obtain⟨pa,pl,pc⟩:=pi;obtain⟨qa,ql,qc⟩:=hp;have h97:=fun K=>f97 l hl uses 2 (by omega) si ⟨by omega,by omega⟩ b0 K;have hv:=BF l (n:=2) (by omega) si;generalize nx l 2 si=Y at *;obtain⟨v,sj⟩:=Y;simp only at h97 hv hv2 |-;have hvn:¬ (N:Int)<2+v:=by omega
  simp +contextual (disch:=omega) only[Tryz.f108,Jo,go_sem,simprocAttr,JR,↓AD,↓AC,↓AB,↓AA,h97,Ah,Ad,AO,AU,AP,AS,append_nil];exact Iz rfl rfl hli
theorem f100 (s:MS) (hp:Pre (5+3*mA1 d) (3*mS1 d) s) (b0:MB) (K:List MB) :
  call Pg pol1 109 [.rf 1 1 0 0,I ((d+1:Nat):Int)] (mH b0 l uses s K)=some (reAV (repF l uses (treeF l uses d) s).1,mH b0 l uses (repF l uses (treeF l uses d) s).2 K):=by
 have fr:frzArgs pol1 109 0 [.rf 1 1 0 0,I ((d+1:Nat):Int)] (mH b0 l uses s K)=some ([.rf 1 1 0 0,I ((d+1:Nat):Int)],mH b0 l uses s K):=AR _ _ _ rfl;have hA:=A3 d;have hS:=A1 d;unfold repF;obtain⟨qa,ql,qc⟩:=hp;have h97a:=fun K=>f97 l hl uses 12 (by omega) s ⟨by omega,by omega⟩ b0 K;have hk:=BF l (n:=12) (by omega) s;have p1:=AY l 12 s qc;generalize nx l 12 s=Y at *;obtain⟨k,s1⟩:=Y;simp only at h97a hk p1 |-;obtain⟨kn,rfl⟩:∃ kn:Nat,k=kn:=⟨k.toNat,by omega⟩;obtain⟨hm1,hm2⟩:[I 0,I 0,I 0,I 0,I 1,I 1,I 1,I 0,I 2,I 0,I 1,I 2][kn]?=some (I (([0,0,0,0,1,1,1,0,2,0,1,2]:List Int).getD kn 0))/\[I (-1),I (-1),I (-1),I 1,I (-1),I (-1),I 2,I 2,I 2,I 3,I 1,I (-1)][kn]?=some (I (([-1,-1,-1,1,-1,-1,2,2,2,3,1,-1]:List Int).getD kn 0)):=by
  have:kn=0∨kn=1∨kn=2∨kn=3∨kn=4∨kn=5∨kn=6∨kn=7∨kn=8∨kn=9∨kn=10∨kn=11:=by omega
  rcases this with rfl|rfl|rfl|rfl|rfl|rfl|rfl|rfl|rfl|rfl|rfl|rfl<;>exact⟨rfl,rfl⟩
 simp only[Int.toNat_natCast];generalize ([0,0,0,0,1,1,1,0,2,0,1,2]:List Int).getD kn 0=mn at *;generalize ([-1,-1,-1,1,-1,-1,2,2,2,3,1,-1]:List Int).getD kn 0=mx at *;have h97b:=fun K=>f97 l hl uses 2 (by omega) s1 ⟨by have:=p1.a;omega,by have:=p1.a;omega⟩ b0 K;have p2:=p1.trans (AY l 2 s1 p1.c);generalize nx l 2 s1=Y at *;obtain⟨md,s2⟩:=Y;simp only at h97b p2 |-;have h97c:=fun K=>f97 l hl uses 4 (by omega) s2 ⟨by have:=p2.a;omega,by have:=p2.a;omega⟩ b0 K;have p3':=p2.trans (AY l 4 s2 p2.c)
 obtain⟨m,s3,hm,p3,hms⟩:∃ m s3,(if 0<andI uses 8 then(if(nx l 4 s2).1=0 then(2:Int) else md,(nx l 4 s2).2) else(md,s2))=(m,s3)/\Post (1+1+1) (0+0+0) s s3 /\
   ((¬ 0<andI uses 8/\m=md/\s3=s2)∨(0<andI uses 8/\(nx l 4 s2).1=0/\m=2/\s3=(nx l 4 s2).2)∨(0<andI uses 8/\(nx l 4 s2).1≠0/\m=md/\s3=(nx l 4 s2).2)):=by
  by_cases u:0<andI uses 8
  ·rw[if_pos u];by_cases x0:(nx l 4 s2).1=0
   ·rw[if_pos x0];exact⟨_,_,rfl,p3',.inr (.inl ⟨u,x0,rfl,rfl⟩)⟩
   ·rw[if_neg x0];exact⟨_,_,rfl,p3',.inr (.inr ⟨u,x0,rfl,rfl⟩)⟩
  ·rw[if_neg u];exact⟨_,_,rfl,p2.up (by omega) (by omega),.inl ⟨u,rfl,rfl⟩⟩
 rw[hm];clear hm p3';simp only;generalize nx l 4 s2=Y at *;obtain⟨x,s2'⟩:=Y;simp only at h97c hms |-;have hpre:Pre (mA1 d) (mS1 d) s3:=⟨⟨by have:=p3.a;omega,by have:=p3.a;omega⟩,⟨by have:=p3.l;omega,by have:=p3.l;omega⟩,p3.c⟩;have hw6:mW1 d<=1000000:=by
  have:d=0∨d=1∨d=2∨d=3∨d=4∨d=5:=by omega
  rcases this with rfl|rfl|rfl|rfl|rfl|rfl<;>decide
 have h44:=fun K=>ht s3 b0 K hpre;have p4:=hb s3 hpre;have h20:=f20 (treeF l uses d s3).1.wt (treeF l uses d s3).1 (le_refl _) (Nat.le_trans (EJ l uses d s3) hw6);generalize treeF l uses d s3=Y at *;obtain⟨r,s4⟩:=Y;simp only at h44 p4 h20 |-;have h98:=fun K=>f98 l hl uses s4 ⟨by have:=p3.a;have:=p4.a;omega,by have:=p3.a;have:=p4.a;omega⟩ b0 K;obtain⟨X,hX,hXc⟩:∃ X,(if andI uses 32=0/\nullG r=true then setM l s4 else(r,s4))=X/\((andI uses 32≠0/\X=(r,s4))∨(andI uses 32=0/\nullG r=true/\X=setM l s4)∨(andI uses 32=0/\nullG r=false/\X=(r,s4))):=by
  by_cases u:andI uses 32=0
  ·cases hn:nullG r with
   | true=>exact⟨_,if_pos ⟨u,rfl⟩,.inr (.inl ⟨u,rfl,rfl⟩)⟩
   | false=>exact⟨_,if_neg (by simp),.inr (.inr ⟨u,rfl,rfl⟩)⟩
  ·exact⟨_,if_neg (fun h=>u h.1),.inl ⟨u,rfl⟩⟩
 rw[hX];clear hX;generalize setM l s4=Y at *;obtain⟨r5,s5⟩:=Y;simp only at h98;refine AT (pol:=pol1) Tryz.func109 rfl rfl rfl rfl fr ?_;rcases hms with ⟨u8,rfl,rfl⟩|⟨u8,rfl,rfl,rfl⟩|⟨u8,x0,rfl,rfl⟩<;>rcases hXc with ⟨u32,rfl⟩|⟨u32,hn,rfl⟩|⟨u32,hn,rfl⟩
 all_goals try rw[hn]at h20
 all_goals simp +contextual (disch:=omega) only[Tryz.f109,MJ,go_sem,simprocAttr,evAppend,map_append,Lz,↓AD,↓AC,↓AB,↓AA,h97a,h97b,h97c,h44,h20,h98,hm1,hm2,↓A0,Ah,Ad,BN,BJ,BM,BL,Ki,Kh,Kg,KI,KH,KG,AO,AU,AP,AS,append_nil]
 all_goals repeat' (first|intro _|apply And.intro|(unfold dOk;kernel_rfl)|exact St.beq_refl _|exact AI|(show altO _ _ _ _=true;kernel_rfl)|(show (_||_)=true;kernel_rfl)|(show (_&&_)=true;kernel_rfl))
 all_goals exact BY (by rfl) (by rfl) s _ (ex3 ..) true true 4 [] [_] _ _ _ 0 false
theorem f101 (s:MS) (hp:Pre (5+3*mA1 d) (3*mS1 d) s) (b0:MB) (K:List MB) :
  call Pg pol1 110 [.rf 1 1 0 0,I ((d+1:Nat):Int)] (mH b0 l uses s K)=some (reAV (capF l (treeF l uses d) s).1,mH b0 l uses (capF l (treeF l uses d) s).2 K):=by
 have _:=hb;have fr:frzArgs pol1 110 0 [.rf 1 1 0 0,I ((d+1:Nat):Int)] (mH b0 l uses s K)=some ([.rf 1 1 0 0,I ((d+1:Nat):Int)],mH b0 l uses s K):=AR _ _ _ rfl;have hA:=A3 d;have hS:=A1 d;unfold capF;obtain⟨qa,ql,qc⟩:=hp;have h97a:=fun K=>f97 l hl uses 9 (by omega) s ⟨by omega,by omega⟩ b0 K;have p1:=AY l 9 s qc;have hmx1:(if s.caps > 1 then s.caps else 1)=max 1 s.caps:=by split<;>omega
 have c1:(nx l 9 s).2.caps=s.caps:=rfl;generalize nx l 9 s=Y at *;obtain⟨x,s1⟩:=Y;simp only at h97a p1 c1 |-
 obtain⟨b,s2,hps,p2,c2,hc⟩:∃(b:Bool) (s2:MS),(if 4<s.caps+1 then(true,s) else if 0<s.caps then(decide (x=0),s1) else(false,s))=(b,s2)/\Post 1 0 s s2/\s2.caps=s.caps /\
   ((4<s.caps+1/\b=true/\s2=s)∨(¬ 4<s.caps+1/\0<s.caps/\x=0/\b=true/\s2=s1)∨(¬ 4<s.caps+1/\0<s.caps/\x≠0/\b=false/\s2=s1)∨(¬ 4<s.caps+1/\¬ 0<s.caps/\b=false/\s2=s)):=by
  have p0:Post 1 0 s s:=⟨by omega,by omega,qc⟩;by_cases h1:4<s.caps+1
  ·rw[if_pos h1];exact⟨_,_,rfl,p0,rfl,.inl ⟨h1,rfl,rfl⟩⟩
  ·rw[if_neg h1];by_cases h2:0<s.caps
   ·rw[if_pos h2];by_cases h3:x=0
    ·exact⟨true,s1,by rw[decide_eq_true h3],p1,c1,.inr (.inl ⟨h1,h2,h3,rfl,rfl⟩)⟩
    ·exact⟨false,s1,by rw[decide_eq_false h3],p1,c1,.inr (.inr (.inl ⟨h1,h2,h3,rfl,rfl⟩))⟩
   ·rw[if_neg h2];exact⟨_,_,rfl,p0,rfl,.inr (.inr (.inr ⟨h1,h2,rfl,rfl⟩))⟩
 rw[hps];clear hps;simp only;have hm1:0<max 1 s2.caps:=by omega
 have h97b:=fun K=>f97 l hl uses (max 1 s2.caps) (by omega) s2 ⟨by have:=p2.a;omega,by have:=p2.a;omega⟩ b0 K;have p3:=p2.trans (AY l (max 1 s2.caps) s2 p2.c);have hv:=BF l hm1 s2;have c3:(nx l (max 1 s2.caps) s2).2.caps=s2.caps:=rfl;generalize hY:nx l (max 1 s2.caps) s2=Y at *;obtain⟨y,s3⟩:=Y;clear hY;simp only at h97b p3 hv c3 |-;rw[c2]at h97b hv c3;obtain⟨m,s4,hms,p4,c4,hmb,hc2⟩:∃(m:Int) (s4:MS),(if b=true then(1+y,s3) else(s.caps+1,s2))=(m,s4)/\Post 2 0 s s4/\s4.caps=s.caps/\(0<=m/\m<=4)/\((b=true/\m=1+y/\s4=s3)∨(b=false/\m=s.caps+1/\s4=s2)):=by
  cases b with
  | true=>exact⟨_,_,if_pos rfl,p3,c3,by omega,.inl ⟨rfl,rfl,rfl⟩⟩
  | false=>
    refine⟨_,_,if_neg Bool.false_ne_true,p2.up (by omega) (by omega),c2,?_,.inr ⟨rfl,rfl,rfl⟩⟩;rcases hc with h|h|h|h<;>first|omega|(simp at h;done)|(simp at h;omega)
 rw[hms];clear hms;simp only;have hmx2:(if m > s.caps then m else s.caps)=max s.caps m:=by split<;>omega
 have hpre:Pre (mA1 d) (mS1 d) ⟨s4.at_,s4.left,max s.caps m⟩:=⟨⟨by have:=p4.a;simp only;omega,by have:=p4.a;simp only;omega⟩,⟨by have:=p4.l;simp only;omega,by have:=p4.l;simp only;omega⟩,by simp only;omega⟩;have h44:=fun K=>ht _ b0 K hpre;rw[c4];generalize treeF l uses d ⟨s4.at_,s4.left,max s.caps m⟩=Y at *;obtain⟨r,s5⟩:=Y;simp only at h44 |-;have fin:∀(M:List MB),(∃ L,M=K++L)->retPol pol1 110 (mH b0 l uses s K) (.agg [I 5,.sl true [],.sl true [reAV r],I 0,I 0,I 0,I m,.bool false]) (mH b0 l uses s5 M)=some (reAV (.mk 5 [] [r] 0 0 0 m false),mH b0 l uses s5 K):=fun M hM=>
  BY (by rfl) (by rfl) s s5 hM true true 5 [] [r] 0 0 0 m false
 refine AT (pol:=pol1) Tryz.func110 rfl rfl rfl rfl fr ?_;rcases hc with ⟨g1,rfl,rfl⟩|⟨g1,g2,g3,rfl,rfl⟩|⟨g1,g2,g3,rfl,rfl⟩|⟨g1,g2,rfl,rfl⟩<;>rcases hc2 with ⟨g4,rfl,rfl⟩|⟨g4,rfl,rfl⟩<;>(try cases g4)
 ·rw[show max 1 s2.caps=s2.caps by omega]at h97b;simp +contextual (disch:=omega) only[Tryz.f110,IC,go_sem,simprocAttr,evAppend,map_append,H4,↓AD,↓AC,↓AB,↓AA,h97a,h97b,h44,hmx1,hmx2,c1,c2,c3,evMax,Ah,Ad,AO,AU,AP,AS,append_nil];repeat' (first|intro _|apply And.intro|(unfold dOk;kernel_rfl)|exact St.beq_refl _|exact AI|(show altO _ _ _ _=true;kernel_rfl)|(show (_||_)=true;kernel_rfl)|(show (_&&_)=true;kernel_rfl))
  exact fin _ (ex1 ..)
 ·simp +contextual (disch:=omega) only[Tryz.f110,IC,go_sem,simprocAttr,evAppend,map_append,H4,↓AD,↓AC,↓AB,↓AA,h97a,h97b,h44,hmx1,hmx2,c1,c2,c3,evMax,Ah,Ad,AO,AU,AP,AS,append_nil];repeat' (first|intro _|apply And.intro|(unfold dOk;kernel_rfl)|exact St.beq_refl _|exact AI|(show altO _ _ _ _=true;kernel_rfl)|(show (_||_)=true;kernel_rfl)|(show (_&&_)=true;kernel_rfl))
  exact fin _ (ex1 ..)
 ·first|rw[show max s.caps (s.caps+1)=s.caps+1 by omega]at h44|rw[show max s2.caps (s2.caps+1)=s2.caps+1 by omega]at h44|rw[show max s4.caps (s4.caps+1)=s4.caps+1 by omega]at h44
  simp +contextual (disch:=omega) only[Tryz.f110,IC,go_sem,simprocAttr,evAppend,map_append,H4,↓AD,↓AC,↓AB,↓AA,h97a,h97b,h44,hmx1,hmx2,c1,c2,c3,evMax,Ah,Ad,AO,AU,AP,AS,append_nil];repeat' (first|intro _|apply And.intro|(unfold dOk;kernel_rfl)|exact St.beq_refl _|exact AI|(show altO _ _ _ _=true;kernel_rfl)|(show (_||_)=true;kernel_rfl)|(show (_&&_)=true;kernel_rfl))
  exact fin _ (ex1 ..)
 ·first|rw[show max s.caps (s.caps+1)=s.caps+1 by omega]at h44|rw[show max s2.caps (s2.caps+1)=s2.caps+1 by omega]at h44|rw[show max s4.caps (s4.caps+1)=s4.caps+1 by omega]at h44
  simp +contextual (disch:=omega) only[Tryz.f110,IC,go_sem,simprocAttr,evAppend,map_append,H4,↓AD,↓AC,↓AB,↓AA,h97a,h97b,h44,hmx1,hmx2,c1,c2,c3,evMax,Ah,Ad,AO,AU,AP,AS,append_nil];repeat' (first|intro _|apply And.intro|(unfold dOk;kernel_rfl)|exact St.beq_refl _|exact AI|(show altO _ _ _ _=true;kernel_rfl)|(show (_||_)=true;kernel_rfl)|(show (_&&_)=true;kernel_rfl))
  exact fin _ (ex1 ..)
end
end
end Go.Ev
