/- What functions of the program compute; no further conditions. -/
import Derived.Test.YtkolcijbdendhaaGreatD20
set_option linter.unusedVariables false
set_option linter.unusedSimpArgs false
open List (all_append all_cons all_eq_true all_nil append_assoc cons_append getElem?_append_left getElem?_append_right getElem?_eq_getElem getElem?_set_ne getElem?_set_self length_append length_cons length_map length_nil map_append map_cons map_nil map_take mem_append mem_cons_of_mem mem_map mem_of_getElem? nil_append set_cons_succ take_length take_of_length_le)
open Nat (add_assoc le_refl zero_add zero_le)
open Go.Proofs Go.RowKit Go.IntWalk
set_option maxHeartbeats 8000000
set_option maxRecDepth 100000
namespace Go.Ev
attribute [local go_sem] AV.cells A8 BI bndO bnd evEq eqCells not_false_eq_true not_true_eq_false toList_some Array.size_empty length_append tySzE List.head?_drop Nat.mul_one As A1 Am At Au Ag
section
attribute [local go_sem] evAppend evBin map_append
def resA:Option Re->AV
 | some r=>.tup [reAV r,I 0]
 | none=>.tup [reAV emptyR,I 4]
theorem GV (o:Option Re):AV.plain (resA o)=true:=by
 cases o<;>simp[resA,AV.plain,AV.plainL,AM]
theorem d29 {t:Re} (hs:t.size<=256) (hok:OkD t) (caps top:Int) (hwh:wholeG caps top t=true) (x:Int) (H:List MB):call Pg pol1 29 [reAV t,I x] H=some (resA (stepR x t),H):=by
 have h65:=hok.wt65;obtain⟨hb,_⟩:=Nb (x:=x) hok hs;have hdo:=(Jc (x:=x) hok).1;have h54:=d54 caps top x _ t (le_refl _) (by omega) hok hwh;have h27:=d27 (drv x t) (by omega) hdo;have hnw:=(Od (drv x t) hdo.gs).2;have h55:=d55 (nf (drv x t)) (by omega);have h56:=d56 (nf (drv x t)) (by omega);have hst:stepR x t=if badR (drv x t)=true∨256<(nf (drv x t)).size∨24<(nf (drv x t)).depth then none else some (nf (drv x t)):=rfl
 have hpl:=GV (stepR x t);have hsz:=Re.size_wt (nf (drv x t));have hdp:=Nat.le_trans (Re.depth_size (nf (drv x t))) hsz;refine AS Tryz.func29 rfl rfl rfl rfl rfl rfl (fun _=>rfl) (by simp[AV.plain,AV.plainL,AM]) hpl ?_ H;rw[hst];generalize drv x t=d at *;generalize nf d=r at *;cases hbd:badR d with
 | true=>
   rw[hbd,if_pos rfl]at h27;rw[if_pos (.inl rfl)];simp +contextual -implicitDefEqProofs (disch:=omega) only[Tryz.f29,dd29,go_sem,simprocAttr,mu29,↓AD,↓AC,↓AB,↓AA,h54,h27,AH,AI,AL];exact⟨_,rfl⟩
 | false=>
   rw[hbd,if_neg (by simp)]at h27;by_cases c1:256<r.size
   ·have c1':(256:Int)<(r.size:Int):=by omega
    rw[if_pos (.inr (.inl c1))];simp +contextual -implicitDefEqProofs (disch:=omega) only[Tryz.f29,dd29,go_sem,simprocAttr,mu29,↓AD,↓AC,↓AB,↓AA,h54,h27,h55,c1',AH,AI,AL];exact⟨_,rfl⟩
   ·have c1':¬ (256:Int)<(r.size:Int):=by omega
    by_cases c2:24<r.depth
    ·have c2':(24:Int)<(r.depth:Int):=by omega
     rw[if_pos (.inr (.inr c2))];simp +contextual -implicitDefEqProofs (disch:=omega) only[Tryz.f29,dd29,go_sem,simprocAttr,mu29,↓AD,↓AC,↓AB,↓AA,h54,h27,h55,h56,c1',c2',AH,AI,AL];exact⟨_,rfl⟩
    ·have c2':¬ (24:Int)<(r.depth:Int):=by omega
     rw[if_neg (by simp[c1,c2])];simp +contextual -implicitDefEqProofs (disch:=omega) only[Tryz.f29,dd29,go_sem,simprocAttr,mu29,↓AD,↓AC,↓AB,↓AA,h54,h27,h55,h56,c1',c2',AH,AI,AL];exact fzEq (by simp[AV.plain,AV.plainL,AM]) rfl
def chkP (p:Pat):Int:=if validP p≠0 then validP p else if regG p.re=true then 0 else 10
theorem d23 (p:Pat) (hw:p.re.wt<=1000000) (H:List MB):call Pg pol1 23 [patAV p] H=some (I (chkP p),H):=by
 have h46:=f48 p hw;have h47:=d47 _ p.re (le_refl _) (by omega);obtain⟨re,caps,runes⟩:=p;have hc:chkP ⟨re,caps,runes⟩=if validP ⟨re,caps,runes⟩≠0 then validP ⟨re,caps,runes⟩ else if regG re=true then 0 else 10:=rfl
 rw[hc];refine AS Tryz.func23 rfl rfl rfl rfl rfl rfl (fun _=>rfl) (by simp[AV.plainL,AV.plain];exact A9 _) rfl ?_ H;have hl8:=AH re;have htk8:∀ l,List.take 8 (reC re++l)=reC re:=fun l=>by
  rw[List.take_append_of_le_length (by omega)];exact take_of_length_le (by omega)
 have htk10:List.take 10 (reC re++[I caps,.bool runes])=reC re++[I caps,.bool runes]:=take_of_length_le (by simp[hl8]);have hall:=AL re;generalize validP ⟨re,caps,runes⟩=e at *;by_cases he:e=0
 ·subst he;rw[if_neg (by simp)];cases hr:regG re with
  | true=>
    simp only[hr]at h47;rw[if_pos rfl];simp +contextual -implicitDefEqProofs (disch:=omega) only[Tryz.f23,dd23,go_sem,simprocAttr,mu23,↓AD,↓AC,↓AB,↓AA,h46,h47,hl8,htk8,htk10,hall,all_append];exact fzEq rfl rfl
  | false=>
    simp only[hr]at h47;rw[if_neg (by simp)];simp +contextual -implicitDefEqProofs (disch:=omega) only[Tryz.f23,dd23,go_sem,simprocAttr,mu23,↓AD,↓AC,↓AB,↓AA,h46,h47,hl8,htk8,htk10,hall,all_append];exact fzEq rfl rfl
 ·rw[if_pos he];simp +contextual -implicitDefEqProofs (disch:=omega) only[Tryz.f23,dd23,go_sem,simprocAttr,mu23,↓AD,↓AC,↓AB,↓AA,h46,he,hl8,htk8,htk10,hall,all_append];exact fzEq rfl rfl
theorem d26 (p:Pat) (H:List MB):call Pg pol1 26 [patAV p] H=some (I (topI p.runes),H):=by
 obtain⟨re,caps,runes⟩:=p;have hl8:=AH re;have hget9:(reC re++[I caps,.bool runes])[9]?=some (.bool runes):=by rw[getElem?_append_right (by omega),hl8];rfl
 have hall:=AL re;refine AS Tryz.func26 rfl rfl rfl rfl rfl rfl (fun _=>rfl) (by simp[AV.plainL,AV.plain];exact A9 _) rfl ?_ H;rw[show topI (Pat.mk re caps runes).runes=topI runes from rfl];cases runes
 ·simp +contextual -implicitDefEqProofs (disch:=omega) only[Tryz.f26,dd26,go_sem,simprocAttr,mu26,↓AD,↓AC,↓AB,↓AA,topI,hl8,hget9,hall,all_append];exact fzEq rfl rfl
 ·simp +contextual -implicitDefEqProofs (disch:=omega) only[Tryz.f26,dd26,go_sem,simprocAttr,mu26,↓AD,↓AC,↓AB,↓AA,topI,hl8,hget9,hall,all_append];exact fzEq rfl rfl
end
section
attribute [local go_sem] evBin
theorem HR {H:List MB}{i n z:Nat}{rs xs:List Int}{t:Bool} (hi:getRow H i=some (1,rs.map I,z)) (hz:z<=n) (hn:rs.length=n) (hr:n+xs.length<=4000000000) :
  evAppend Pg H 22 22 (.ms i 1 n 0 n) (.sl t (xs.map I))=some (.ms i 1 (n+xs.length) 0 (n+xs.length),H.set i (.row 1 ((rs++xs).map I) z)):=by
 have hs:srcElems Pg H 3 (.sl t (xs.map I))=some (xs.map I):=rfl;have ha:((xs.map I).all fun y=>decide (y.cells.length=1)&&y.cells.all AV.ok)=true:=by
  rw[all_eq_true];intro y hy;obtain⟨i,_,rfl⟩:=mem_map.1 hy;rfl
 rw[Ao (e:=3) (by kernel_rfl) (by kernel_rfl) (k:=1) (by kernel_rfl) (by_:=8) (by kernel_rfl) (ze:=I 0) (by kernel_rfl) rfl (by omega) hs ha hi (by rw[length_map];exact hn) hz (Ag (by simp;omega) (by omega))];rw[map_append,length_map]
theorem E8 {l:List (Int×Int)}{i:Nat}{p:Int×Int} (h:l[i]?=some p):((l.take (i+1)).flatMap fun p=>[p.1,p.2])=((l.take i).flatMap fun p=>[p.1,p.2])++[p.1,p.2]:=by
 rw[AX h,List.flatMap_append];simp
theorem d69 (r:Re) (hw:r.wt<=100000000) (H:List MB):call Pg pol1 69 [reAV r] H=some (.sl false ((nodeK r).map I),H):=by
 have hk:=Cy r;obtain⟨op,set,kids,mn,mx,md,n,neg⟩:=r;have hwt:1+set.length+Re.wtL kids=(Re.mk op set kids mn mx md n neg).wt:=by simp[Re.wt]
 have hkl:=Re.wtL_len kids;rw[hk,show tailK (.mk op set kids mn mx md n neg)=[mn,mx,md,n,neg01 neg,(kids.length:Int)] from rfl,show (Re.mk op set kids mn mx md n neg).op=op from rfl,show (Re.mk op set kids mn mx md n neg).set=set from rfl];refine AS Tryz.func69 rfl rfl rfl rfl rfl rfl (fun _=>rfl) (by simp[AV.plain,AV.plainL,AM]) (by simp only[AV.plain,AJ];rfl) ?_ H;rw[show reAV (.mk op set kids mn mx md n neg)=.agg (nodeL op set kids mn mx md n neg) from congrArg AV.agg Ai];cases neg
 ·simp +contextual -implicitDefEqProofs (disch:=omega) only[Tryz.f69,dd69,go_sem,simprocAttr,evAppend,map_append,mu69,↓AD,↓AC,↓AB,↓AA];refine AY (M:=(mskOf (pol1.mask 69) (pol1.gc 69) (pol1.acts 69) 0 6)) (by rfl) set.length (fun i=>(⟨51,[(5,I i),(4,.ms 1 1 (2+2*i) 0 (2+2*i)),(3,I 0),(1,.rf 0 1 0 0)],[.row 8 [.agg (nodeL op set kids mn mx md n false)] 0,.row 1 ((op::(set.length:Int)::(set.take i).flatMap (fun p=>[p.1,p.2])).map I) 0]⟩:St)) (fun _=>True) ?_ ?_ trivial _ (by first|rfl|(refine AR rfl (by rfl) (by rfl) (by rfl) ?_ ?_<;>simp[AV.underL,AV.under,MB.under,AE,AK,AJ,AF,AN,AO,-map_take,AG,AF]))
  ·intro i hi _;obtain⟨p,hp⟩:∃ p,set[i]?=some p:=⟨_,getElem?_eq_getElem hi⟩;have hp':(set.map spanAV)[i]?=some (spanAV p):=by simp[hp]
   have hlt:(i:Int)<(set.length:Int):=by omega
   have hft:=E8 hp;have hfl:=BC (set.take i);rw[List.length_take,Nat.min_eq_left (by omega)]at hfl;rw[hft,show op::(set.length:Int)::((set.take i).flatMap (fun p=>[p.1,p.2])++[p.1,p.2])=(op::(set.length:Int)::(set.take i).flatMap (fun p=>[p.1,p.2]))++[p.1,p.2] from rfl,show 2+2*(i+1)=2+2*i+2 by omega];have hXl:(op::(set.length:Int)::(set.take i).flatMap (fun p=>[p.1,p.2])).length=2+2*i:=by simp only[length_cons,hfl];omega
   generalize op::(set.length:Int)::(set.take i).flatMap (fun p=>[p.1,p.2])=X at *;have a1:=fun b0=>HR (H:=[b0,.row 1 (X.map I) 0]) (i:=1) (n:=2+2*i) (xs:=[p.1,p.2]) (t:=true) (rs:=X) (z:=0) rfl (zero_le _) hXl (by simp;omega);simp only[set_cons_succ,List.set_cons_zero,map_cons,map_nil,length_cons,length_nil,zero_add,Nat.reduceAdd]at a1;simp +contextual -implicitDefEqProofs (disch:=omega) only[Tryz.f69,dd69,go_sem,simprocAttr,mu69,↓AD,↓AC,↓AB,↓AA,hp',hlt,a1];repeat' (first|intro _|apply And.intro|(unfold dOk;kernel_rfl)|exact St.beq_refl _|exact AP|(show altO _ _ _ _=true;kernel_rfl)|(show (_||_)=true;kernel_rfl)|(show (_&&_)=true;kernel_rfl))
   generalize X++[p.1,p.2]=X2;exact(by first|rfl|(refine AR rfl (by rfl) (by rfl) (by rfl) ?_ ?_<;>simp[AV.underL,AV.under,MB.under,AE,AK,AJ,AF,AN,AO,-map_take,AJ,AG,AF]))
  ·intro _;rw[take_length];have hfl:=BC set;have hXl:(op::(set.length:Int)::set.flatMap (fun p=>[p.1,p.2])).length=2+2*set.length:=by simp only[length_cons,hfl];omega
   rw[show op::(set.length:Int)::(set.flatMap (fun p=>[p.1,p.2])++[mn,mx,md,n,neg01 false,(kids.length:Int)])=(op::(set.length:Int)::set.flatMap (fun p=>[p.1,p.2]))++[mn,mx,md,n,0,(kids.length:Int)] from rfl];generalize op::(set.length:Int)::set.flatMap (fun p=>[p.1,p.2])=X at *;have a1:=fun b0=>HR (H:=[b0,.row 1 (X.map I) 0]) (i:=1) (n:=2+2*set.length) (xs:=[mn,mx,md,n,0,(kids.length:Int)]) (t:=true) (rs:=X) (z:=0) rfl (zero_le _) hXl (by simp;omega);have hX2:(X++[mn,mx,md,n,0,(kids.length:Int)]).length=2+2*set.length+6:=by simp[hXl]
   simp only[set_cons_succ,List.set_cons_zero,map_cons,map_nil,length_cons,length_nil,zero_add,Nat.reduceAdd]at a1;generalize X++[mn,mx,md,n,0,(kids.length:Int)]=X2 at *;simp +contextual -implicitDefEqProofs (disch:=omega) only[Tryz.f69,dd69,go_sem,simprocAttr,mu69,↓AD,↓AC,↓AB,↓AA,a1];rw[BG (z:=0) rfl (by simpa using hX2) (AJ X2)];exact⟨_,rfl⟩
 ·simp +contextual -implicitDefEqProofs (disch:=omega) only[Tryz.f69,dd69,go_sem,simprocAttr,evAppend,map_append,mu69,↓AD,↓AC,↓AB,↓AA];refine AY (M:=(mskOf (pol1.mask 69) (pol1.gc 69) (pol1.acts 69) 0 6)) (by rfl) set.length (fun i=>(⟨51,[(5,I i),(4,.ms 1 1 (2+2*i) 0 (2+2*i)),(3,I 1),(1,.rf 0 1 0 0)],[.row 8 [.agg (nodeL op set kids mn mx md n true)] 0,.row 1 ((op::(set.length:Int)::(set.take i).flatMap (fun p=>[p.1,p.2])).map I) 0]⟩:St)) (fun _=>True) ?_ ?_ trivial _ (by first|rfl|(refine AR rfl (by rfl) (by rfl) (by rfl) ?_ ?_<;>simp[AV.underL,AV.under,MB.under,AE,AK,AJ,AF,AN,AO,-map_take,AG,AF]))
  ·intro i hi _;obtain⟨p,hp⟩:∃ p,set[i]?=some p:=⟨_,getElem?_eq_getElem hi⟩;have hp':(set.map spanAV)[i]?=some (spanAV p):=by simp[hp]
   have hlt:(i:Int)<(set.length:Int):=by omega
   have hft:=E8 hp;have hfl:=BC (set.take i);rw[List.length_take,Nat.min_eq_left (by omega)]at hfl;rw[hft,show op::(set.length:Int)::((set.take i).flatMap (fun p=>[p.1,p.2])++[p.1,p.2])=(op::(set.length:Int)::(set.take i).flatMap (fun p=>[p.1,p.2]))++[p.1,p.2] from rfl,show 2+2*(i+1)=2+2*i+2 by omega];have hXl:(op::(set.length:Int)::(set.take i).flatMap (fun p=>[p.1,p.2])).length=2+2*i:=by simp only[length_cons,hfl];omega
   generalize op::(set.length:Int)::(set.take i).flatMap (fun p=>[p.1,p.2])=X at *;have a1:=fun b0=>HR (H:=[b0,.row 1 (X.map I) 0]) (i:=1) (n:=2+2*i) (xs:=[p.1,p.2]) (t:=true) (rs:=X) (z:=0) rfl (zero_le _) hXl (by simp;omega);simp only[set_cons_succ,List.set_cons_zero,map_cons,map_nil,length_cons,length_nil,zero_add,Nat.reduceAdd]at a1;simp +contextual -implicitDefEqProofs (disch:=omega) only[Tryz.f69,dd69,go_sem,simprocAttr,mu69,↓AD,↓AC,↓AB,↓AA,hp',hlt,a1];repeat' (first|intro _|apply And.intro|(unfold dOk;kernel_rfl)|exact St.beq_refl _|exact AP|(show altO _ _ _ _=true;kernel_rfl)|(show (_||_)=true;kernel_rfl)|(show (_&&_)=true;kernel_rfl))
   generalize X++[p.1,p.2]=X2;exact(by first|rfl|(refine AR rfl (by rfl) (by rfl) (by rfl) ?_ ?_<;>simp[AV.underL,AV.under,MB.under,AE,AK,AJ,AF,AN,AO,-map_take,AJ,AG,AF]))
  ·intro _;rw[take_length];have hfl:=BC set;have hXl:(op::(set.length:Int)::set.flatMap (fun p=>[p.1,p.2])).length=2+2*set.length:=by simp only[length_cons,hfl];omega
   rw[show op::(set.length:Int)::(set.flatMap (fun p=>[p.1,p.2])++[mn,mx,md,n,neg01 true,(kids.length:Int)])=(op::(set.length:Int)::set.flatMap (fun p=>[p.1,p.2]))++[mn,mx,md,n,1,(kids.length:Int)] from rfl];generalize op::(set.length:Int)::set.flatMap (fun p=>[p.1,p.2])=X at *;have a1:=fun b0=>HR (H:=[b0,.row 1 (X.map I) 0]) (i:=1) (n:=2+2*set.length) (xs:=[mn,mx,md,n,1,(kids.length:Int)]) (t:=true) (rs:=X) (z:=0) rfl (zero_le _) hXl (by simp;omega);have hX2:(X++[mn,mx,md,n,1,(kids.length:Int)]).length=2+2*set.length+6:=by simp[hXl]
   simp only[set_cons_succ,List.set_cons_zero,map_cons,map_nil,length_cons,length_nil,zero_add,Nat.reduceAdd]at a1;generalize X++[mn,mx,md,n,1,(kids.length:Int)]=X2 at *;simp +contextual -implicitDefEqProofs (disch:=omega) only[Tryz.f69,dd69,go_sem,simprocAttr,mu69,↓AD,↓AC,↓AB,↓AA,a1];rw[BG (z:=0) rfl (by simpa using hX2) (AJ X2)];exact⟨_,rfl⟩
theorem IL (r:Re):(nodeK r).length=8+2*r.set.length:=by
 rw[Cy];have:=BC r.set;cases r;simp only[tailK,length_cons,length_append,length_nil,this]at *;omega
theorem d36:∀(N:Nat) (a b:Re),a.wt<=N->a.wt<=100000000->b.wt<=100000000->∀ H,call Pg pol1 36 [reAV a,reAV b] H=some (I (cmpR a b),H):=by
 intro N
 induction N with
 | zero=>intro a b h;have:=a.wt_pos;omega
 | succ N ihN=>
   intro a b h hwa hwb H;have hxa:=d69 a hwa;have hxb:=d69 b hwb;have hce:=Jf a b;have hla:=IL a;have hlb:=IL b;have hzl:(nodeK a).zip (nodeK b)=(nodeK a).zip (nodeK b):=rfl;have hlex:lexI (nodeK a) (nodeK b)=lexP ((nodeK a).zip (nodeK b)):=Ei;have hsa:=Re.wt_sub a;have hsb:=Re.wt_sub b;have heq:lexI (nodeK a) (nodeK b)=0->(nodeK a).length=(nodeK b).length/\a.sub.length=b.sub.length:=fun h0=>by
    have hn:=Cx h0;refine⟨by rw[hn],?_⟩;obtain⟨op,set,kids,mn,mx,md,n,neg⟩:=a;obtain⟨op',set',kids',mn',mx',md',n',neg'⟩:=b;exact(JL hn).2.2.1
   have ih:=fun k (hk:k∈a.sub) k' (hk':k'∈b.sub)=>ihN k k' (by have:=Re.wtL_mem hk;omega) (by have:=Re.wtL_mem hk;omega) (by have:=Re.wtL_mem hk';omega);obtain⟨op,set,kids,mn,mx,md,n,neg⟩:=a;obtain⟨op',set',kids',mn',mx',md',n',neg'⟩:=b;simp only[Re.sub,Re.set]at *;have hkl:=Re.wtL_len kids;have hkl':=Re.wtL_len kids';refine AS Tryz.func36 rfl rfl rfl rfl rfl rfl (fun _=>rfl) (by simp[AV.plain,AV.plainL,AM]) rfl ?_ H;have ea:reAV (.mk op set kids mn mx md n neg)=.agg (nodeL op set kids mn mx md n neg):=congrArg AV.agg Ai;have eb:reAV (.mk op' set' kids' mn' mx' md' n' neg')=.agg (nodeL op' set' kids' mn' mx' md' n' neg'):=congrArg AV.agg Ai;rw[ea]at hxa |-;rw[eb]at hxb |-;rw[hce];clear hce;rw[hlex]at heq |-;clear hlex;generalize hx:nodeK (.mk op set kids mn mx md n neg)=x at *;generalize hy:nodeK (.mk op' set' kids' mn' mx' md' n' neg')=y at *;generalize hz:x.zip y=z at *;have hzlen:z.length=min x.length y.length:=by rw[<- hz,List.length_zip]
   simp +contextual -implicitDefEqProofs (disch:=omega) only[Tryz.f36,dd36,go_sem,simprocAttr,evAppend,map_append,mu36,↓AD,↓AC,↓AB,↓AA,hxa,hxb];refine AY (M:=(mskOf (pol1.mask 36) (pol1.gc 36) (pol1.acts 36) 0 4)) (by rfl) z.length (fun i=>(⟨65,[(7,I i),(6,.sl false (y.map I)),(5,.sl false (x.map I)),(3,.rf 1 1 0 0),(2,.rf 0 1 0 0)],[.row 8 [.agg (nodeL op set kids mn mx md n neg)] 0,.row 8 [.agg (nodeL op' set' kids' mn' mx' md' n' neg')] 0]⟩:St)) (fun i=>lexP (z.take i)=0) ?_ ?_ rfl _ (by first|rfl|(refine AR rfl (by rfl) (by rfl) (by rfl) ?_ ?_<;>simp[AV.underL,AV.under,MB.under,AE,AK,AJ,AF,AN,AO,-map_take,AG,AF,AJ]))
   ·intro i hi hinv;obtain⟨u,hu⟩:∃ u,x[i]?=some u:=⟨_,getElem?_eq_getElem (by omega)⟩;obtain⟨v,hv⟩:∃ v,y[i]?=some v:=⟨_,getElem?_eq_getElem (by omega)⟩;have hzi:z[i]?=some (u,v):=by rw[<- hz,List.getElem?_zip_eq_some];exact⟨hu,hv⟩
    have hu':(x.map I)[i]?=some (I u):=by simp[hu]
    have hv':(y.map I)[i]?=some (I v):=by simp[hv]
    have hlt:(i:Int)<(x.length:Int):=by omega
    have hlt2:(i:Int)<(y.length:Int):=by omega
    have hst:lexP (z.take (i+1))=lexP [(u,v)]:=by rw[AX hzi,Bt,hinv];simp
    have hall:lexP [(u,v)]≠0->lexP z=lexP [(u,v)]:=fun h=>by
     conv=>lhs;rw[<- List.take_append_drop (i+1) z,Bt,hst,if_pos h]
    simp only[lexP]at hst hall;by_cases h1:u<v
    ·rw[if_pos h1]at hall;rw[hall (by omega),if_pos (by omega)];simp +contextual -implicitDefEqProofs (disch:=omega) only[Tryz.f36,dd36,go_sem,simprocAttr,evAppend,map_append,mu36,↓AD,↓AC,↓AB,↓AA,hu',hv',hlt,hlt2,h1];repeat' (first|intro _|apply And.intro|(unfold dOk;kernel_rfl)|exact St.beq_refl _|exact AP|(show altO _ _ _ _=true;kernel_rfl)|(show (_||_)=true;kernel_rfl)|(show (_&&_)=true;kernel_rfl))
     exact fzEq rfl rfl
    ·by_cases h2:v<u
     ·rw[if_neg h1,if_pos h2]at hall;rw[hall (by omega),if_pos (by omega)];simp +contextual -implicitDefEqProofs (disch:=omega) only[Tryz.f36,dd36,go_sem,simprocAttr,evAppend,map_append,mu36,↓AD,↓AC,↓AB,↓AA,hu',hv',hlt,hlt2,h1,h2];repeat' (first|intro _|apply And.intro|(unfold dOk;kernel_rfl)|exact St.beq_refl _|exact AP|(show altO _ _ _ _=true;kernel_rfl)|(show (_||_)=true;kernel_rfl)|(show (_&&_)=true;kernel_rfl))
      exact fzEq rfl rfl
     ·rw[if_neg h1,if_neg h2]at hst;simp +contextual -implicitDefEqProofs (disch:=omega) only[Tryz.f36,dd36,go_sem,simprocAttr,evAppend,map_append,mu36,↓AD,↓AC,↓AB,↓AA,hu',hv',hlt,hlt2,h1,h2];repeat' (first|intro _|apply And.intro|(unfold dOk;kernel_rfl)|exact St.beq_refl _|exact AP|(show altO _ _ _ _=true;kernel_rfl)|(show (_||_)=true;kernel_rfl)|(show (_&&_)=true;kernel_rfl))
      ·exact hst
      ·exact(by first|rfl|(refine AR rfl (by rfl) (by rfl) (by rfl) ?_ ?_<;>simp[AV.underL,AV.under,MB.under,AE,AK,AJ,AF,AN,AO,-map_take,AG,AF,AJ]))
   ·intro hinv;rw[take_length]at hinv;obtain⟨q1,q2⟩:=heq hinv;rw[hinv,if_neg (by simp)];have hnl:¬ ((z.length:Nat):Int)<(x.length:Int):=by omega
    simp +contextual -implicitDefEqProofs (disch:=omega) only[Tryz.f36,dd36,go_sem,simprocAttr,evAppend,map_append,mu36,↓AD,↓AC,↓AB,↓AA,hnl];refine AY (M:=(mskOf (pol1.mask 36) (pol1.gc 36) (pol1.acts 36) 0 11)) (by rfl) kids.length (fun i=>(⟨65,[(8,I i),(3,.rf 1 1 0 0),(2,.rf 0 1 0 0)],[.row 8 [.agg (nodeL op set kids mn mx md n neg)] 0,.row 8 [.agg (nodeL op' set' kids' mn' mx' md' n' neg')] 0]⟩:St)) (fun i=>cmpL (kids.take i) (kids'.take i)=0) ?_ ?_ rfl _ (by first|rfl|(refine AR rfl (by rfl) (by rfl) (by rfl) ?_ ?_<;>simp[AV.underL,AV.under,MB.under,AE,AK,AJ,AF,AN,AO,-map_take,AG,AF,AJ]))
    ·intro i hi hinv;obtain⟨k,hk⟩:∃ k,kids[i]?=some k:=⟨_,getElem?_eq_getElem hi⟩;obtain⟨k',hk'⟩:∃ k,kids'[i]?=some k:=⟨_,getElem?_eq_getElem (by omega)⟩;have ihk:=ih k (mem_of_getElem? hk) k' (mem_of_getElem? hk');have g1:=BB hk;have g2:=BB hk';have hlt:(i:Int)<(kids.length:Int):=by omega
     have hlt2:(i:Int)<(kids'.length:Int):=by omega
     have hst:cmpL (kids.take (i+1)) (kids'.take (i+1))=cmpR k k':=by
      rw[AX hk,AX hk',FG _ _ (by simp;omega) hinv];rcases B9 k k' [] [] with ⟨h2,e2⟩|⟨h2,e2⟩
      ·rw[e2,h2];rfl
      ·exact e2
     by_cases hc:cmpR k k' = 0
     ·rw[hc]at hst ihk;simp +contextual -implicitDefEqProofs (disch:=omega) only[Tryz.f36,dd36,go_sem,simprocAttr,evAppend,map_append,mu36,↓AD,↓AC,↓AB,↓AA,g1,g2,hlt,hlt2,ihk,AH,AI,AL];repeat' (first|intro _|apply And.intro|(unfold dOk;kernel_rfl)|exact St.beq_refl _|exact AP|(show altO _ _ _ _=true;kernel_rfl)|(show (_||_)=true;kernel_rfl)|(show (_&&_)=true;kernel_rfl))
      ·exact hst
      ·exact(by first|rfl|(refine AR rfl (by rfl) (by rfl) (by rfl) ?_ ?_<;>simp[AV.underL,AV.under,MB.under,AE,AK,AJ,AF,AN,AO,-map_take,AG,AF,AJ]))
     ·have hall:cmpL kids kids' = cmpR k k':=by
       conv=>lhs;rw[<- List.take_append_drop (i+1) kids,<- List.take_append_drop (i+1) kids',FF _ _ (by simp;omega) (by rw[hst];exact hc),hst]
      rw[hall];generalize cmpR k k' = c at *;simp +contextual -implicitDefEqProofs (disch:=omega) only[Tryz.f36,dd36,go_sem,simprocAttr,evAppend,map_append,mu36,↓AD,↓AC,↓AB,↓AA,g1,g2,hlt,hlt2,ihk,hc,AH,AI,AL];repeat' (first|intro _|apply And.intro|(unfold dOk;kernel_rfl)|exact St.beq_refl _|exact AP|(show altO _ _ _ _=true;kernel_rfl)|(show (_||_)=true;kernel_rfl)|(show (_&&_)=true;kernel_rfl))
      exact fzEq rfl rfl
    ·intro hinv;rw[take_length,take_of_length_le (by omega)]at hinv;rw[hinv];simp +contextual -implicitDefEqProofs (disch:=omega) only[Tryz.f36,dd36,go_sem,simprocAttr,evAppend,map_append,mu36,↓AD,↓AC,↓AB,↓AA];exact fzEq rfl rfl
end
section
attribute [local go_sem] evAppend evBin map_append
def runR:List Int->Re->Option Re
 | [],t=>some t
 | x::xs,t=>match stepR x t with
   | some r=>runR xs r
   | none=>none
theorem IB:∀ {xs:List Int}{x:Int}{t:Re},runR (xs++[x]) t=(runR xs t).bind (stepR x)
 | [],x,t=>by
   simp only[nil_append,runR,Option.bind_some];cases stepR x t<;>rfl
 | y::xs,x,t=>by
   simp only[cons_append,runR];cases stepR y t with
   | none=>rfl
   | some r=>exact IB
theorem IC:∀ {xs ys:List Int}{t:Re},runR xs t=none->runR (xs++ys) t=none
 | [],ys,t,h=>by simp[runR]at h
 | y::xs,ys,t,h=>by
   simp only[cons_append,runR]at h |-;cases hs:stepR y t with
   | none=>rfl
   | some r=>rw[hs]at h;exact IC h
def wA:Option Re->AV
 | some r=>.tup [.bool (nullG r),I 0]
 | none=>.tup [.bool false,I 4]
def resW (t:Re) (xs:List Int):Option Re:=if badR t=true then none else runR xs (nf t)
theorem FN {t:Re} (hok:OkD t) (hs:t.size<=256) (hb:badR t=false):StT (nf t):=⟨Fa hok hb,Nat.le_trans (MR hok) hs⟩
end
section
attribute [local go_sem] map_append
abbrev B8 (n:Int):AV:=.int .u8 n
theorem BX (l:List Int):AV.plainL (l.map B8)=true:=by
 induction l with
 | nil=>rfl
 | cons a l ih=>simp[AV.plainL,ih];rfl
section
variable {α:Type} (A K:List α) (x y v:α)
theorem Ed:(A++x::K)[A.length]?=some x:=by simp
theorem Cw:(A++x::y::K)[A.length+1]?=some y:=by
 rw[getElem?_append_right (by omega)];simp
theorem Ec:(A++x::K).set A.length v=A++v::K:=by simp
theorem DW:(A++x::y::K).set (A.length+1) v=A++x::v::K:=by
 rw[List.set_append_right _ _ (by omega)];simp
end
abbrev wrH (A:List MB) (bs:List Int) (n:Nat) (K:List MB):List MB:=A++.row 1 [.agg [.ms (A.length+1) 1 n 0 n]] 0::.row 1 (bs.map B8) 0::K
theorem SF {n:Nat} (h:128<=n):evBin .or .u8 (IntKind.u8.wrap n) 128=some (B8 ((128+n % 128:Nat):Int)):=by
 have key:∀ m:Fin 256,IntKind.u8.wrap (BitVec.ofInt IntKind.u8.bits ((m.val:Nat):Int) ||| BitVec.ofInt IntKind.u8.bits 128).toNat=((128+m.val % 128:Nat):Int):=by decide +kernel
 have hw:IntKind.u8.wrap n=((n % 256:Nat):Int):=by simp[IntKind.wrap,IntKind.signed,IntKind.bits]
 rw[hw];have:=key ⟨n % 256,Nat.mod_lt _ (by omega)⟩;simp only[show n % 256 % 128=n % 128 by omega]at this;simp only[evBin,this]
theorem shr7 (n:Nat):evShift .shr .u64 n 7=some (.int .u64 ((n / 128:Nat):Int)):=by
 simp only[evShift];simp;rw[Int.fdiv_eq_ediv_of_nonneg _ (by decide)];rfl
section
variable {k:IntKind}{a b:Int}
theorem Ja:evBin .geq k a b=some (.bool (decide (a >= b))):=rfl
end
theorem Rx {n:Nat} (h:n<256):IntKind.u8.wrap n=(n:Int):=by
 simp[IntKind.wrap,IntKind.signed,IntKind.bits];omega
theorem K4 {n:Nat} (h:n<18446744073709551616):IntKind.u64.wrap n=(n:Int):=by
 simp[IntKind.wrap,IntKind.signed,IntKind.bits];omega
theorem Rm {H:List MB}{i n z:Nat}{bs cs:List Int}{t:Bool} (hi:getRow H i=some (1,bs.map B8,z)) (hn:bs.length=n) (hz:z<=n) (hr:n+cs.length<=4000000000) :
  evAppend Pg H 98 98 (.ms i 1 n 0 n) (.sl t (cs.map B8))=some (.ms i 1 (n+cs.length) 0 (n+cs.length),H.set i (.row 1 ((bs++cs).map B8) z)):=by
 have hs:srcElems Pg H 5 (.sl t (cs.map B8))=some (cs.map B8):=rfl;rw[Ao (e:=5) (by kernel_rfl) (by kernel_rfl) (k:=1) (by kernel_rfl) (by_:=1) (by kernel_rfl) (ze:=B8 0) (by kernel_rfl) rfl (by omega) hs (by rw[all_eq_true];intro x hx;obtain⟨c,_,rfl⟩:=mem_map.1 hx;rfl) hi (by rw[length_map];exact hn) hz (Ag (by rw[length_map];exact hr) (by omega))];rw[length_map,map_append]
theorem Mp {H:List MB}{i n z:Nat}{bs:List Int}{c:Int}{t:Bool} (hi:getRow H i=some (1,bs.map B8,z)) (hn:bs.length=n) (hz:z<=n) (hr:n+1<=4000000000) :
  evAppend Pg H 98 98 (.ms i 1 n 0 n) (.sl t [B8 c])=some (.ms i 1 (n+1) 0 (n+1),H.set i (.row 1 ((bs++[c]).map B8) z)):=
 Rm (cs:=[c]) hi hn hz hr
theorem K1 {A K:List MB}{bs:List Int}{n:Nat}:getRow (wrH A bs n K) (A.length+1)=some (1,bs.map B8,0):=by
 unfold getRow;rw[Cw]
theorem Qx (A K:List MB) (bs:List Int) (v:Nat) (hv:v<18446744073709551616) (n:Nat) (hn:bs.length=n) (hb:n<=1000000000) :
  call Pg pol1 115 [.rf A.length 1 0 0,.int .u64 v] (wrH A bs n K)=some (.tup [],wrH A (bs++vI v) (n+(vI v).length) K):=by
 have fr:frzArgs pol1 115 0 [.rf A.length 1 0 0,.int .u64 v] (wrH A bs n K)=some ([.rf A.length 1 0 0,.int .u64 v],wrH A bs n K):=AQ _ _ _ rfl;refine AT (pol:=pol1) Tryz.func115 rfl rfl rfl rfl fr ?_;have rp:∀ H1 r H,retPol pol1 115 H1 r H=some (r,H):=fun H1 r H=>rfl;have h0:=EN hv;simp +contextual -implicitDefEqProofs (disch:=omega) only[Tryz.f115,PA,go_sem,simprocAttr,Of,↓AD,↓AC,↓AB,↓AA,Ja];refine Ft (σ:=Nat×List Int×Nat) (M:=⟨some [1,0],none,[]⟩) rfl (fun x=>(⟨31,[(1,.int .u64 (x.1:Nat)),(0,.rf A.length 1 0 0)],wrH A x.2.1 x.2.2 K⟩:St)) (fun x=>x.1<=v/\x.2.1.length=x.2.2/\x.2.1++vI x.1=bs++vI v/\x.2.2+(vI x.1).length=n+(vI v).length) (fun x=>x.1) (v,bs,n) ?_ ⟨le_refl _,hn,rfl,rfl⟩ _ rfl;rintro⟨w,cs,m⟩ ⟨hw,hm,he,hl⟩;simp only at hw hm he hl |-;have happ:=fun c=>Mp (H:=wrH A cs m K) (i:=A.length+1) (n:=m) (z:=0) (bs:=cs) (c:=c) (t:=true) K1 hm (zero_le _) (by have:=RB w;omega);by_cases hg:128<=w
 ·have ho:=SF hg;have hs:=shr7 w;simp +contextual -implicitDefEqProofs (disch:=omega) only[Tryz.f115,PA,go_sem,simprocAttr,Of,↓AD,↓AC,↓AB,↓AA,Ja,Ed,Cw,Ec,DW,ho,hs,happ];rw[GB hg]at he hl;refine⟨(w / 128,cs++[((128+w % 128:Nat):Int)],m+1),⟨?_,?_,?_,?_⟩,?_,?_⟩
  ·show w / 128<=v;omega
  ·simp[hm]
  ·rw[<- he];simp
  ·rw[<- hl];simp;omega
  ·show w / 128<w;omega
  ·have hm1:List.map B8 cs++[B8 ((128+w % 128:Nat):Int)]=(cs++[((128+w % 128:Nat):Int)]).map B8:=by simp
   rw[hm1];rfl
 ·have hc:=Rx (n:=w) (by omega);simp +contextual -implicitDefEqProofs (disch:=omega) only[Tryz.f115,PA,go_sem,simprocAttr,Of,↓AD,↓AC,↓AB,↓AA,Ja,Ed,Cw,Ec,DW,hc,happ];rw[FR (by omega)]at he hl;rw[rp,<- he,<- hl];simp
theorem Kz (a:Nat) (h:a<18446744073709551616):evBin .xor .u64 a 0=some (.int .u64 a):=by
 have:(BitVec.ofInt IntKind.u64.bits (a:Int) ^^^ BitVec.ofInt IntKind.u64.bits 0).toNat=a:=by
  show (BitVec.ofInt 64 (a:Int) ^^^ BitVec.ofInt 64 0).toNat=a;rw[show BitVec.ofInt 64 0=0#64 from rfl,BitVec.xor_zero,BitVec.ofInt_natCast,BitVec.toNat_ofNat];omega
 simp only[evBin,this,K4 h]
theorem K0 (a:Nat) (h:a<18446744073709551616):evBin .xor .u64 a 18446744073709551615=some (.int .u64 ((18446744073709551615-a:Nat):Int)):=by
 have:(BitVec.ofInt IntKind.u64.bits (a:Int) ^^^ BitVec.ofInt IntKind.u64.bits 18446744073709551615).toNat=18446744073709551615-a:=by
  show (BitVec.ofInt 64 (a:Int) ^^^ BitVec.ofInt 64 18446744073709551615).toNat=_;rw[show BitVec.ofInt 64 18446744073709551615=BitVec.allOnes 64 from rfl,BitVec.xor_allOnes,BitVec.toNat_not,BitVec.ofInt_natCast,BitVec.toNat_ofNat];omega
 simp only[evBin,this];rw[K4 (by omega)]
theorem shl1 (a:Int):evShift .shl .u64 a 1=some (.int .u64 (IntKind.u64.wrap (a*2))):=rfl
theorem R7 (a:Int):evShift .shr .i64 a 63=some (.int .i64 (a.fdiv 9223372036854775808)):=rfl
theorem Rw (n:Int) (h:-9223372036854775808<=n/\n<=9223372036854775807) :
  evBin .xor .u64 (IntKind.u64.wrap (IntKind.u64.wrap n*2)) (IntKind.u64.wrap (n.fdiv 9223372036854775808))=some (.int .u64 (zz n:Nat)):=by
 rw[Int.fdiv_eq_ediv_of_nonneg _ (by decide)];by_cases h0:n<0
 ·have e1:IntKind.u64.wrap (IntKind.u64.wrap n*2)=((18446744073709551615-zz n:Nat):Int):=by
   rw[IntKind.wrap_u64,IntKind.wrap_u64];unfold zz;rw[if_pos h0];omega
  have e2:IntKind.u64.wrap (n / 9223372036854775808)=18446744073709551615:=by
   rw[IntKind.wrap_u64];omega
  have:=ME h;rw[e1,e2,K0 _ (by omega)];rw[show 18446744073709551615-(18446744073709551615-zz n)=zz n by omega]
 ·have e1:IntKind.u64.wrap (IntKind.u64.wrap n*2)=(zz n:Nat):=by
   rw[IntKind.wrap_u64,IntKind.wrap_u64];unfold zz;rw[if_neg h0];omega
  have e2:IntKind.u64.wrap (n / 9223372036854775808)=0:=by
   rw[IntKind.wrap_u64];omega
  rw[e1,e2,Kz _ (ME h)]
theorem wf83 (A K:List MB) (bs:List Int) (v:Int) (hv:-9223372036854775808<=v/\v<=9223372036854775807) (n:Nat) (hn:bs.length=n) (hb:n<=1000000000) :
  call Pg pol1 83 [.rf A.length 1 0 0,I v] (wrH A bs n K)=some (.tup [],wrH A (bs++iE v) (n+(iE v).length) K):=by
 have fr:frzArgs pol1 83 0 [.rf A.length 1 0 0,I v] (wrH A bs n K)=some ([.rf A.length 1 0 0,I v],wrH A bs n K):=AQ _ _ _ rfl;refine AT (pol:=pol1) Tryz.func83 rfl rfl rfl rfl fr ?_;have rp:∀ H1 r H,retPol pol1 83 H1 r H=some (r,H):=fun H1 r H=>rfl;have h80:=Qx A K bs (zz v) (ME hv) n hn hb;have hz:=Rw v hv;simp +contextual -implicitDefEqProofs (disch:=omega) only[Tryz.f83,dd83,go_sem,simprocAttr,mu83,↓AD,↓AC,↓AB,↓AA,h80,hz,shl1,R7];rw[rp];rfl
theorem wf84 (A K:List MB) (bs:List Int) (v:Bool) (n:Nat) (hn:bs.length=n) (hb:n<=1000000000) :
  call Pg pol1 84 [.rf A.length 1 0 0,.bool v] (wrH A bs n K)=some (.tup [],wrH A (bs++boolE v) (n+1) K):=by
 have fr:frzArgs pol1 84 0 [.rf A.length 1 0 0,.bool v] (wrH A bs n K)=some ([.rf A.length 1 0 0,.bool v],wrH A bs n K):=AQ _ _ _ rfl;refine AT (pol:=pol1) Tryz.func84 rfl rfl rfl rfl fr ?_;have rp:∀ H1 r H,retPol pol1 84 H1 r H=some (r,H):=fun H1 r H=>rfl;have happ:=fun c=>Mp (H:=wrH A bs n K) (i:=A.length+1) (n:=n) (z:=0) (bs:=bs) (c:=c) (t:=true) K1 hn (zero_le _) (by omega);cases v
 ·simp +contextual -implicitDefEqProofs (disch:=omega) only[Tryz.f84,dd84,go_sem,simprocAttr,evBin,mu84,↓AD,↓AC,↓AB,↓AA,ty5,Ed,Cw,Ec,DW,happ];rw[rp];simp[boolE]
 ·simp +contextual -implicitDefEqProofs (disch:=omega) only[Tryz.f84,dd84,go_sem,simprocAttr,evBin,mu84,↓AD,↓AC,↓AB,↓AA,ty5,Ed,Cw,Ec,DW,happ];rw[rp];simp[boolE]
theorem M3 {f k n:Nat} (hk:pol1.keep f=false) (ho:pol1.own f=false) (H:List MB) (els:List AV) (hn:els.length=n) (hp:AV.plainL els=true) :
  retPol pol1 f H (.ms H.length k n 0 n) (H++[.row k els 0])=some (.sl false els,H):=by
 subst hn;have hr:getRow (H++[.row k els 0]) H.length=some (k,els,0):=by simp[getRow]
 have h1:fz (.ms H.length k els.length 0 els.length) (H++[.row k els 0])=some (.sl false els,H++[.row k els els.length]):=by
  rw[BG hr rfl hp];unfold mark;rw[hr];simp
 have h2:=BL H.length [.row k els els.length] H;unfold retPol;simp only[hk,ho,Bool.false_eq_true,if_false,h1,AV.under,AE H.length els hp,h2,and_self,if_true];simp
theorem PF (bs:List Int):(bs.map B8).all (fun y=>decide (y.cells.length=1)&&y.cells.all AV.ok)=true:=by
 rw[all_eq_true];intro x hx;obtain⟨c,_,rfl⟩:=mem_map.1 hx;rfl
theorem Ql {H:List MB}{x:AV}{bs:List Int}{n:Nat} (hs:srcElems Pg H 5 x=some (bs.map B8)) (h0:bs≠[]) (hn:bs.length=n) (hr:n<=4000000000) :
  evAppend Pg H 98 98 (.sl true []) x=some (.ms H.length 1 n 0 n,H++[.row 1 (bs.map B8) 0]):=by
 subst hn;obtain⟨b,bs',rfl⟩:=List.exists_cons_of_ne_nil h0;have e1:tyElem Pg 98=some 5:=by kernel_rfl
 have e2:tyNotInt Pg 98=true:=by kernel_rfl
 have e3:tySz Pg 5=some 1:=by kernel_rfl
 have e4:tyBytes Pg 5=some 1:=by kernel_rfl
 have e5:tyZero Pg 5=some (B8 0):=by kernel_rfl
 unfold evAppend;simp only[e1,e2,e3,e4,e5,hs];rw[if_pos ⟨PF _,by omega,rfl⟩];have hroom:=Ag (n:=0+((b::bs').map B8).length) (b:=1) (by rw[length_map];omega) (by omega);simp only[map_cons]at hroom |-;simp only[length_nil];rw[if_pos ⟨trivial,hroom,rfl⟩];simp
theorem RN {H:List MB}{i n z:Nat}{bs:List Int} (hi:getRow H i=some (1,bs.map B8,z)) (hn:bs.length=n):srcElems Pg H 5 (.ms i 1 n 0 n)=some (bs.map B8):=by
 subst hn;simp only[srcElems,elemsOf,hi];rw[if_pos ⟨by rw[length_map],trivial⟩,List.drop_zero,take_of_length_le (by rw[length_map];exact le_refl _)]
theorem wf88 (A K:List MB) (bs:List Int) (n:Nat) (hn:bs.length=n) (hb:n<=1000000000) (h0:bs≠[]) :
  call Pg pol1 88 [.rf A.length 1 0 0] (wrH A bs n K)=some (.sl false (bs.map B8),wrH A bs n K):=by
 have fr:frzArgs pol1 88 0 [.rf A.length 1 0 0] (wrH A bs n K)=some ([.rf A.length 1 0 0],wrH A bs n K):=AQ _ _ _ rfl;refine AT (pol:=pol1) Tryz.func88 rfl rfl rfl rfl fr ?_;have happ:=Ql (H:=wrH A bs n K) (RN (i:=A.length+1) K1 hn) h0 hn (by omega);simp +contextual -implicitDefEqProofs (disch:=omega) only[Tryz.f88,dd88,go_sem,simprocAttr,evBin,mu88,↓AD,↓AC,↓AB,↓AA,ty5,Ed,Cw,Ec,DW,happ];have hl:A.length+(K.length+1+1)=(wrH A bs n K).length:=by simp
 rw[hl];exact M3 rfl rfl _ _ (by rw[length_map];exact hn) (BX _)
theorem E4 {v:Int} (h:In64 v):(iE v).length<=10:=EN (ME h)
end
section
attribute [local go_sem] evBin
theorem Ik {l:List Int} (h:∀ x∈l,In64 x):(l.flatMap iE).length<=10*l.length:=by
 induction l with
 | nil=>simp
 | cons x l ih=>
   have h1:=ih fun q hq=>h q (mem_cons_of_mem _ hq);have h2:=E4 (h x (by simp));simp only[List.flatMap_cons,length_append,length_cons];omega
theorem wf86 (A K:List MB) (bs l:List Int) (hl:∀ x∈l,In64 x) (hll:l.length<=10000000) (n:Nat) (hn:bs.length=n) (hb:n<=500000000) :
  call Pg pol1 86 [.rf A.length 1 0 0,.sl false (l.map I)] (wrH A bs n K)=some (.tup [],wrH A (bs++intsE l) (n+(intsE l).length) K):=by
 have fr:frzArgs pol1 86 0 [.rf A.length 1 0 0,.sl false (l.map I)] (wrH A bs n K)=some ([.rf A.length 1 0 0,.sl false (l.map I)],wrH A bs n K):=AQ _ _ _ (by simp[mixOk,show pol1.byref 86 0=true from rfl,AV.plain,AJ]);refine AT (pol:=pol1) Tryz.func86 rfl rfl rfl rfl fr ?_;have rp:∀ H1 r H,retPol pol1 86 H1 r H=some (r,H):=fun H1 r H=>rfl;have h115:=Qx A K bs l.length (by omega) n hn (by omega);have hw:=K4 (n:=l.length) (by omega);have hvl:=EN (n:=l.length) (by omega);have hX0:(bs++vI l.length).length=n+(vI l.length).length:=by simp[hn]
 have hIE:intsE l=vI l.length++l.flatMap iE:=rfl;rw[hIE];simp +contextual -implicitDefEqProofs (disch:=omega) only[Tryz.f86,dd86,go_sem,simprocAttr,evAppend,map_append,mu86,↓AD,↓AC,↓AB,↓AA,h115,hw];refine AY (M:=⟨some [13,12,11,0],none,[]⟩) (by rfl) l.length (fun i=>(⟨21,[(13,I i),(12,I l.length),(11,.sl false (l.map I)),(0,.rf A.length 1 0 0)],wrH A ((bs++vI l.length)++(l.take i).flatMap iE) ((n+(vI l.length).length)+((l.take i).flatMap iE).length) K⟩:St)) (fun _=>True) ?_ ?_ trivial _ ?_
 ·intro i hi _;obtain⟨x,hx⟩:∃ x,l[i]?=some x:=⟨_,getElem?_eq_getElem hi⟩;have hx':(l.map I)[i]?=some (I x):=by simp[hx]
  have hlt:(i:Int)<(l.length:Int):=by omega
  have hst:(l.take (i+1)).flatMap iE=(l.take i).flatMap iE++iE x:=by rw[AX hx,List.flatMap_append];simp
  have hfl:=Ik (l:=l.take i) fun q hq=>hl q (List.mem_of_mem_take hq);rw[List.length_take]at hfl;rw[hst];have hm:n+(vI l.length).length<=500000010:=by omega
  generalize bs++vI l.length=X at *;generalize n+(vI l.length).length=m at *;generalize (l.take i).flatMap iE=Y at *;have h83:=wf83 A K (X++Y) x (hl x (mem_of_getElem? hx)) (m+Y.length) (by simp[hX0]) (by omega);simp +contextual -implicitDefEqProofs (disch:=omega) only[Tryz.f86,dd86,go_sem,simprocAttr,evAppend,map_append,mu86,↓AD,↓AC,↓AB,↓AA,hx',hlt,h83];rw[append_assoc,add_assoc];rfl
 ·intro _;rw[take_length];simp +contextual -implicitDefEqProofs (disch:=omega) only[Tryz.f86,dd86,go_sem,simprocAttr,evAppend,map_append,mu86,↓AD,↓AC,↓AB,↓AA];rw[rp,append_assoc,add_assoc]
 ·simp only[List.take_zero,List.flatMap_nil,List.append_nil,length_nil,Nat.add_zero];rfl
theorem NF.in64 {op:Int}{set:List (Int×Int)}{kids:List Re}{mn mx md n:Int}{neg:Bool} (h:NF (.mk op set kids mn mx md n neg)):(∀ x∈(op::set.flatMap fun p=>[p.1,p.2]),In64 x)/\(∀ x∈[mn,mx,md,n,neg01 neg],In64 x)/\(∀ k∈kids,NF k)/\set.length<=64:=by
 have hz:∀ m:Int,-9000<=m/\m<=9000->In64 m:=fun m h=>⟨by omega,by omega⟩;have hn:∀ b:Bool,In64 (neg01 b):=fun b=>by cases b<;>exact hz _ (by decide)
 cases h with
 | empty=>exact⟨fun x hx=>by simp at hx;subst hx;exact hz _ (by omega),fun x hx=>by simp at hx;rcases hx with rfl|rfl<;>first|exact hz _ (by omega)|exact hn _,(fun k hk=>by cases hk),by simp⟩
 | set s h=>
   refine⟨fun x hx=>?_,fun x hx=>by simp at hx;rcases hx with rfl|rfl<;>first|exact hz _ (by omega)|exact hn _,(fun k hk=>by cases hk),h.len⟩;rcases List.mem_cons.1 hx with rfl|hx
   ·exact hz _ (by omega)
   ·obtain⟨p,hp,hx⟩:=List.mem_flatMap.1 hx;have:=h.good p hp;unfold goodS at this;simp at hx;rcases hx with rfl|rfl
    ·exact⟨by omega,by omega⟩
    ·exact⟨by omega,by omega⟩
 | cat kids h2 h ho=>exact⟨fun x hx=>by simp at hx;subst hx;exact hz _ (by omega),fun x hx=>by simp at hx;rcases hx with rfl|rfl<;>first|exact hz _ (by omega)|exact hn _,h,by simp⟩
 | alt kids h2 h ho hr hs=>exact⟨fun x hx=>by simp at hx;subst hx;exact hz _ (by omega),fun x hx=>by simp at hx;rcases hx with rfl|rfl<;>first|exact hz _ (by omega)|exact hn _,h,by simp⟩
 | rep k mn mx h h0 hn' hs hm h1 h2=>
   refine⟨fun x hx=>by simp at hx;subst hx;exact hz _ (by omega),fun x hx=>?_,(by intro q hq;rw[List.mem_singleton.1 hq];exact h),by simp⟩;simp at hx;rcases hx with rfl|rfl|rfl|rfl
   ·exact hz _ (by omega)
   ·exact hz _ (by omega)
   ·exact hz _ (by omega)
   ·exact hn _
theorem Du {l:List Int} (h:∀ x∈l,In64 x) (hl:l.length<=1000000):(intsE l).length<=10+10*l.length:=by
 have h1:=Ik h;have h2:=EN (n:=l.length) (by omega);simp only[intsE,length_append];omega
theorem IN:∀(N:Nat) (r:Re),r.wt<=N->r.wt<=1000000->NF r->(nodeE r).length<=100*r.wt:=by
 intro N
 induction N with
 | zero=>intro r h;have:=r.wt_pos;omega
 | succ N ihN=>
   intro r h hw hN;obtain⟨op,set,kids,mn,mx,md,n,neg⟩:=r;obtain⟨a1,a2,a3,a4⟩:=hN.in64;have hwt:1+set.length+Re.wtL kids=(Re.mk op set kids mn mx md n neg).wt:=by simp[Re.wt]
   have hkl:=Re.wtL_len kids;have hk:∀ l:List Re,(∀ k∈l,(nodeE k).length<=100*k.wt)->(kidsE l).length<=100*Re.wtL l:=fun l=>by
    induction l with
    | nil=>intro _;simp[kidsE]
    | cons k l ih=>
      intro hl;have h1:=hl k (by simp);have h2:=ih fun q hq=>hl q (mem_cons_of_mem _ hq);simp only[kidsE,length_append,Re.wtL];omega
   have h1:=hk kids fun k hk=>ihN k (by have:=Re.wtL_mem hk;omega) (by have:=Re.wtL_mem hk;omega) (a3 k hk);have h2:=Du a1 (by simp only[length_cons,BC];omega);have h3:=Du a2 (by simp);have h4:=E4 (v:=(kids.length:Int)) ⟨by omega,by omega⟩;simp only[length_cons,BC,length_nil]at h2 h3;simp only[nodeE,length_append];omega
abbrev cloE:MB:=.row 1 [.clo 85 [.rf 1 1 0 0,.rf 3 1 0 0]] 0
theorem d85 (b0:MB) (hb0:plB b0):∀(N:Nat) (r:Re),r.wt<=N->r.wt<=1000000->NF r->∀(bs:List Int) (n:Nat),bs.length=n->n+100*r.wt<=400000000 ->
  call Pg pol1 85 [.pt (reC r),.rf 1 1 0 0,.rf 3 1 0 0] [b0,.row 1 [.agg [.ms 2 1 n 0 n]] 0,.row 1 (bs.map B8) 0,cloE]=some (.tup [],[b0,.row 1 [.agg [.ms 2 1 (n+(nodeE r).length) 0 (n+(nodeE r).length)]] 0,.row 1 ((bs++nodeE r).map B8) 0,cloE]):=by
 intro N
 induction N with
 | zero=>intro r h;have:=r.wt_pos;omega
 | succ N ihN=>
   intro r h hw hN bs n hn hb;obtain⟨op,set,kids,mn,mx,md,m,neg⟩:=r;obtain⟨a1,a2,a3,a4⟩:=hN.in64;have hwt:1+set.length+Re.wtL kids=(Re.mk op set kids mn mx md m neg).wt:=by simp[Re.wt]
   have hkl:=Re.wtL_len kids;have ih:=fun k (hk:k∈kids)=>ihN k (by have:=Re.wtL_mem hk;omega) (by have:=Re.wtL_mem hk;omega) (a3 k hk);have hnl:=fun k (hk:k∈kids)=>IN _ k (le_refl _) (by have:=Re.wtL_mem hk;omega) (a3 k hk);have ea:(.pt (reC (.mk op set kids mn mx md m neg)):AV)=.pt (nodeL op set kids mn mx md m neg):=congrArg AV.pt Ai;rw[ea];have fr:∀ G:List MB,frzArgs pol1 85 0 [.pt (nodeL op set kids mn mx md m neg),.rf 1 1 0 0,.rf 3 1 0 0] G=some ([.pt (nodeL op set kids mn mx md m neg),.rf 1 1 0 0,.rf 3 1 0 0],G):=fun G=>
    AQ _ _ _ (by simp[mixOk,show pol1.byref 85 1=true from rfl,show pol1.byref 85 2=true from rfl,AV.plain,AV.plainL,AF,AG])
   refine AT (pol:=pol1) Tryz.func85 rfl rfl rfl rfl (fr _) ?_;simp +contextual -implicitDefEqProofs (disch:=omega) only[Tryz.f85,dd85,go_sem,simprocAttr,evAppend,map_append,mu85,↓AD,↓AC,↓AB,↓AA];have hIop:((op::(set.take 0).flatMap fun p=>[p.1,p.2]).map I)=[I op]:=rfl;refine AY (M:=mskOf (pol1.mask 85) (pol1.gc 85) (pol1.acts 85) 4 2) (by rfl) set.length (fun i=>(⟨78,[(18,I i),(17,I set.length),(16,.sl false (set.map spanAV)),(4,.ms 4 1 (1+2*i) 0 (1+2*i)),(2,.rf 3 1 0 0),(1,.rf 1 1 0 0),(0,.pt (nodeL op set kids mn mx md m neg))],[b0,.row 1 [.agg [.ms 2 1 n 0 n]] 0,.row 1 (bs.map B8) 0,cloE,.row 1 ((op::(set.take i).flatMap fun p=>[p.1,p.2]).map I) 0]⟩:St)) (fun _=>True) ?_ ?_ trivial _ ?_
   ·intro i hi _;obtain⟨p,hp⟩:∃ p,set[i]?=some p:=⟨_,getElem?_eq_getElem hi⟩;have hp':(set.map spanAV)[i]?=some (spanAV p):=by simp[hp]
    have hlt:(i:Int)<(set.length:Int):=by omega
    have hft:=E8 hp;have hfl:=BC (set.take i);rw[List.length_take,Nat.min_eq_left (by omega)]at hfl;rw[hft,show op::((set.take i).flatMap (fun p=>[p.1,p.2])++[p.1,p.2])=(op::(set.take i).flatMap (fun p=>[p.1,p.2]))++[p.1,p.2] from rfl,show 1+2*(i+1)=1+2*i+2 by omega];have hXl:(op::(set.take i).flatMap (fun p=>[p.1,p.2])).length=1+2*i:=by simp only[length_cons,hfl];omega
    generalize op::(set.take i).flatMap (fun p=>[p.1,p.2])=X at *;have a1':=fun b0 b1 b2 b3 b5=>HR (H:=[b0,b1,b2,b3,.row 1 (X.map I) 0,b5]) (i:=4) (n:=1+2*i) (xs:=[p.1,p.2]) (t:=true) (rs:=X) (z:=0) rfl (zero_le _) hXl (by simp;omega);simp only[set_cons_succ,List.set_cons_zero,map_cons,map_nil,length_cons,length_nil,zero_add,Nat.reduceAdd]at a1';simp +contextual -implicitDefEqProofs (disch:=omega) only[Tryz.f85,dd85,go_sem,simprocAttr,mu85,↓AD,↓AC,↓AB,↓AA,hp',hlt,a1'];generalize X++[p.1,p.2]=X2;exact AR (n:=5) rfl rfl (by rfl) (by rfl) (by simp[AV.underL,AV.under,AE _ _ (AF set),AE _ _ (AG kids)]) (by simp only[all_cons,all_nil,hb0 5,Bool.true_and,Bool.and_true];simp[MB.under,AV.underL,AV.under,AE _ _ (BX bs),AE _ _ (AJ X2)])
   ·intro _;rw[take_length];have hXl:(op::set.flatMap (fun p=>[p.1,p.2])).length=1+2*set.length:=by simp only[length_cons,BC];omega
    have hnE:nodeE (.mk op set kids mn mx md m neg)=intsE (op::set.flatMap fun p=>[p.1,p.2])++intsE [mn,mx,md,m,neg01 neg]++iE kids.length++kidsE kids:=by rw[nodeE]
    have l2:=Du a1 (by simp only[length_cons,BC];omega);have l3:=Du a2 (by simp);have l4:=E4 (v:=(kids.length:Int)) ⟨by omega,by omega⟩;simp only[length_cons,BC,length_nil]at l2 l3;rw[hnE];have w1:=wf86 [b0] [cloE,.row 1 ((op::set.flatMap fun p=>[p.1,p.2]).map I) (1+2*set.length)] bs (op::set.flatMap fun p=>[p.1,p.2]) a1 (by omega) n hn (by omega);generalize hXd:(op::set.flatMap fun p=>[p.1,p.2])=X at *;have c86:call Pg pol1 86 [.rf 1 1 0 0,.ms 4 1 (1+2*set.length) 0 (1+2*set.length)] [b0,.row 1 [.agg [.ms 2 1 n 0 n]] 0,.row 1 (bs.map B8) 0,cloE,.row 1 (X.map I) 0]=_:=(FK (P:=Pg) (pol:=pol1) (f:=86) (l:=[.rf 1 1 0 0,.sl false (X.map I)]) (H1:=[b0,.row 1 [.agg [.ms 2 1 n 0 n]] 0,.row 1 (bs.map B8) 0,cloE,.row 1 (X.map I) (1+2*set.length)]) rfl rfl (by decide) (by
     simp only[frzArgs,show pol1.byref 86 0=true from rfl,show pol1.byref 86 (0+1)=false from rfl,Bool.false_eq_true,if_false,if_true];rw[BG (k:=1) (z:=0) (els:=X.map I) rfl (by simpa using hXl) (AJ X)];simp[mark,getRow]) (AQ _ _ _ (by simp[mixOk,show pol1.byref 86 0=true from rfl,AV.plain,AJ]))).trans w1
    have w2:=wf86 [b0] [cloE,.row 1 (X.map I) (1+2*set.length)] (bs++intsE X) [mn,mx,md,m,neg01 neg] a2 (by simp) (n+(intsE X).length) (by simp[hn]) (by omega);have c86b:call Pg pol1 86 [.rf 1 1 0 0,.sl true [I mn,I mx,I md,I m,I (neg01 neg)]] (wrH [b0] (bs++intsE X) (n+(intsE X).length) [cloE,.row 1 (X.map I) (1+2*set.length)])=_:=(FK (P:=Pg) (pol:=pol1) (f:=86) (l:=[.rf 1 1 0 0,.sl false ([mn,mx,md,m,neg01 neg].map I)]) (H1:=wrH [b0] (bs++intsE X) (n+(intsE X).length) [cloE,.row 1 (X.map I) (1+2*set.length)]) rfl rfl (by decide) (by
     simp only[frzArgs,show pol1.byref 86 0=true from rfl,show pol1.byref 86 (0+1)=false from rfl,Bool.false_eq_true,if_false,if_true];rfl) (AQ _ _ _ rfl)).trans w2
    have w3:=wf83 [b0] [cloE,.row 1 (X.map I) (1+2*set.length)] (bs++intsE X++intsE [mn,mx,md,m,neg01 neg]) (kids.length:Int) ⟨by omega,by omega⟩ (n+(intsE X).length+(intsE [mn,mx,md,m,neg01 neg]).length) (by simp[hn,add_assoc]) (by omega);simp only[length_cons,length_nil,cons_append,nil_append,zero_add,Nat.reduceAdd]at c86 c86b w3;have hYl:(bs++intsE X++intsE [mn,mx,md,m,neg01 neg]++iE kids.length).length=n+(intsE X).length+(intsE [mn,mx,md,m,neg01 neg]).length+(iE kids.length).length:=by simp[hn,add_assoc]
    have hYb:n+(intsE X).length+(intsE [mn,mx,md,m,neg01 neg]).length+(iE kids.length).length<=n+90+20*set.length:=by omega
    have hfin:bs++(intsE X++intsE [mn,mx,md,m,neg01 neg]++iE kids.length++kidsE kids)=bs++intsE X++intsE [mn,mx,md,m,neg01 neg]++iE kids.length++kidsE kids:=by simp
    have hfin2:n+(intsE X++intsE [mn,mx,md,m,neg01 neg]++iE kids.length++kidsE kids).length=n+(intsE X).length+(intsE [mn,mx,md,m,neg01 neg]).length+(iE kids.length).length+(kidsE kids).length:=by simp[add_assoc]
    rw[hfin,hfin2];generalize bs++intsE X++intsE [mn,mx,md,m,neg01 neg]++iE kids.length=Y at *;generalize n+(intsE X).length+(intsE [mn,mx,md,m,neg01 neg]).length+(iE kids.length).length=q at *;simp +contextual -implicitDefEqProofs (disch:=omega) only[Tryz.f85,dd85,go_sem,simprocAttr,evAppend,mu85,↓AD,↓AC,↓AB,↓AA,c86,c86b,w3,d87];repeat' (first|intro _|apply And.intro|(unfold dOk;kernel_rfl)|exact St.beq_refl _|exact AP|(show altO _ _ _ _=true;kernel_rfl)|(show (_||_)=true;kernel_rfl)|(show (_&&_)=true;kernel_rfl))
    have kapp:∀(a:List Re) (k:Re),kidsE (a++[k])=kidsE a++nodeE k:=fun a k=>by
     induction a with
     | nil=>simp[kidsE]
     | cons y a ih=>simp[kidsE,ih]
    have klen:∀ i,(kidsE (kids.take i)).length<=100*Re.wtL (kids.take i):=fun i=>by
     have:∀ l:List Re,(∀ k∈l,k∈kids)->(kidsE l).length<=100*Re.wtL l:=fun l=>by
      induction l with
      | nil=>intro _;simp[kidsE]
      | cons k l ih=>
        intro hl;have h1:=hnl k (hl k (by simp));have h2:=ih fun q hq=>hl q (mem_cons_of_mem _ hq);simp only[kidsE,length_append,Re.wtL];omega
     exact this _ fun k hk=>List.mem_of_mem_take hk
    have rt:∀(q':Nat) (Y':List Int),retPol pol1 85 [b0,.row 1 [.agg [.ms 2 1 n 0 n]] 0,.row 1 (bs.map B8) 0,cloE] (.tup []) [b0,.row 1 [.agg [.ms 2 1 q' 0 q']] 0,.row 1 (Y'.map B8) 0,cloE]=some (.tup [],[b0,.row 1 [.agg [.ms 2 1 q' 0 q']] 0,.row 1 (Y'.map B8) 0,cloE]):=fun q' Y'=>
     Ae rfl rfl rfl (by simp only[keptOk,length_cons,length_nil,hb0 4,MB.beq_refl,Bool.or_true,Bool.true_and,Bool.and_true,Bool.true_or];simp[MB.under,AV.underL,AV.under,AE _ _ (BX Y')]) rfl
    refine AY (M:=mskOf (pol1.mask 85) (pol1.gc 85) (pol1.acts 85) 4 10) (by rfl) kids.length (fun i=>(⟨78,[(66,I i),(65,I kids.length),(2,.rf 3 1 0 0),(0,.pt (nodeL op set kids mn mx md m neg))],[b0,.row 1 [.agg [.ms 2 1 (q+(kidsE (kids.take i)).length) 0 (q+(kidsE (kids.take i)).length)]] 0,.row 1 ((Y++kidsE (kids.take i)).map B8) 0,cloE]⟩:St)) (fun _=>True) ?_ ?_ trivial _ ?_
    ·intro i hi _;obtain⟨k,hk⟩:∃ k,kids[i]?=some k:=⟨_,getElem?_eq_getElem hi⟩;have hk':=BB hk;have hlt:(i:Int)<(kids.length:Int):=by omega
     have hst:kidsE (kids.take (i+1))=kidsE (kids.take i)++nodeE k:=by rw[AX hk,kapp]
     have hkl1:=klen i;have hwi:Re.wtL (kids.take i)+k.wt<=Re.wtL kids:=by
      have e:Re.wtL (kids.take (i+1))<=Re.wtL kids:=by
       conv=>rhs;rw[<- List.take_append_drop (i+1) kids,Re.wtL_app]
       omega
      rw[AX hk,Re.wtL_app]at e
      simpa [Re.wtL] using e
     have ihk:=ih k (mem_of_getElem? hk) (Y++kidsE (kids.take i)) (q+(kidsE (kids.take i)).length) (by simp[hYl]) (by omega);rw[hst];have e2:Y++(kidsE (kids.take i)++nodeE k)=Y++kidsE (kids.take i)++nodeE k:=by simp
     have e3:q+(kidsE (kids.take i)++nodeE k).length=q+(kidsE (kids.take i)).length+(nodeE k).length:=by simp[add_assoc]
     rw[e2,e3];generalize Y++kidsE (kids.take i)=Z at *;generalize q+(kidsE (kids.take i)).length=z at *;simp +contextual -implicitDefEqProofs (disch:=omega) only[Tryz.f85,dd85,go_sem,simprocAttr,evAppend,mu85,↓AD,↓AC,↓AB,↓AA,hk',hlt,ihk,AH,AI,AL];repeat' (first|intro _|apply And.intro|(unfold dOk;kernel_rfl)|exact St.beq_refl _|exact AP|(show altO _ _ _ _=true;kernel_rfl)|(show (_||_)=true;kernel_rfl)|(show (_&&_)=true;kernel_rfl))
     generalize Z++nodeE k=Z2;exact AR (n:=4) rfl rfl (by rfl) (by rfl) (by simp[AV.underL,AV.under,AE _ _ (AF set),AE _ _ (AG kids)]) (by simp only[all_cons,all_nil,hb0 4,Bool.true_and,Bool.and_true];simp[MB.under,AV.underL,AV.under,AE _ _ (BX Z2)])
    ·intro _;rw[take_length];simp +contextual -implicitDefEqProofs (disch:=omega) only[Tryz.f85,dd85,go_sem,simprocAttr,evAppend,mu85,↓AD,↓AC,↓AB,↓AA];exact rt _ _
    ·rw[show kidsE (kids.take 0)=[] by simp[kidsE],List.append_nil,length_nil,Nat.add_zero];exact AR (n:=4) rfl rfl (by rfl) (by rfl) (by simp[AV.underL,AV.under,AE _ _ (AF set),AE _ _ (AG kids)]) (by simp only[all_cons,all_nil,hb0 4,Bool.true_and,Bool.and_true];simp[MB.under,AV.underL,AV.under,AE _ _ (BX Y)])
   ·rw[hIop];exact AR (n:=5) rfl rfl (by rfl) (by rfl) (by simp[AV.underL,AV.under,AE _ _ (AF set),AE _ _ (AG kids)]) (by simp only[all_cons,all_nil,hb0 5,Bool.true_and,Bool.and_true];simp[MB.under,AV.underL,AV.under,AE _ _ (BX bs)])
theorem d53 (r:Re) (hw:r.wt<=100000) (hN:NF r) (H:List MB):call Pg pol1 53 [patAV ⟨r,0,false⟩] H=some (.sl false ((nameE r).map B8),H):=by
 have hl8:=AH r;have hpl:=A9 ⟨r,0,false⟩;have hz:fz (.rf 0 1 0 0) [.row 10 [.agg (reC r++[I 0,.bool false])] 0]=some (.pt (reC r++[I 0,.bool false]),[.row 10 [.agg (reC r++[I 0,.bool false])] 1]):=
  Fg (x:=.agg (reC r++[I 0,.bool false])) (k:=10) (z:=0) rfl rfl rfl hpl
 have hget8:(reC r++[I 0,.bool false])[8]?=some (I 0):=by rw[getElem?_append_right (by omega),hl8];rfl
 have hget9:(reC r++[I 0,.bool false])[9]?=some (.bool false):=by rw[getElem?_append_right (by omega),hl8];rfl
 have hall:=AL r;have htk8:∀ l,List.take 8 (reC r++l)=reC r:=fun l=>by
  rw[List.take_append_of_le_length (by omega)];exact take_of_length_le (by omega)
 have hnl:=IN _ r (le_refl _) (by omega) hN;obtain⟨b0,hb0⟩:∃ b0:MB,b0=.row 10 [.agg (reC r++[I 0,.bool false])] 1:=⟨_,rfl⟩;have hpb:plB b0:=by rw[hb0];exact AW (by simpa [AV.plainL,AV.plain] using hpl)
 have w1:=wf83 [b0] [] [] 0 ⟨by omega,by omega⟩ 0 rfl (by omega);have w2:=wf84 [b0] [] (iE 0) false (iE 0).length rfl (by have:=E4 (v:=0) ⟨by omega,by omega⟩;omega);have w3:=d85 b0 hpb _ r (le_refl _) (by omega) hN (iE 0++boolE false) ((iE 0).length+1) (by simp[boolE]) (by have:=E4 (v:=0) ⟨by omega,by omega⟩;omega);have w4:=wf88 [b0] [cloE] (nameE r) (nameE r).length rfl (by have:=E4 (v:=0) ⟨by omega,by omega⟩;simp[nameE,boolE];omega) (by
  intro h;have:=congrArg List.length h;simp[nameE,boolE]at this)
 have hname:iE 0++boolE false++nodeE r=nameE r:=rfl;have hnamel:(iE 0).length+1+(nodeE r).length=(nameE r).length:=by simp[nameE,boolE];omega
 rw[hname,hnamel]at w3;simp only[length_cons,length_nil,cons_append,nil_append,zero_add,Nat.reduceAdd,map_nil]at w1 w2 w4;rw[hb0]at w1 w2 w3 w4;refine AS Tryz.func53 rfl rfl rfl rfl rfl rfl (fun _=>rfl) (by simp only[AV.plainL,AV.plain,Bool.and_true];exact hpl) (by simp[AV.plain,BX]) ?_ H;generalize nameE r=nm at *;simp +contextual -implicitDefEqProofs (disch:=omega) only[Tryz.f53,dd53,go_sem,simprocAttr,evAppend,mu53,↓AD,↓AC,↓AB,↓AA,hz,hl8,hget8,hget9,htk8,hall,w1,w2,w3,w4,lookD,look,all_append];exact fzEq (by simp[AV.plain,BX]) rfl
end
section
attribute [local go_sem] evAppend evBin map_append
def nameS (r:Re):ByteArray:=strB (nameE r)
theorem L8 {x y:Int} (hx:0<=x/\x<256) (hy:0<=y/\y<256) (h:UInt8.ofNat x.toNat=UInt8.ofNat y.toNat):x=y:=by
 have:=congrArg UInt8.toNat h;simp only[UInt8.toNat_ofNat']at this;omega
theorem OG:∀ {a b:List Int},(∀ x∈a,0<=x/\x<256)->(∀ x∈b,0<=x/\x<256)->strB a=strB b->a=b:=fun {a b} ha hb h=>by
 unfold strB at h;have h1:(a.map fun n=>UInt8.ofNat n.toNat)=b.map fun n=>UInt8.ofNat n.toNat:=by
  have:=congrArg ByteArray.data h
  simpa using congrArg Array.toList this
 clear h
 induction a generalizing b with
 | nil=>cases b with
   | nil=>rfl
   | cons y b=>simp at h1
 | cons x a ih=>cases b with
   | nil=>simp at h1
   | cons y b=>
     simp only[map_cons,List.cons.injEq]at h1;rw[L8 (ha x (by simp)) (hb y (by simp)) h1.1,ih (fun q hq=>ha q (mem_cons_of_mem _ hq)) (fun q hq=>hb q (mem_cons_of_mem _ hq)) h1.2]
theorem Gv (l:List Int):∀ x∈intsE l,0<=x/\x<256:=fun x hx=>by
 unfold intsE at hx;rcases mem_append.1 hx with h|h
 ·exact Fz _ x h
 ·obtain⟨y,_,h⟩:=List.mem_flatMap.1 h;exact Fz _ x h
mutual
theorem Gd:∀ r:Re,∀ x∈nodeE r,0<=x/\x<256
 | .mk op set kids mn mx md n neg=>fun x hx=>by
   simp only[nodeE,append_assoc]at hx;rcases mem_append.1 hx with h|h
   ·exact Gv _ x h
   ·rcases mem_append.1 h with h|h
    ·exact Gv _ x h
    ·rcases mem_append.1 h with h|h
     ·exact Fz _ x h
     ·exact Gr kids x h
theorem Gr:∀ l:List Re,∀ x∈kidsE l,0<=x/\x<256
 | []=>fun x hx=>by simp[kidsE]at hx
 | k::l=>fun x hx=>by
   simp only[kidsE]at hx;rcases mem_append.1 hx with h|h
   ·exact Gd k x h
   ·exact Gr l x h
end
theorem Gf (r:Re):∀ x∈nameE r,0<=x/\x<256:=fun x hx=>by
 unfold nameE at hx;rcases mem_append.1 hx with h|h
 ·rcases mem_append.1 h with h|h
  ·exact Fz _ x h
  ·simp[boolE]at h;subst h;omega
 ·exact Gd r x h
theorem IP {a b:Re} (h:nameS a=nameS b):a=b:=NC (OG (Gf a) (Gf b) h)
theorem Dj:∀ l:List Int,bytesOf (l.map B8)=some l
 | []=>rfl
 | x::l=>by simp[bytesOf,Dj l]
def entN:List Re->Nat->List (AV×AV)
 | [],_=>[]
 | t::l,i=>(.str (nameS t),I i)::entN l (i+1)
theorem Mn {a b:ByteArray}:AV.beq (.str a) (.str b)=decide (a=b):=by simp[AV.beq]
theorem O4 (t:Re):∀(l:List Re) (i:Nat),(∃ k:Nat,l[k]?=some t/\findMp (.str (nameS t)) (entN l i)=some (I ((i+k:Nat):Int)))∨(t ∉ l/\findMp (.str (nameS t)) (entN l i)=none)
 | [],i=>.inr ⟨by simp,rfl⟩
 | x::l,i=>by
   simp only[entN,findMp,Mn];by_cases h:x=t
   ·subst h;exact .inl ⟨0,rfl,by simp⟩
   ·have hn:¬ nameS x=nameS t:=fun e=>h (IP e);rw[if_neg (by simpa using hn)];rcases O4 t l (i+1) with ⟨k,h1,h2⟩|⟨h1,h2⟩
    ·exact .inl ⟨k+1,by simpa using h1,by rw[h2];congr 2;omega⟩
    ·exact .inr ⟨by simp[h1,Ne.symm h],h2⟩
theorem updN (t:Re):∀(l:List Re) (i:Nat),t ∉ l->updMp (.str (nameS t)) (I ((i+l.length:Nat):Int)) (entN l i)=entN (l++[t]) i
 | [],i,_=>rfl
 | x::l,i,h=>by
   have hx:¬ x=t:=fun e=>h (by simp[e]);have hn:¬ nameS x=nameS t:=fun e=>hx (IP e);have ih:=updN t l (i+1) fun g=>h (by simp[g]);simp only[entN,updMp,Mn,cons_append];rw[if_neg (by simpa using hn)];rw[show i+(x::l).length=i+1+l.length by simp;omega,ih]
end
section
attribute [local go_sem] evBin
theorem IZ (n:Nat) (K:List MB):∀(H H':List MB),H'.length=H.length->(∀(i:Nat) (b:MB),H'[i]?=some b->H[i]?=some b∨MB.under n b=true)->keptOk n H (H'++K)=true
 | [],[],_,_=>by cases K<;>rfl
 | [],_::_,h,_=>by simp at h
 | _::_,[],h,_=>by simp at h
 | x::H,y::H',hl,h=>by
   have h0:=h 0 y rfl;have ih:=IZ n K H H' (by simpa using hl) fun i b hb=>h (i+1) b (by simpa using hb);simp only[cons_append,keptOk,ih,Bool.and_true,Bool.or_eq_true];rcases h0 with e|e
   ·simp at e;subst e;exact .inr (MB.beq_refl _)
   ·exact .inl e
structure StH (S L M:Nat) (ts:List Re) (H:List MB):Prop where
 s:H[S]?=some (.row 2 [.agg [.ms L 8 ts.length 0 ts.length,.mpr M]] 0)
 l:H[L]?=some (.row 8 (ts.map reAV) 0)
 m:H[M]?=some (.mp .str (entN ts 0))
 sl:S≠L
 sm:S≠M
 lm:L≠M
def addS (S L M:Nat) (ts:List Re) (t:Re) (H:List MB):List MB:=((H.set M (.mp .str (entN (ts++[t]) 0))).set L (.row 8 ((ts++[t]).map reAV) 0)).set S (.row 2 [.agg [.ms L 8 (ts++[t]).length 0 (ts++[t]).length,.mpr M]] 0)
theorem StH.add {S L M:Nat}{ts:List Re}{H:List MB} (h:StH S L M ts H) (t:Re):StH S L M (ts++[t]) (addS S L M ts t H):=by
 have l1:=(List.getElem?_eq_some_iff.1 h.s).1;have l2:=(List.getElem?_eq_some_iff.1 h.l).1;have l3:=(List.getElem?_eq_some_iff.1 h.m).1;refine⟨?_,?_,?_,h.sl,h.sm,h.lm⟩
 ·unfold addS;rw[getElem?_set_self (by simpa using l1)]
 ·unfold addS;rw[getElem?_set_ne h.sl,getElem?_set_self (by simpa using l2)]
 ·unfold addS;rw[getElem?_set_ne h.sm,getElem?_set_ne h.lm,getElem?_set_self l3]
theorem Rk {H:List MB}{i n:Nat}{rs:List Re} (hi:getRow H i=some (8,rs.map reAV,0)) (hn:rs.length=n) (hr:n+1<=4000000000) :
  evAppend Pg H 24 24 (.ms i 8 n 0 n) (.sl true [zeR])=some (.ms i 8 (n+1) 0 (n+1),H.set i (.row 8 (rs.map reAV++[zeR]) 0)):=by
 rw[Ao (e:=26) (by kernel_rfl) (by kernel_rfl) (k:=8) (by kernel_rfl) (by_:=96) (by kernel_rfl) (ze:=zeR) (by kernel_rfl) rfl (by omega) (ys:=[zeR]) rfl rfl hi (by rw[length_map];exact hn) (zero_le _) (Ag (by simpa using hr) (by omega))];rfl
theorem Mk {S L M:Nat}{ts:List Re}{H:List MB} (h:StH S L M ts H) {t:Re} (hw:t.wt<=100000) (hN:NF t) {k:Nat} (hf:findMp (.str (nameS t)) (entN ts 0)=some (I (k:Int))) :
  call Pg pol1 28 [.rf S 1 0 0,reAV t] H=some (I k,H):=by
 have hfr:frzArgs pol1 28 0 [.rf S 1 0 0,reAV t] H=some ([.rf S 1 0 0,reAV t],H):=AQ _ _ _ (by simp only[mixOk,show pol1.byref 28 0=true from rfl,AU,Bool.true_or,Bool.or_true,Bool.and_self]);refine AT (pol:=pol1) Tryz.func28 rfl rfl rfl rfl hfr ?_;have l1:=(List.getElem?_eq_some_iff.1 h.s).1;have l3:=(List.getElem?_eq_some_iff.1 h.m).1;have g1:=fun x:MB=>(getElem?_append_left (l₂:=[x]) l1).trans h.s;have g2:=fun x:MB=>(getElem?_append_left (l₂:=[x]) l3).trans h.m;have g3:=fun x:MB=>Bo H x;have h53:=d53 t hw hN;have hby:=Dj (nameE t);have hf':findMp (.str (strB (nameE t))) (entN ts 0)=some (I (k:Int)):=hf;generalize nameE t=nm at *;simp +contextual -implicitDefEqProofs (disch:=omega) only[Tryz.f28,dd28,go_sem,simprocAttr,evAppend,map_append,mu28,↓AD,↓AC,↓AB,↓AA,g1,g2,g3,h53,hby,hf',AH,AI,AL]
 first|exact⟨by kernel_rfl,Ae rfl rfl rfl (BL _ _ _) (by simp)⟩|exact Ae rfl rfl rfl (BL _ _ _) (by simp)
theorem Bk (n:Nat):∀(l:List Re) (i:Nat),MB.underE n (entN l i)=true
 | [],_=>rfl
 | t::l,i=>by simp[entN,MB.underE,AV.under,Bk n l (i+1)]
theorem F5 {S L M:Nat}{ts:List Re}{H:List MB} (h:StH S L M ts H) {t:Re} (hw:t.wt<=100000) (hN:NF t) (hl:ts.length<=100000) (ht:t ∉ ts) (hf:findMp (.str (nameS t)) (entN ts 0)=none) :
  call Pg pol1 28 [.rf S 1 0 0,reAV t] H=some (I ts.length,addS S L M ts t H):=by
 have hfr:frzArgs pol1 28 0 [.rf S 1 0 0,reAV t] H=some ([.rf S 1 0 0,reAV t],H):=AQ _ _ _ (by simp only[mixOk,show pol1.byref 28 0=true from rfl,AU,Bool.true_or,Bool.or_true,Bool.and_self]);refine AT (pol:=pol1) Tryz.func28 rfl rfl rfl rfl hfr ?_;have l1:=(List.getElem?_eq_some_iff.1 h.s).1;have l2:=(List.getElem?_eq_some_iff.1 h.l).1;have l3:=(List.getElem?_eq_some_iff.1 h.m).1;have g1:=fun x:MB=>(getElem?_append_left (l₂:=[x]) l1).trans h.s;have g2:=fun x:MB=>(getElem?_append_left (l₂:=[x]) l3).trans h.m;have g3:=fun x:MB=>Bo H x;have h53:=d53 t hw hN;have hby:=Dj (nameE t);have hf':findMp (.str (strB (nameE t))) (entN ts 0)=none:=hf;have hup:updMp (.str (strB (nameE t))) (I (ts.length:Int)) (entN ts 0)=entN (ts++[t]) 0:=by
  have:=updN t ts 0 ht
  rwa [zero_add]at this
 generalize nameE t=nm at *;obtain⟨H1,hH1⟩:∃ H1,H.set M (.mp .str (entN (ts++[t]) 0))=H1:=⟨_,rfl⟩;obtain⟨H2,hH2⟩:∃ H2,H1.set L (.row 8 ((ts++[t]).map reAV) 0)=H2:=⟨_,rfl⟩;have hfin:addS S L M ts t H=H2.set S (.row 2 [.agg [.ms L 8 (ts.length+1) 0 (ts.length+1),.mpr M]] 0):=by
  unfold addS;rw[hH1,hH2,length_append];rfl
 have hl1:H1.length=H.length:=by rw[<- hH1,List.length_set]
 have hl2:H2.length=H.length:=by rw[<- hH2,List.length_set,hl1]
 have s1:∀ x:MB,(H++[x]).set M (.mp .str (entN (ts++[t]) 0))=H1++[x]:=fun x=>by rw[<- hH1];exact List.set_append_left _ _ l3
 have q1:∀ x:MB,(H1++[x])[S]?=some (.row 2 [.agg [.ms L 8 ts.length 0 ts.length,.mpr M]] 0):=fun x=>by
  rw[getElem?_append_left (by omega),<- hH1,getElem?_set_ne (Ne.symm h.sm)];exact h.s
 have q2:∀ x:MB,(H1++[x])[L]?=some (.row 8 (ts.map reAV) 0):=fun x=>by
  rw[getElem?_append_left (by omega),<- hH1,getElem?_set_ne (Ne.symm h.lm)];exact h.l
 have q3:∀ x:MB,(H1++[x])[H.length]?=some x:=fun x=>by rw[<- hl1];exact Bo H1 x
 have s2:∀ x:MB,(H1++[x]).set L (.row 8 ((ts++[t]).map reAV) 0)=H2++[x]:=fun x=>by rw[<- hH2];exact List.set_append_left _ _ (by omega)
 have r1:∀ x:MB,(H2++[x])[S]?=some (.row 2 [.agg [.ms L 8 ts.length 0 ts.length,.mpr M]] 0):=fun x=>by
  rw[getElem?_append_left (by omega),<- hH2,getElem?_set_ne (Ne.symm h.sl),<- hH1,getElem?_set_ne (Ne.symm h.sm)];exact h.s
 have r3:∀ x:MB,(H2++[x])[H.length]?=some x:=fun x=>by rw[<- hl2];exact Bo H2 x
 have s3:∀ x y:MB,(H2++[x]).set S y=H2.set S y++[x]:=fun x y=>List.set_append_left _ _ (by omega);have a1:=fun x:MB=>Rk (H:=H1++[x]) (i:=L) (n:=ts.length) (rs:=ts) (by unfold getRow;rw[q2]) rfl (by omega);have hL1:L<H1.length:=by omega
 have q4:∀ x y:MB,((H1++[x]).set L y)[L]?=some y:=fun x y=>getElem?_set_self (by simp;omega);have e1:(ts.map reAV++[zeR])[ts.length]?=some zeR:=by
  rw[getElem?_append_right (by simp),length_map,Nat.sub_self];rfl
 have e2:(ts.map reAV++[zeR]).length=ts.length+1:=by simp
 have e3:(ts.map reAV++[zeR]).set ts.length (reAV t)=(ts++[t]).map reAV:=by
  rw[List.set_append_right _ _ (by simp),length_map,Nat.sub_self,map_append];rfl
 generalize ts.map reAV++[zeR]=E at *;have sat:∀(i:Nat) (A B:List MB) (x:MB),A[i]?=some x->B[i]?=some x->sameAt i A B=true:=fun i A B x h1 h2=>by
  unfold sameAt;rw[h1,h2];exact MB.beq_refl _
 have q5:∀ x y:MB,((H1++[x]).set L y)[S]?=some (.row 2 [.agg [.ms L 8 ts.length 0 ts.length,.mpr M]] 0):=fun x y=>by
  rw[getElem?_set_ne (Ne.symm h.sl)];exact q1 x
 have q6:∀ x y:MB,((H1++[x]).set L y)[H.length]?=some x:=fun x y=>by
  rw[getElem?_set_ne (by omega)];exact q3 x
 have c1:∀ x y:MB,sameAt S (H1++[x]) ((H1++[x]).set L y)=true:=fun x y=>sat _ _ _ _ (q1 x) (q5 x y);have c2:∀ x y:MB,sameAt S ((H1++[x]).set L y) (H2++[x])=true:=fun x y=>sat _ _ _ _ (q5 x y) (r1 x);have c3:∀ x y:MB,sameAt H.length (H1++[x]) ((H1++[x]).set L y)=true:=fun x y=>sat _ _ _ _ (q3 x) (q6 x y);have c4:∀ x y:MB,sameAt H.length ((H1++[x]).set L y) (H2++[x])=true:=fun x y=>sat _ _ _ _ (q6 x y) (r3 x);have c5:∀ x y:MB,sameAt H.length (H2++[x]) (H2.set S y++[x])=true:=fun x y=>sat _ _ _ _ (r3 x) (by rw[getElem?_append_right (by simp[hl2])];simp[hl2]);have c6:∀ x y:MB,sameAt L (H2++[x]) (H2.set S y++[x])=true:=fun x y=>by
  have hL2:L<H2.length:=by omega
  refine sat _ _ _ H2[L] ?_ ?_
  ·rw[getElem?_append_left hL2,getElem?_eq_getElem hL2]
  ·rw[getElem?_append_left (by simpa using hL2),getElem?_set_ne h.sl,getElem?_eq_getElem hL2]
 have b1:(S==L)=false:=beq_eq_false_iff_ne.2 h.sl;have b2:(L==S)=false:=beq_eq_false_iff_ne.2 (Ne.symm h.sl);have b3:(H.length==L)=false:=beq_eq_false_iff_ne.2 (by omega);have b4:(H.length==S)=false:=beq_eq_false_iff_ne.2 (by omega);simp +contextual -implicitDefEqProofs (disch:=omega) only[Tryz.f28,dd28,go_sem,simprocAttr,mu28,↓AD,↓AC,↓AB,↓AA,g1,g2,g3,h53,hby,hf',hup,s1,q1,q2,q3,a1,q4,e1,e2,e3,List.set_set,s2,r1,r3,s3,c1,c2,c3,c4,c5,c6,b1,b2,b3,b4,AH,AI,AL]
 first|refine⟨by kernel_rfl,by unfold dOk;kernel_rfl,?_,?_⟩|refine⟨by unfold dOk;kernel_rfl,?_,?_⟩
 ·have o:∀ a b c d:Bool,a=true->c=true->d=true->((a||b)&&(c&&d))=true:=by simp
  exact o _ _ _ _ (by kernel_rfl) (by kernel_rfl) (by kernel_rfl)
 ·rw[hfin];refine Ae rfl rfl rfl (IZ _ _ _ _ (by simp[hl2]) fun i b hb=>?_) ?_
  ·by_cases iS:S=i
   ·subst iS;rw[getElem?_set_self (by omega)]at hb;obtain rfl:=Option.some.inj hb;right;simp[MB.under,AV.underL,AV.under];omega
   ·rw[getElem?_set_ne iS,<- hH2]at hb;by_cases iL:L=i
    ·subst iL;rw[getElem?_set_self (by omega)]at hb;obtain rfl:=Option.some.inj hb;right;exact AE _ _ (AG _)
    ·rw[getElem?_set_ne iL,<- hH1]at hb;by_cases iM:M=i
     ·subst iM;rw[getElem?_set_self (by omega)]at hb;obtain rfl:=Option.some.inj hb;right;exact Bk _ _ _
     ·rw[getElem?_set_ne iM]at hb;exact .inl hb
  ·rw[List.take_append_of_le_length (by simp[hl2]),take_of_length_le (by simp[hl2])]
end
end Go.Ev
