/- What functions of the program compute; no further conditions. -/
import Derived.Test.YtkolcijbdendhaaGreatF22
set_option linter.unusedVariables false
set_option linter.unusedSimpArgs false
open List (all_append append_nil getElem?_eq_getElem length_append length_cons length_nil map_append map_cons map_nil map_take mem_map mem_of_getElem? set_cons_succ take_length take_of_length_le)
open Nat (le_refl zero_add zero_le)
open Bool (false_eq_true)
open Go.Proofs Go.RowKit Go.IntWalk
set_option maxHeartbeats 4000000
set_option maxRecDepth 100000
namespace Go.Ev
attribute [local go_sem] evBin AV.cells Ax A8 bndO bnd evEq eqCells not_false_eq_true not_true_eq_false toList_some Array.size_empty length_append tySzE List.head?_drop Nat.mul_one Aj Aq Ag Ak Al Ae
section
attribute [local go_sem] evAppend map_append
def resA:Option Re->AV
 | some r=>.tup [reAV r,I 0]
 | none=>.tup [reAV emptyR,I 4]
theorem EP (o:Option Re):AV.plain (resA o)=true:=by
 cases o<;>simp[resA,AV.plain,AV.plainL,AO]
theorem d29 {t:Re} (hs:t.size<=256) (hok:OkD t) (caps top:Int) (hwh:wholeG caps top t=true) (x:Int) (H:List MB):call Pg pol1 29 [reAV t,I x] H=some (resA (stepR x t),H):=by
 have h65:=hok.wt65;obtain⟨hb,_⟩:=Nl (x:=x) hok hs;have hdo:=(Jz (x:=x) hok).1;have h54:=d54 caps top x _ t (le_refl _) (by omega) hok hwh;have h27:=d27 (drv x t) (by omega) hdo;have hnw:=(Ov (drv x t) hdo.gs).2;have h55:=d55 (nf (drv x t)) (by omega);have h56:=d56 (nf (drv x t)) (by omega);have hst:stepR x t=if badR (drv x t)=true∨256<(nf (drv x t)).size∨24<(nf (drv x t)).depth then none else some (nf (drv x t)):=rfl
 have hpl:=EP (stepR x t);have hsz:=Re.size_wt (nf (drv x t));have hdp:=Nat.le_trans (Re.depth_size (nf (drv x t))) hsz;refine AR Tryz.func29 rfl rfl rfl rfl rfl rfl (fun _=>rfl) (by simp[AV.plain,AV.plainL,AO]) hpl ?_ H;rw[hst];generalize drv x t=d at *;generalize nf d=r at *;cases hbd:badR d with
 | true=>
   rw[hbd,if_pos rfl]at h27;rw[if_pos (.inl rfl)];simp +contextual -implicitDefEqProofs (disch:=omega) only[Tryz.f29,dd29,go_sem,simprocAttr,mu29,↓AE,↓AC,↓AB,↓AA,h54,h27,AK,AJ,AP];exact⟨_,rfl⟩
 | false=>
   rw[hbd,if_neg (by simp)]at h27;by_cases c1:256<r.size
   ·have c1':(256:Int)<(r.size:Int):=by omega
    rw[if_pos (.inr (.inl c1))];simp +contextual -implicitDefEqProofs (disch:=omega) only[Tryz.f29,dd29,go_sem,simprocAttr,mu29,↓AE,↓AC,↓AB,↓AA,h54,h27,h55,c1',AK,AJ,AP];exact⟨_,rfl⟩
   ·have c1':¬ (256:Int)<(r.size:Int):=by omega
    by_cases c2:24<r.depth
    ·have c2':(24:Int)<(r.depth:Int):=by omega
     rw[if_pos (.inr (.inr c2))];simp +contextual -implicitDefEqProofs (disch:=omega) only[Tryz.f29,dd29,go_sem,simprocAttr,mu29,↓AE,↓AC,↓AB,↓AA,h54,h27,h55,h56,c1',c2',AK,AJ,AP];exact⟨_,rfl⟩
    ·have c2':¬ (24:Int)<(r.depth:Int):=by omega
     rw[if_neg (by simp[c1,c2])];simp +contextual -implicitDefEqProofs (disch:=omega) only[Tryz.f29,dd29,go_sem,simprocAttr,mu29,↓AE,↓AC,↓AB,↓AA,h54,h27,h55,h56,c1',c2',AK,AJ,AP];exact fzEq (by simp[AV.plain,AV.plainL,AO]) rfl
def chkP (p:Pat):Int:=if validP p≠0 then validP p else if regG p.re=true then 0 else 10
theorem d23 (p:Pat) (hw:p.re.wt<=1000000) (H:List MB):call Pg pol1 23 [patAV p] H=some (I (chkP p),H):=by
 have h46:=f48 p hw;have h47:=d47 _ p.re (le_refl _) (by omega);obtain⟨re,caps,runes⟩:=p;have hc:chkP ⟨re,caps,runes⟩=if validP ⟨re,caps,runes⟩≠0 then validP ⟨re,caps,runes⟩ else if regG re=true then 0 else 10:=rfl
 rw[hc];refine AR Tryz.func23 rfl rfl rfl rfl rfl rfl (fun _=>rfl) (by simp[AV.plainL,AV.plain];exact Av _) rfl ?_ H;have hl8:=AK re;have htk8:∀ l,List.take 8 (reC re++l)=reC re:=fun l=>by
  rw[List.take_append_of_le_length (by omega)];exact take_of_length_le (by omega)
 have htk10:List.take 10 (reC re++[I caps,.bool runes])=reC re++[I caps,.bool runes]:=take_of_length_le (by simp[hl8]);have hall:=AP re;generalize validP ⟨re,caps,runes⟩=e at *;by_cases he:e=0
 ·subst he;rw[if_neg (by simp)];cases hr:regG re with
  | true=>
    simp only[hr]at h47;rw[if_pos rfl];simp +contextual -implicitDefEqProofs (disch:=omega) only[Tryz.f23,dd23,go_sem,simprocAttr,mu23,↓AE,↓AC,↓AB,↓AA,h46,h47,hl8,htk8,htk10,hall,all_append];exact fzEq rfl rfl
  | false=>
    simp only[hr]at h47;rw[if_neg (by simp)];simp +contextual -implicitDefEqProofs (disch:=omega) only[Tryz.f23,dd23,go_sem,simprocAttr,mu23,↓AE,↓AC,↓AB,↓AA,h46,h47,hl8,htk8,htk10,hall,all_append];exact fzEq rfl rfl
 ·rw[if_pos he];simp +contextual -implicitDefEqProofs (disch:=omega) only[Tryz.f23,dd23,go_sem,simprocAttr,mu23,↓AE,↓AC,↓AB,↓AA,h46,he,hl8,htk8,htk10,hall,all_append];exact fzEq rfl rfl
theorem d26 (p:Pat) (H:List MB):call Pg pol1 26 [patAV p] H=some (I (topI p.runes),H):=by
 obtain⟨re,caps,runes⟩:=p;have hl8:=AK re;have hget9:(reC re++[I caps,.bool runes])[9]?=some (.bool runes):=by rw[List.getElem?_append_right (by omega),hl8];rfl
 have hall:=AP re;refine AR Tryz.func26 rfl rfl rfl rfl rfl rfl (fun _=>rfl) (by simp[AV.plainL,AV.plain];exact Av _) rfl ?_ H;rw[show topI (Pat.mk re caps runes).runes=topI runes from rfl];cases runes
 ·simp +contextual -implicitDefEqProofs (disch:=omega) only[Tryz.f26,dd26,go_sem,simprocAttr,mu26,↓AE,↓AC,↓AB,↓AA,topI,hl8,hget9,hall,all_append];exact fzEq rfl rfl
 ·simp +contextual -implicitDefEqProofs (disch:=omega) only[Tryz.f26,dd26,go_sem,simprocAttr,mu26,↓AE,↓AC,↓AB,↓AA,topI,hl8,hget9,hall,all_append];exact fzEq rfl rfl
theorem De:∀ a b:List Re,regL (a++b)=(regL a&&regL b)
 | [],b=>by simp[regL]
 | k::a,b=>by rw[List.cons_append,regL,regL,De a b,Bool.and_assoc]
theorem d31 (caps top:Int):∀(N:Nat) (r:Re),r.wt<=N->r.wt<=1000000000->wholeG caps top r=true->∀ H,call Pg pol1 31 [reAV r] H=some (.bool (regG r),H):=by
 intro N
 induction N with
 | zero=>intro r h;have:=r.wt_pos;omega
 | succ N ihN=>
   intro r h hw hwh H;obtain⟨op,set,kids,mn,mx,md,n,neg⟩:=r;obtain⟨hwk,_,hrp,_,ho1,ho2⟩:=DY hwh;have hkl:=Re.wtL_len kids;have hwt:1+set.length+Re.wtL kids=(Re.mk op set kids mn mx md n neg).wt:=by simp[Re.wt]
   have ih:=fun k (hk:k∈kids)=>ihN k (by have:=Re.wtL_mem hk;omega) (by have:=Re.wtL_mem hk;omega) (hwk k hk);have hpl:AV.plain (reAV (.mk op set kids mn mx md n neg))=true:=AO _;refine AR Tryz.func31 rfl rfl rfl rfl rfl rfl (fun _=>rfl) (by simp only[AV.plainL,hpl];rfl) rfl ?_ H;rw[show reAV (.mk op set kids mn mx md n neg)=.agg (nodeL op set kids mn mx md n neg) from congrArg AV.agg Ab];by_cases hbad:5<op∨(op=4/\md=2)
   ·have e:regG (.mk op set kids mn mx md n neg)=false:=by
     rw[regG];rcases hbad with hb|⟨rfl,rfl⟩
     ·have a:¬ (op=0∨op=1∨op=2∨op=3∨op=5):=by omega
      have b:¬ op=4:=by omega
      simp[a,b]
     ·simp
    rw[e];rcases hbad with hb|⟨rfl,rfl⟩
    ·simp +contextual -implicitDefEqProofs (disch:=omega) only[Tryz.f31,dd31,go_sem,simprocAttr,mu31,↓AE,↓AC,↓AB,↓AA,hb];exact fzEq rfl rfl
    ·simp +contextual -implicitDefEqProofs (disch:=omega) only[Tryz.f31,dd31,go_sem,simprocAttr,mu31,↓AE,↓AC,↓AB,↓AA];exact fzEq rfl rfl
   ·have hg:¬ 5<op:=fun h=>hbad (.inl h);have e:regG (.mk op set kids mn mx md n neg)=regL kids:=by
     rw[regG];by_cases h4:op=4
     ·subst h4;have:¬ md=2:=fun h=>hbad (.inr ⟨rfl,h⟩);simp[this]
     ·have a:op=0∨op=1∨op=2∨op=3∨op=5:=by omega
      simp[a]
    rw[e];by_cases h4:op=4
    ·subst h4;have hmd:¬ md=2:=fun h=>hbad (.inr ⟨rfl,h⟩);simp +contextual -implicitDefEqProofs (disch:=omega) only[Tryz.f31,dd31,go_sem,simprocAttr,mu31,↓AE,↓AC,↓AB,↓AA,hmd];refine AY (M:=(mskOf (pol1.mask 31) (pol1.gc 31) (pol1.acts 31) 0 4)) (by rfl) kids.length (fun i=>(⟨31,[(3,I i),(1,.rf 0 1 0 0)],[.row 8 [.agg (nodeL 4 set kids mn mx md n neg)] 0]⟩:St)) (fun i=>regL (kids.take i)=true) ?_ ?_ rfl _ (by first|rfl|(refine AN rfl (by rfl) (by rfl) (by rfl) ?_ ?_<;>simp[AV.underL,AV.under,MB.under,AD,AI,AG,AF,AL,AM,-map_take,AH,AF]))
     ·intro i hi hinv;obtain⟨k,hk⟩:∃ k,kids[i]?=some k:=⟨_,getElem?_eq_getElem hi⟩;have g1:=At hk;have ihk:=ih k (mem_of_getElem? hk);have hlt:(i:Int)<(kids.length:Int):=by omega
      have hst:regL (kids.take (i+1))=regG k:=by rw[AZ hk,De,hinv];simp[regL]
      cases hr:regG k with
      | true=>
        rw[hr]at ihk hst;simp +contextual -implicitDefEqProofs (disch:=omega) only[Tryz.f31,dd31,go_sem,simprocAttr,mu31,↓AE,↓AC,↓AB,↓AA,g1,hlt,ihk,AK,AJ,AP];refine⟨hst,?_⟩;exact(by first|rfl|(refine AN rfl (by rfl) (by rfl) (by rfl) ?_ ?_<;>simp[AV.underL,AV.under,MB.under,AD,AI,AG,AF,AL,AM,-map_take,AH,AF]))
      | false=>
        rw[hr]at ihk hst;have hf:regL kids=false:=by
         rw[<- List.take_append_drop (i+1) kids,De,hst];rfl
        rw[hf];simp +contextual -implicitDefEqProofs (disch:=omega) only[Tryz.f31,dd31,go_sem,simprocAttr,mu31,↓AE,↓AC,↓AB,↓AA,g1,hlt,ihk,AK,AJ,AP];exact fzEq rfl rfl
     ·intro hinv;rw[take_length]at hinv;rw[hinv];simp +contextual -implicitDefEqProofs (disch:=omega) only[Tryz.f31,dd31,go_sem,simprocAttr,mu31,↓AE,↓AC,↓AB,↓AA];exact fzEq rfl rfl
    ·simp +contextual -implicitDefEqProofs (disch:=omega) only[Tryz.f31,dd31,go_sem,simprocAttr,mu31,↓AE,↓AC,↓AB,↓AA,hg,h4];refine AY (M:=(mskOf (pol1.mask 31) (pol1.gc 31) (pol1.acts 31) 0 4)) (by rfl) kids.length (fun i=>(⟨31,[(3,I i),(1,.rf 0 1 0 0)],[.row 8 [.agg (nodeL op set kids mn mx md n neg)] 0]⟩:St)) (fun i=>regL (kids.take i)=true) ?_ ?_ rfl _ (by first|rfl|(refine AN rfl (by rfl) (by rfl) (by rfl) ?_ ?_<;>simp[AV.underL,AV.under,MB.under,AD,AI,AG,AF,AL,AM,-map_take,AH,AF]))
     ·intro i hi hinv;obtain⟨k,hk⟩:∃ k,kids[i]?=some k:=⟨_,getElem?_eq_getElem hi⟩;have g1:=At hk;have ihk:=ih k (mem_of_getElem? hk);have hlt:(i:Int)<(kids.length:Int):=by omega
      have hst:regL (kids.take (i+1))=regG k:=by rw[AZ hk,De,hinv];simp[regL]
      cases hr:regG k with
      | true=>
        rw[hr]at ihk hst;simp +contextual -implicitDefEqProofs (disch:=omega) only[Tryz.f31,dd31,go_sem,simprocAttr,mu31,↓AE,↓AC,↓AB,↓AA,g1,hlt,ihk,AK,AJ,AP];refine⟨hst,?_⟩;exact(by first|rfl|(refine AN rfl (by rfl) (by rfl) (by rfl) ?_ ?_<;>simp[AV.underL,AV.under,MB.under,AD,AI,AG,AF,AL,AM,-map_take,AH,AF]))
      | false=>
        rw[hr]at ihk hst;have hf:regL kids=false:=by
         rw[<- List.take_append_drop (i+1) kids,De,hst];rfl
        rw[hf];simp +contextual -implicitDefEqProofs (disch:=omega) only[Tryz.f31,dd31,go_sem,simprocAttr,mu31,↓AE,↓AC,↓AB,↓AA,g1,hlt,ihk,AK,AJ,AP];exact fzEq rfl rfl
     ·intro hinv;rw[take_length]at hinv;rw[hinv];simp +contextual -implicitDefEqProofs (disch:=omega) only[Tryz.f31,dd31,go_sem,simprocAttr,mu31,↓AE,↓AC,↓AB,↓AA];exact fzEq rfl rfl
theorem d10 (p:Pat) (hw:p.re.wt<=1000000) (H:List MB):call Pg pol1 10 [patAV p] H=some (I (chkP p),H):=by
 have h30:=f52 p hw;have hv:validP p=0->wholeG p.caps (topI p.runes) p.re=true:=fun h=>by
  unfold validP at h;split at h
  ·cases h
  ·split at h
   ·cases h
   ·rename_i h2;simp only[not_or]at h2
    simpa using h2.2.2
 have h31:=fun h=>d31 p.caps (topI p.runes) _ p.re (le_refl _) (by omega) (hv h);clear hv;obtain⟨re,caps,runes⟩:=p;have hc:chkP ⟨re,caps,runes⟩=if validP ⟨re,caps,runes⟩≠0 then validP ⟨re,caps,runes⟩ else if regG re=true then 0 else 10:=rfl
 rw[hc];refine AR Tryz.func10 rfl rfl rfl rfl rfl rfl (fun _=>rfl) (by simp[AV.plainL,AV.plain];exact Av _) rfl ?_ H;have hl8:=AK re;have htk8:∀ l,List.take 8 (reC re++l)=reC re:=fun l=>by
  rw[List.take_append_of_le_length (by omega)];exact take_of_length_le (by omega)
 have htk10:List.take 10 (reC re++[I caps,.bool runes])=reC re++[I caps,.bool runes]:=take_of_length_le (by simp[hl8]);have hall:=AP re;generalize validP ⟨re,caps,runes⟩=e at *;by_cases he:e=0
 ·subst he;have h31':=h31 rfl;rw[if_neg (by simp)];cases hr:regG re with
  | true=>
    simp only[hr]at h31';rw[if_pos rfl];simp +contextual -implicitDefEqProofs (disch:=omega) only[Tryz.f10,dd10,go_sem,simprocAttr,mu10,↓AE,↓AC,↓AB,↓AA,h30,h31',hl8,htk8,htk10,hall,all_append];exact fzEq rfl rfl
  | false=>
    simp only[hr]at h31';rw[if_neg (by simp)];simp +contextual -implicitDefEqProofs (disch:=omega) only[Tryz.f10,dd10,go_sem,simprocAttr,mu10,↓AE,↓AC,↓AB,↓AA,h30,h31',hl8,htk8,htk10,hall,all_append];exact fzEq rfl rfl
 ·rw[if_pos he];simp +contextual -implicitDefEqProofs (disch:=omega) only[Tryz.f10,dd10,go_sem,simprocAttr,mu10,↓AE,↓AC,↓AB,↓AA,h30,he,hl8,htk8,htk10,hall,all_append];exact fzEq rfl rfl
end
section
theorem Hp {H:List MB}{i n z:Nat}{rs xs:List Int}{t:Bool} (hi:getRow H i=some (1,rs.map I,z)) (hz:z<=n) (hn:rs.length=n) (hr:n+xs.length<=4000000000) :
  evAppend Pg H 22 22 (.ms i 1 n 0 n) (.sl t (xs.map I))=some (.ms i 1 (n+xs.length) 0 (n+xs.length),H.set i (.row 1 ((rs++xs).map I) z)):=by
 have hs:srcElems Pg H 3 (.sl t (xs.map I))=some (xs.map I):=rfl;have ha:((xs.map I).all fun y=>decide (y.cells.length=1)&&y.cells.all AV.ok)=true:=by
  rw[List.all_eq_true];intro y hy;obtain⟨i,_,rfl⟩:=mem_map.1 hy;rfl
 rw[Ai (e:=3) (by kernel_rfl) (by kernel_rfl) (k:=1) (by kernel_rfl) (by_:=8) (by kernel_rfl) (ze:=I 0) (by kernel_rfl) rfl (by omega) hs ha hi (by rw[List.length_map];exact hn) hz (Ae (by simp;omega) (by omega))];rw[map_append,List.length_map]
theorem FN {l:List (Int×Int)}{i:Nat}{p:Int×Int} (h:l[i]?=some p):((l.take (i+1)).flatMap fun p=>[p.1,p.2])=((l.take i).flatMap fun p=>[p.1,p.2])++[p.1,p.2]:=by
 rw[AZ h,List.flatMap_append];simp
theorem d69 (r:Re) (hw:r.wt<=100000000) (H:List MB):call Pg pol1 69 [reAV r] H=some (.sl false ((nodeK r).map I),H):=by
 have hk:=DB r;obtain⟨op,set,kids,mn,mx,md,n,neg⟩:=r;have hwt:1+set.length+Re.wtL kids=(Re.mk op set kids mn mx md n neg).wt:=by simp[Re.wt]
 have hkl:=Re.wtL_len kids;rw[hk,show tailK (.mk op set kids mn mx md n neg)=[mn,mx,md,n,neg01 neg,(kids.length:Int)] from rfl,show (Re.mk op set kids mn mx md n neg).op=op from rfl,show (Re.mk op set kids mn mx md n neg).set=set from rfl];refine AR Tryz.func69 rfl rfl rfl rfl rfl rfl (fun _=>rfl) (by simp[AV.plain,AV.plainL,AO]) (by simp only[AV.plain,AG];rfl) ?_ H;rw[show reAV (.mk op set kids mn mx md n neg)=.agg (nodeL op set kids mn mx md n neg) from congrArg AV.agg Ab];cases neg
 ·simp +contextual -implicitDefEqProofs (disch:=omega) only[Tryz.f69,dd69,go_sem,simprocAttr,evAppend,map_append,mu69,↓AE,↓AC,↓AB,↓AA];refine AY (M:=(mskOf (pol1.mask 69) (pol1.gc 69) (pol1.acts 69) 0 6)) (by rfl) set.length (fun i=>(⟨51,[(5,I i),(4,.ms 1 1 (2+2*i) 0 (2+2*i)),(3,I 0),(1,.rf 0 1 0 0)],[.row 8 [.agg (nodeL op set kids mn mx md n false)] 0,.row 1 ((op::(set.length:Int)::(set.take i).flatMap (fun p=>[p.1,p.2])).map I) 0]⟩:St)) (fun _=>True) ?_ ?_ trivial _ (by first|rfl|(refine AN rfl (by rfl) (by rfl) (by rfl) ?_ ?_<;>simp[AV.underL,AV.under,MB.under,AD,AI,AG,AF,AL,AM,-map_take,AH,AF]))
  ·intro i hi _;obtain⟨p,hp⟩:∃ p,set[i]?=some p:=⟨_,getElem?_eq_getElem hi⟩;have hp':(set.map spanAV)[i]?=some (spanAV p):=by simp[hp]
   have hlt:(i:Int)<(set.length:Int):=by omega
   have hft:=FN hp;have hfl:=BG (set.take i);rw[List.length_take,Nat.min_eq_left (by omega)]at hfl;rw[hft,show op::(set.length:Int)::((set.take i).flatMap (fun p=>[p.1,p.2])++[p.1,p.2])=(op::(set.length:Int)::(set.take i).flatMap (fun p=>[p.1,p.2]))++[p.1,p.2] from rfl,show 2+2*(i+1)=2+2*i+2 by omega];have hXl:(op::(set.length:Int)::(set.take i).flatMap (fun p=>[p.1,p.2])).length=2+2*i:=by simp only[length_cons,hfl];omega
   generalize op::(set.length:Int)::(set.take i).flatMap (fun p=>[p.1,p.2])=X at *;have a1:=fun b0=>Hp (H:=[b0,.row 1 (X.map I) 0]) (i:=1) (n:=2+2*i) (xs:=[p.1,p.2]) (t:=true) (rs:=X) (z:=0) rfl (zero_le _) hXl (by simp;omega);simp only[set_cons_succ,List.set_cons_zero,map_cons,map_nil,length_cons,length_nil,zero_add,Nat.reduceAdd]at a1;simp +contextual -implicitDefEqProofs (disch:=omega) only[Tryz.f69,dd69,go_sem,simprocAttr,mu69,↓AE,↓AC,↓AB,↓AA,hp',hlt,a1];repeat' (first|intro _|apply And.intro|(unfold dOk;kernel_rfl)|exact St.beq_refl _|exact AQ|(show altO _ _ _ _=true;kernel_rfl)|(show (_||_)=true;kernel_rfl)|(show (_&&_)=true;kernel_rfl))
   generalize X++[p.1,p.2]=X2;exact(by first|rfl|(refine AN rfl (by rfl) (by rfl) (by rfl) ?_ ?_<;>simp[AV.underL,AV.under,MB.under,AD,AI,AG,AF,AL,AM,-map_take,AG,AH,AF]))
  ·intro _;rw[take_length];have hfl:=BG set;have hXl:(op::(set.length:Int)::set.flatMap (fun p=>[p.1,p.2])).length=2+2*set.length:=by simp only[length_cons,hfl];omega
   rw[show op::(set.length:Int)::(set.flatMap (fun p=>[p.1,p.2])++[mn,mx,md,n,neg01 false,(kids.length:Int)])=(op::(set.length:Int)::set.flatMap (fun p=>[p.1,p.2]))++[mn,mx,md,n,0,(kids.length:Int)] from rfl];generalize op::(set.length:Int)::set.flatMap (fun p=>[p.1,p.2])=X at *;have a1:=fun b0=>Hp (H:=[b0,.row 1 (X.map I) 0]) (i:=1) (n:=2+2*set.length) (xs:=[mn,mx,md,n,0,(kids.length:Int)]) (t:=true) (rs:=X) (z:=0) rfl (zero_le _) hXl (by simp;omega);have hX2:(X++[mn,mx,md,n,0,(kids.length:Int)]).length=2+2*set.length+6:=by simp[hXl]
   simp only[set_cons_succ,List.set_cons_zero,map_cons,map_nil,length_cons,length_nil,zero_add,Nat.reduceAdd]at a1;generalize X++[mn,mx,md,n,0,(kids.length:Int)]=X2 at *;simp +contextual -implicitDefEqProofs (disch:=omega) only[Tryz.f69,dd69,go_sem,simprocAttr,mu69,↓AE,↓AC,↓AB,↓AA,a1];rw[Az (z:=0) rfl (by simpa using hX2) (AG X2)];exact⟨_,rfl⟩
 ·simp +contextual -implicitDefEqProofs (disch:=omega) only[Tryz.f69,dd69,go_sem,simprocAttr,evAppend,map_append,mu69,↓AE,↓AC,↓AB,↓AA];refine AY (M:=(mskOf (pol1.mask 69) (pol1.gc 69) (pol1.acts 69) 0 6)) (by rfl) set.length (fun i=>(⟨51,[(5,I i),(4,.ms 1 1 (2+2*i) 0 (2+2*i)),(3,I 1),(1,.rf 0 1 0 0)],[.row 8 [.agg (nodeL op set kids mn mx md n true)] 0,.row 1 ((op::(set.length:Int)::(set.take i).flatMap (fun p=>[p.1,p.2])).map I) 0]⟩:St)) (fun _=>True) ?_ ?_ trivial _ (by first|rfl|(refine AN rfl (by rfl) (by rfl) (by rfl) ?_ ?_<;>simp[AV.underL,AV.under,MB.under,AD,AI,AG,AF,AL,AM,-map_take,AH,AF]))
  ·intro i hi _;obtain⟨p,hp⟩:∃ p,set[i]?=some p:=⟨_,getElem?_eq_getElem hi⟩;have hp':(set.map spanAV)[i]?=some (spanAV p):=by simp[hp]
   have hlt:(i:Int)<(set.length:Int):=by omega
   have hft:=FN hp;have hfl:=BG (set.take i);rw[List.length_take,Nat.min_eq_left (by omega)]at hfl;rw[hft,show op::(set.length:Int)::((set.take i).flatMap (fun p=>[p.1,p.2])++[p.1,p.2])=(op::(set.length:Int)::(set.take i).flatMap (fun p=>[p.1,p.2]))++[p.1,p.2] from rfl,show 2+2*(i+1)=2+2*i+2 by omega];have hXl:(op::(set.length:Int)::(set.take i).flatMap (fun p=>[p.1,p.2])).length=2+2*i:=by simp only[length_cons,hfl];omega
   generalize op::(set.length:Int)::(set.take i).flatMap (fun p=>[p.1,p.2])=X at *;have a1:=fun b0=>Hp (H:=[b0,.row 1 (X.map I) 0]) (i:=1) (n:=2+2*i) (xs:=[p.1,p.2]) (t:=true) (rs:=X) (z:=0) rfl (zero_le _) hXl (by simp;omega);simp only[set_cons_succ,List.set_cons_zero,map_cons,map_nil,length_cons,length_nil,zero_add,Nat.reduceAdd]at a1;simp +contextual -implicitDefEqProofs (disch:=omega) only[Tryz.f69,dd69,go_sem,simprocAttr,mu69,↓AE,↓AC,↓AB,↓AA,hp',hlt,a1];repeat' (first|intro _|apply And.intro|(unfold dOk;kernel_rfl)|exact St.beq_refl _|exact AQ|(show altO _ _ _ _=true;kernel_rfl)|(show (_||_)=true;kernel_rfl)|(show (_&&_)=true;kernel_rfl))
   generalize X++[p.1,p.2]=X2;exact(by first|rfl|(refine AN rfl (by rfl) (by rfl) (by rfl) ?_ ?_<;>simp[AV.underL,AV.under,MB.under,AD,AI,AG,AF,AL,AM,-map_take,AG,AH,AF]))
  ·intro _;rw[take_length];have hfl:=BG set;have hXl:(op::(set.length:Int)::set.flatMap (fun p=>[p.1,p.2])).length=2+2*set.length:=by simp only[length_cons,hfl];omega
   rw[show op::(set.length:Int)::(set.flatMap (fun p=>[p.1,p.2])++[mn,mx,md,n,neg01 true,(kids.length:Int)])=(op::(set.length:Int)::set.flatMap (fun p=>[p.1,p.2]))++[mn,mx,md,n,1,(kids.length:Int)] from rfl];generalize op::(set.length:Int)::set.flatMap (fun p=>[p.1,p.2])=X at *;have a1:=fun b0=>Hp (H:=[b0,.row 1 (X.map I) 0]) (i:=1) (n:=2+2*set.length) (xs:=[mn,mx,md,n,1,(kids.length:Int)]) (t:=true) (rs:=X) (z:=0) rfl (zero_le _) hXl (by simp;omega);have hX2:(X++[mn,mx,md,n,1,(kids.length:Int)]).length=2+2*set.length+6:=by simp[hXl]
   simp only[set_cons_succ,List.set_cons_zero,map_cons,map_nil,length_cons,length_nil,zero_add,Nat.reduceAdd]at a1;generalize X++[mn,mx,md,n,1,(kids.length:Int)]=X2 at *;simp +contextual -implicitDefEqProofs (disch:=omega) only[Tryz.f69,dd69,go_sem,simprocAttr,mu69,↓AE,↓AC,↓AB,↓AA,a1];rw[Az (z:=0) rfl (by simpa using hX2) (AG X2)];exact⟨_,rfl⟩
theorem Ia (r:Re):(nodeK r).length=8+2*r.set.length:=by
 rw[DB];have:=BG r.set;cases r;simp only[tailK,length_cons,length_append,length_nil,this]at *;omega
theorem d36:∀(N:Nat) (a b:Re),a.wt<=N->a.wt<=100000000->b.wt<=100000000->∀ H,call Pg pol1 36 [reAV a,reAV b] H=some (I (cmpR a b),H):=by
 intro N
 induction N with
 | zero=>intro a b h;have:=a.wt_pos;omega
 | succ N ihN=>
   intro a b h hwa hwb H;have hxa:=d69 a hwa;have hxb:=d69 b hwb;have hce:=J1 a b;have hla:=Ia a;have hlb:=Ia b;have hzl:(nodeK a).zip (nodeK b)=(nodeK a).zip (nodeK b):=rfl;have hlex:lexI (nodeK a) (nodeK b)=lexP ((nodeK a).zip (nodeK b)):=E0;have hsa:=Re.wt_sub a;have hsb:=Re.wt_sub b;have heq:lexI (nodeK a) (nodeK b)=0->(nodeK a).length=(nodeK b).length/\a.sub.length=b.sub.length:=fun h0=>by
    have hn:=DA h0;refine⟨by rw[hn],?_⟩;obtain⟨op,set,kids,mn,mx,md,n,neg⟩:=a;obtain⟨op',set',kids',mn',mx',md',n',neg'⟩:=b;exact(Je hn).2.2.1
   have ih:=fun k (hk:k∈a.sub) k' (hk':k'∈b.sub)=>ihN k k' (by have:=Re.wtL_mem hk;omega) (by have:=Re.wtL_mem hk;omega) (by have:=Re.wtL_mem hk';omega);obtain⟨op,set,kids,mn,mx,md,n,neg⟩:=a;obtain⟨op',set',kids',mn',mx',md',n',neg'⟩:=b;simp only[Re.sub,Re.set]at *;have hkl:=Re.wtL_len kids;have hkl':=Re.wtL_len kids';refine AR Tryz.func36 rfl rfl rfl rfl rfl rfl (fun _=>rfl) (by simp[AV.plain,AV.plainL,AO]) rfl ?_ H;have ea:reAV (.mk op set kids mn mx md n neg)=.agg (nodeL op set kids mn mx md n neg):=congrArg AV.agg Ab;have eb:reAV (.mk op' set' kids' mn' mx' md' n' neg')=.agg (nodeL op' set' kids' mn' mx' md' n' neg'):=congrArg AV.agg Ab;rw[ea]at hxa |-;rw[eb]at hxb |-;rw[hce];clear hce;rw[hlex]at heq |-;clear hlex;generalize hx:nodeK (.mk op set kids mn mx md n neg)=x at *;generalize hy:nodeK (.mk op' set' kids' mn' mx' md' n' neg')=y at *;generalize hz:x.zip y=z at *;have hzlen:z.length=min x.length y.length:=by rw[<- hz,List.length_zip]
   simp +contextual -implicitDefEqProofs (disch:=omega) only[Tryz.f36,dd36,go_sem,simprocAttr,evAppend,map_append,mu36,↓AE,↓AC,↓AB,↓AA,hxa,hxb];refine AY (M:=(mskOf (pol1.mask 36) (pol1.gc 36) (pol1.acts 36) 0 4)) (by rfl) z.length (fun i=>(⟨65,[(7,I i),(6,.sl false (y.map I)),(5,.sl false (x.map I)),(3,.rf 1 1 0 0),(2,.rf 0 1 0 0)],[.row 8 [.agg (nodeL op set kids mn mx md n neg)] 0,.row 8 [.agg (nodeL op' set' kids' mn' mx' md' n' neg')] 0]⟩:St)) (fun i=>lexP (z.take i)=0) ?_ ?_ rfl _ (by first|rfl|(refine AN rfl (by rfl) (by rfl) (by rfl) ?_ ?_<;>simp[AV.underL,AV.under,MB.under,AD,AI,AG,AF,AL,AM,-map_take,AH,AF,AG]))
   ·intro i hi hinv;obtain⟨u,hu⟩:∃ u,x[i]?=some u:=⟨_,getElem?_eq_getElem (by omega)⟩;obtain⟨v,hv⟩:∃ v,y[i]?=some v:=⟨_,getElem?_eq_getElem (by omega)⟩;have hzi:z[i]?=some (u,v):=by rw[<- hz,List.getElem?_zip_eq_some];exact⟨hu,hv⟩
    have hu':(x.map I)[i]?=some (I u):=by simp[hu]
    have hv':(y.map I)[i]?=some (I v):=by simp[hv]
    have hlt:(i:Int)<(x.length:Int):=by omega
    have hlt2:(i:Int)<(y.length:Int):=by omega
    have hst:lexP (z.take (i+1))=lexP [(u,v)]:=by rw[AZ hzi,By,hinv];simp
    have hall:lexP [(u,v)]≠0->lexP z=lexP [(u,v)]:=fun h=>by
     conv=>lhs;rw[<- List.take_append_drop (i+1) z,By,hst,if_pos h]
    simp only[lexP]at hst hall;by_cases h1:u<v
    ·rw[if_pos h1]at hall;rw[hall (by omega),if_pos (by omega)];simp +contextual -implicitDefEqProofs (disch:=omega) only[Tryz.f36,dd36,go_sem,simprocAttr,evAppend,map_append,mu36,↓AE,↓AC,↓AB,↓AA,hu',hv',hlt,hlt2,h1];repeat' (first|intro _|apply And.intro|(unfold dOk;kernel_rfl)|exact St.beq_refl _|exact AQ|(show altO _ _ _ _=true;kernel_rfl)|(show (_||_)=true;kernel_rfl)|(show (_&&_)=true;kernel_rfl))
     exact fzEq rfl rfl
    ·by_cases h2:v<u
     ·rw[if_neg h1,if_pos h2]at hall;rw[hall (by omega),if_pos (by omega)];simp +contextual -implicitDefEqProofs (disch:=omega) only[Tryz.f36,dd36,go_sem,simprocAttr,evAppend,map_append,mu36,↓AE,↓AC,↓AB,↓AA,hu',hv',hlt,hlt2,h1,h2];repeat' (first|intro _|apply And.intro|(unfold dOk;kernel_rfl)|exact St.beq_refl _|exact AQ|(show altO _ _ _ _=true;kernel_rfl)|(show (_||_)=true;kernel_rfl)|(show (_&&_)=true;kernel_rfl))
      exact fzEq rfl rfl
     ·rw[if_neg h1,if_neg h2]at hst;simp +contextual -implicitDefEqProofs (disch:=omega) only[Tryz.f36,dd36,go_sem,simprocAttr,evAppend,map_append,mu36,↓AE,↓AC,↓AB,↓AA,hu',hv',hlt,hlt2,h1,h2];repeat' (first|intro _|apply And.intro|(unfold dOk;kernel_rfl)|exact St.beq_refl _|exact AQ|(show altO _ _ _ _=true;kernel_rfl)|(show (_||_)=true;kernel_rfl)|(show (_&&_)=true;kernel_rfl))
      ·exact hst
      ·exact(by first|rfl|(refine AN rfl (by rfl) (by rfl) (by rfl) ?_ ?_<;>simp[AV.underL,AV.under,MB.under,AD,AI,AG,AF,AL,AM,-map_take,AH,AF,AG]))
   ·intro hinv;rw[take_length]at hinv;obtain⟨q1,q2⟩:=heq hinv;rw[hinv,if_neg (by simp)];have hnl:¬ ((z.length:Nat):Int)<(x.length:Int):=by omega
    simp +contextual -implicitDefEqProofs (disch:=omega) only[Tryz.f36,dd36,go_sem,simprocAttr,evAppend,map_append,mu36,↓AE,↓AC,↓AB,↓AA,hnl];refine AY (M:=(mskOf (pol1.mask 36) (pol1.gc 36) (pol1.acts 36) 0 11)) (by rfl) kids.length (fun i=>(⟨65,[(8,I i),(3,.rf 1 1 0 0),(2,.rf 0 1 0 0)],[.row 8 [.agg (nodeL op set kids mn mx md n neg)] 0,.row 8 [.agg (nodeL op' set' kids' mn' mx' md' n' neg')] 0]⟩:St)) (fun i=>cmpL (kids.take i) (kids'.take i)=0) ?_ ?_ rfl _ (by first|rfl|(refine AN rfl (by rfl) (by rfl) (by rfl) ?_ ?_<;>simp[AV.underL,AV.under,MB.under,AD,AI,AG,AF,AL,AM,-map_take,AH,AF,AG]))
    ·intro i hi hinv;obtain⟨k,hk⟩:∃ k,kids[i]?=some k:=⟨_,getElem?_eq_getElem hi⟩;obtain⟨k',hk'⟩:∃ k,kids'[i]?=some k:=⟨_,getElem?_eq_getElem (by omega)⟩;have ihk:=ih k (mem_of_getElem? hk) k' (mem_of_getElem? hk');have g1:=At hk;have g2:=At hk';have hlt:(i:Int)<(kids.length:Int):=by omega
     have hlt2:(i:Int)<(kids'.length:Int):=by omega
     have hst:cmpL (kids.take (i+1)) (kids'.take (i+1))=cmpR k k':=by
      rw[AZ hk,AZ hk',FX _ _ (by simp;omega) hinv];rcases CK k k' [] [] with ⟨h2,e2⟩|⟨h2,e2⟩
      ·rw[e2,h2];rfl
      ·exact e2
     by_cases hc:cmpR k k' = 0
     ·rw[hc]at hst ihk;simp +contextual -implicitDefEqProofs (disch:=omega) only[Tryz.f36,dd36,go_sem,simprocAttr,evAppend,map_append,mu36,↓AE,↓AC,↓AB,↓AA,g1,g2,hlt,hlt2,ihk,AK,AJ,AP];repeat' (first|intro _|apply And.intro|(unfold dOk;kernel_rfl)|exact St.beq_refl _|exact AQ|(show altO _ _ _ _=true;kernel_rfl)|(show (_||_)=true;kernel_rfl)|(show (_&&_)=true;kernel_rfl))
      ·exact hst
      ·exact(by first|rfl|(refine AN rfl (by rfl) (by rfl) (by rfl) ?_ ?_<;>simp[AV.underL,AV.under,MB.under,AD,AI,AG,AF,AL,AM,-map_take,AH,AF,AG]))
     ·have hall:cmpL kids kids' = cmpR k k':=by
       conv=>lhs;rw[<- List.take_append_drop (i+1) kids,<- List.take_append_drop (i+1) kids',FW _ _ (by simp;omega) (by rw[hst];exact hc),hst]
      rw[hall];generalize cmpR k k' = c at *;simp +contextual -implicitDefEqProofs (disch:=omega) only[Tryz.f36,dd36,go_sem,simprocAttr,evAppend,map_append,mu36,↓AE,↓AC,↓AB,↓AA,g1,g2,hlt,hlt2,ihk,hc,AK,AJ,AP];repeat' (first|intro _|apply And.intro|(unfold dOk;kernel_rfl)|exact St.beq_refl _|exact AQ|(show altO _ _ _ _=true;kernel_rfl)|(show (_||_)=true;kernel_rfl)|(show (_&&_)=true;kernel_rfl))
      exact fzEq rfl rfl
    ·intro hinv;rw[take_length,take_of_length_le (by omega)]at hinv;rw[hinv];simp +contextual -implicitDefEqProofs (disch:=omega) only[Tryz.f36,dd36,go_sem,simprocAttr,evAppend,map_append,mu36,↓AE,↓AC,↓AB,↓AA];exact fzEq rfl rfl
end
section
theorem NI {l:List Re}{r k:Re}{i:Nat} (hk:l[i]?=some k) (h:cmpR k r = -1) (hi:putR l r=l.take i++putR (l.drop i) r):putR l r=l.take (i+1)++putR (l.drop (i+1)) r:=by
 have hlt:=(List.getElem?_eq_some_iff.1 hk).1;have e:l.drop i=k::l.drop (i+1):=by
  rw[List.drop_eq_getElem_cons hlt];rw[getElem?_eq_getElem hlt]at hk;rw[Option.some.inj hk]
 rw[hi,e,putR,if_pos h,AZ hk,List.append_assoc];rfl
theorem all8 (l:List Re):((l.map reAV).all fun y=>decide (y.cells.length=8))=true:=by
 rw[List.all_eq_true];intro y hy;obtain⟨r,_,rfl⟩:=mem_map.1 hy;simp only[AV.cells,AK,decide_true]
theorem d96 (l:List Re) (r:Re) (hl:Re.wtL l<=100000000) (hr:r.wt<=100000000) (H:List MB):call Pg pol1 96 [.sl false (l.map reAV),reAV r] H=some (.sl false ((putR l r).map reAV),H):=by
 have hll:=Re.wtL_len l;have hpl:=AH l;have hpr:=AU r;refine AR Tryz.func96 rfl rfl rfl rfl rfl rfl (fun _=>rfl) (by simp[AV.plain,AV.plainL,AO,AH]) (by simp only[AV.plain,AH];rfl) ?_ H;simp +contextual -implicitDefEqProofs (disch:=omega) only[Tryz.f96,dd96,go_sem,simprocAttr,evAppend,map_append,mu96,↓AE,↓AC,↓AB,↓AA,AK,AJ,AP];refine CZ (σ:=Nat) (M:=(mskOf (pol1.mask 96) (pol1.gc 96) (pol1.acts 96) 0 2)) (by rfl) (fun i=>(⟨50,[(5,I i),(3,.rf 0 1 0 0),(0,.sl false (l.map reAV))],[.row 8 [reAV r] 0]⟩:St)) (fun i=>i<=l.length/\putR l r=l.take i++putR (l.drop i) r) (fun i=>l.length-i) 0 ?_ ⟨zero_le _,rfl⟩ _ (by first|rfl|(refine AN rfl (by rfl) (by rfl) (by rfl) ?_ ?_<;>simp[AV.underL,AV.under,MB.under,AD,AI,AG,AF,AL,AM,-map_take,AH,AO]));intro i ⟨hi,hinv⟩;have htk:(l.map reAV).take i=(l.take i).map reAV:=by rw[map_take]
 have hdr:((l.map reAV).take l.length).drop i=(l.drop i).map reAV:=by rw[take_of_length_le (by simp),List.map_drop]
 have h8:((l.map reAV).all fun y=>decide (y.cells.length=8))=true:=all8 l;simp only[AV.cells]at h8;have hil:(i:Int)<=(l.length:Int):=by omega
 have htl:(l.take i).length=i:=by rw[List.length_take];omega
 have hdl:(l.drop i).length=l.length-i:=by simp
 have a1:=fun(b0:MB)=>EZ (H:=[b0,.row 8 [] 0]) (i:=1) (n:=0) (xs:=l.take i) (t:=false) (rs:=[]) (z:=0) rfl (zero_le _) rfl (by omega);have a2:=fun(b0:MB)=>BY (H:=[b0,.row 8 ((l.take i).map reAV) 0]) (i:=1) (n:=i) (x:=r) (t:=true) (rs:=l.take i) (z:=0) rfl (zero_le _) htl (by omega);have a3:=fun(b0:MB)=>EZ (H:=[b0,.row 8 ((l.take i++[r]).map reAV) 0]) (i:=1) (n:=i+1) (xs:=l.drop i) (t:=false) (rs:=l.take i++[r]) (z:=0) rfl (zero_le _) (by simp[htl]) (by omega);have hfl:(l.take i++[r]++l.drop i).length=i+1+(l.length-i):=by simp[htl];omega
 simp only[set_cons_succ,List.set_cons_zero,map_nil,List.nil_append,zero_add]at a1 a2 a3;rw[htl]at a1;rw[hdl]at a3;by_cases hlt:i<l.length
 ·obtain⟨k,hk⟩:∃ k,l[i]?=some k:=⟨_,getElem?_eq_getElem hlt⟩;have g1:=At hk;have hlt':(i:Int)<(l.length:Int):=by omega
  have h36:=d36 _ k r (le_refl _) (by have:=Jf hk;omega) hr;rcases CB k r with hc|hc|hc
  ·have hst:=NI hk hc hinv;rw[hc]at h36;simp +contextual -implicitDefEqProofs (disch:=omega) only[Tryz.f96,dd96,go_sem,simprocAttr,evAppend,map_append,mu96,↓AE,↓AC,↓AB,↓AA,g1,hlt',h36,AK,AJ,AP];repeat' (first|intro _|apply And.intro|(unfold dOk;kernel_rfl)|exact St.beq_refl _|exact AQ|(show altO _ _ _ _=true;kernel_rfl)|(show (_||_)=true;kernel_rfl)|(show (_&&_)=true;kernel_rfl))
   exact⟨i+1,⟨by omega,hst⟩,by omega,(by first|rfl|(refine AN rfl (by rfl) (by rfl) (by rfl) ?_ ?_<;>simp[AV.underL,AV.under,MB.under,AD,AI,AG,AF,AL,AM,-map_take,AH,AO]))⟩
  ·rw[hc]at h36;have hP:putR l r=l:=by
    have e:l.drop i=k::l.drop (i+1):=by
     rw[List.drop_eq_getElem_cons hlt];rw[getElem?_eq_getElem hlt]at hk;rw[Option.some.inj hk]
    rw[hinv,e,putR,if_neg (by omega),if_pos hc,<- e,List.take_append_drop]
   rw[hP];simp +contextual -implicitDefEqProofs (disch:=omega) only[Tryz.f96,dd96,go_sem,simprocAttr,evAppend,map_append,mu96,↓AE,↓AC,↓AB,↓AA,g1,hlt',h36,AK,AJ,AP];repeat' (first|intro _|apply And.intro|(unfold dOk;kernel_rfl)|exact St.beq_refl _|exact AQ|(show altO _ _ _ _=true;kernel_rfl)|(show (_||_)=true;kernel_rfl)|(show (_&&_)=true;kernel_rfl))
   exact fzEq (by simp[AV.plain,AH]) rfl
  ·rw[hc]at h36;have hP:putR l r=l.take i++[r]++l.drop i:=by
    have e:l.drop i=k::l.drop (i+1):=by
     rw[List.drop_eq_getElem_cons hlt];rw[getElem?_eq_getElem hlt]at hk;rw[Option.some.inj hk]
    rw[hinv,e,putR,if_neg (by omega),if_neg (by omega),List.append_assoc];rfl
   rw[hP];generalize l.take i++[r]++l.drop i=P0 at *;simp +contextual -implicitDefEqProofs (disch:=omega) only[Tryz.f96,dd96,go_sem,simprocAttr,mu96,↓AE,↓AC,↓AB,↓AA,g1,hlt',h36,h8,htk,hdr,hil,a1,a2,a3,AK,AJ,AP,Bool.false_and];repeat' (first|intro _|apply And.intro|(unfold dOk;kernel_rfl)|exact St.beq_refl _|exact AQ|(show altO _ _ _ _=true;kernel_rfl)|(show (_||_)=true;kernel_rfl)|(show (_&&_)=true;kernel_rfl))
   rw[Az (z:=0) rfl (by simpa using hfl) (AH _)];exact⟨_,rfl⟩
 ·have hlt':¬ (i:Int)<(l.length:Int):=by omega
  have hP:putR l r=l.take i++[r]++l.drop i:=by
   rw[hinv,List.drop_of_length_le (by omega)];simp[putR]
  rw[hP];generalize l.take i++[r]++l.drop i=P0 at *;simp +contextual -implicitDefEqProofs (disch:=omega) only[Tryz.f96,dd96,go_sem,simprocAttr,mu96,↓AE,↓AC,↓AB,↓AA,hlt',h8,htk,hdr,hil,a1,a2,a3,AK,AJ,AP,Bool.false_and];repeat' (first|intro _|apply And.intro|(unfold dOk;kernel_rfl)|exact St.beq_refl _|exact AQ|(show altO _ _ _ _=true;kernel_rfl)|(show (_||_)=true;kernel_rfl)|(show (_&&_)=true;kernel_rfl))
  rw[Az (z:=0) rfl (by simpa using hfl) (AH _)];exact⟨_,rfl⟩
theorem c95 (op:Int) (X:List Re) (z:Re) {i:Nat}{H H1:List MB} (hz:fz (.ms i 8 X.length 0 X.length) H=some (.sl false (X.map reAV),H1)):call Pg pol1 95 [I op,.ms i 8 X.length 0 X.length,zeR] H=some (reAV (joinR op X emptyR),H1):=
 (BB (P:=Pg) (pol:=pol1) (f:=95) (l:=[I op,.sl false (X.map reAV),reAV emptyR]) (H1:=H1) rfl (by
   have hze:∀ G,fz zeR G=some (reAV emptyR,G):=fun G=>rfl;simp only[frzArgs,show pol1.byref 95 0=false from rfl,show pol1.byref 95 (0+1)=false from rfl,show pol1.byref 95 (0+1+1)=false from rfl,false_eq_true,if_false,hz,Ac _ (show AV.plain (I op)=true from rfl),hze]) (by simp[AV.plainL,AV.plain,AH,AO])).trans (d95 op X emptyR _)
theorem Nx {l:List Re}{k:Re} (hN:∀ x∈l,NF x) (hk:k∈l) (hn:isNoth k=true):catR l=k:=by
 have h0:k.op≠0:=by
  simp only[isNoth,Bool.and_eq_true,decide_eq_true_eq]at hn;omega
 unfold catR;rw[if_pos (List.any_eq_true.2 ⟨k,List.mem_filter.2 ⟨hk,by simp[h0]⟩,hn⟩),D0 (hN k hk) hn]
theorem Ny {l:List Re} (h:∀ x∈l,isNoth x=false):catR l=joinR 2 (keepR l) emptyR:=by
 unfold catR;rw[if_neg]
 ·rfl
 ·rw[List.any_eq_true];rintro⟨k,hk,hn⟩;rw[h k (List.mem_filter.1 hk).1]at hn;cases hn
theorem Lp {l:List Re}{i:Nat}{k:Re} (h:l[i]?=some k):keepR (l.take (i+1))=keepR (l.take i)++(if k.op=0 then [] else [k]):=by
 rw[AZ h];by_cases hk:k.op=0<;>simp[keepR,hk]
theorem d61 (l:List Re) (hw:Re.wtL l<=1000000000) (hN:∀ x∈l,NF x) (H:List MB):call Pg pol1 61 [.sl false (l.map reAV)] H=some (reAV (catR l),H):=by
 have hll:=Re.wtL_len l;refine AR Tryz.func61 rfl rfl rfl rfl rfl rfl (fun _=>rfl) (by simp[AV.plain,AV.plainL,AH]) (AU _) ?_ H;simp +contextual -implicitDefEqProofs (disch:=omega) only[Tryz.f61,dd61,go_sem,simprocAttr,evAppend,map_append,mu61,↓AE,↓AC,↓AB,↓AA];refine AY (M:=(mskOf (pol1.mask 61) (pol1.gc 61) (pol1.acts 61) 0 3)) (by rfl) l.length (fun i=>(⟨36,[(4,I i),(3,.ms 1 8 (keepR (l.take i)).length 0 (keepR (l.take i)).length),(2,.rf 0 1 0 0),(0,.sl false (l.map reAV))],[.row 8 [zeR] 0,.row 8 ((keepR (l.take i)).map reAV) 0]⟩:St)) (fun i=>∀ x∈l.take i,isNoth x=false) ?_ ?_ (by simp) _ (by first|rfl|(refine AN rfl (by rfl) (by rfl) (by rfl) ?_ ?_<;>simp[AV.underL,AV.under,MB.under,AD,AI,AG,AF,AL,AM,-map_take,AH]))
 ·intro i hi hinv;obtain⟨k,hk⟩:∃ k,l[i]?=some k:=⟨_,getElem?_eq_getElem hi⟩;have hk':=At hk;have hlt:(i:Int)<(l.length:Int):=by omega
  have h63:=d63 k;have hks:=Lp hk;have hXl:(keepR (l.take i)).length<=1000000000:=by
   have:=Kg (l.take i);rw[List.length_take]at this;omega
  cases hn:isNoth k with
  | true=>
    rw[hn]at h63;rw[Nx hN (mem_of_getElem? hk) hn];simp +contextual -implicitDefEqProofs (disch:=omega) only[Tryz.f61,dd61,go_sem,simprocAttr,evAppend,map_append,mu61,↓AE,↓AC,↓AB,↓AA,hk',hlt,h63,AK,AJ,AP];exact fzEq (AU _) rfl
  | false=>
    rw[hn]at h63;have hgo:∀ x∈l.take (i+1),isNoth x=false:=fun x hx=>by
     rw[AZ hk]at hx;rcases List.mem_append.1 hx with g|g
     ·exact hinv x g
     ·rw[List.mem_singleton.1 g];exact hn
    rw[hks];generalize keepR (l.take i)=X at *;obtain⟨kop,set,ks,mn,mx,md,n,neg⟩:=k;have e8:reAV (.mk kop set ks mn mx md n neg)=.agg (nodeL kop set ks mn mx md n neg):=congrArg AV.agg Ab;rw[show (Re.mk kop set ks mn mx md n neg).op=kop from rfl];rw[e8]at hk' h63;by_cases h0:kop=0
    ·subst h0;rw[if_pos rfl,append_nil];simp +contextual -implicitDefEqProofs (disch:=omega) only[Tryz.f61,dd61,go_sem,simprocAttr,evAppend,map_append,mu61,↓AE,↓AC,↓AB,↓AA,hk',hlt,h63];exact⟨hgo,(by first|rfl|(refine AN rfl (by rfl) (by rfl) (by rfl) ?_ ?_<;>simp[AV.underL,AV.under,MB.under,AD,AI,AG,AF,AL,AM,-map_take,AH]))⟩
    ·rw[if_neg h0];have a1:=fun(b0:MB)=>BY (H:=[b0,.row 8 (X.map reAV) 0]) (i:=1) (n:=X.length) (x:=.mk kop set ks mn mx md n neg) (t:=true) (rs:=X) (z:=0) rfl (zero_le _) rfl (by omega);simp only[set_cons_succ,List.set_cons_zero,e8]at a1;rw[length_append];simp +contextual -implicitDefEqProofs (disch:=omega) only[Tryz.f61,dd61,go_sem,simprocAttr,mu61,↓AE,↓AC,↓AB,↓AA,hk',hlt,h63,h0,a1];generalize X++[Re.mk kop set ks mn mx md n neg]=X2;exact⟨hgo,(by first|rfl|(refine AN rfl (by rfl) (by rfl) (by rfl) ?_ ?_<;>simp[AV.underL,AV.under,MB.under,AD,AI,AG,AF,AL,AM,-map_take,AH]))⟩
 ·intro hinv;rw[take_length]at *;rw[Ny hinv];generalize keepR l=X at *;have h95:=fun b0=>c95 2 X emptyR (i:=1) (H:=[b0,.row 8 (X.map reAV) 0]) (H1:=[b0,.row 8 (X.map reAV) X.length]) (by
   rw[Az (z:=0) rfl (by simp) (AH X)];simp[mark,getRow])
  simp +contextual -implicitDefEqProofs (disch:=omega) only[Tryz.f61,dd61,go_sem,simprocAttr,evAppend,map_append,mu61,↓AE,↓AC,↓AB,↓AA,h95,AK,AJ,AP];exact fzEq (AU _) rfl
end
section
theorem Fq (l:List Re) (k:Re):putAll [] (l++[k])=putR (putAll [] l) k:=by simp[putAll,List.foldl_append]
theorem PF (t:Bool) (l:List Re) (H:List MB):fz (.sl t (l.map reAV)) H=some (.sl false (l.map reAV),H):=C1 (AH l) H
theorem c96 (t:Bool) (l:List Re) (r:Re) (x:AV) (hx:∀ G,fz x G=some (reAV r,G)) (hl:Re.wtL l<=100000000) (hr:r.wt<=100000000) (H:List MB):call Pg pol1 96 [.sl t (l.map reAV),x] H=some (.sl false ((putR l r).map reAV),H):=
 (BB (P:=Pg) (pol:=pol1) (f:=96) (l:=[.sl false (l.map reAV),reAV r]) (H1:=H) rfl (by
   simp only[frzArgs,show pol1.byref 96 0=false from rfl,show pol1.byref 96 (0+1)=false from rfl,false_eq_true,if_false,hx,PF]) (by simp[AV.plainL,AV.plain,AH,AO])).trans (d96 l r hl hr H)
theorem c95t (op:Int) (t:Bool) (X:List Re) (z:Re) (x:AV) (hx:∀ G,fz x G=some (reAV z,G)) (H:List MB):call Pg pol1 95 [I op,.sl t (X.map reAV),x] H=some (reAV (joinR op X z),H):=
 (BB (P:=Pg) (pol:=pol1) (f:=95) (l:=[I op,.sl false (X.map reAV),reAV z]) (H1:=H) rfl (by
   simp only[frzArgs,show pol1.byref 95 0=false from rfl,show pol1.byref 95 (0+1)=false from rfl,show pol1.byref 95 (0+1+1)=false from rfl,false_eq_true,if_false,PF,Ac _ (show AV.plain (I op)=true from rfl),hx]) (by simp[AV.plainL,AV.plain,AH,AO])).trans (d95 op X z H)
def altA (l:List Re):AV:=if altBad l=true then .tup [reAV emptyR,I 4] else .tup [reAV (altR l),I 0]
theorem d62 (l:List Re) (hw:Re.wtL l<=50000000) (hg:∀ k∈l,gsR k) (H:List MB):call Pg pol1 62 [.sl false (l.map reAV)] H=some (altA l,H):=by
 have hll:=Re.wtL_len l;have hpA:AV.plain (altA l)=true:=by unfold altA;split<;>simp[AV.plain,AV.plainL,AO]
 have hO:∀ i,Re.wtL (othersOf (l.take i))+(spansOf (l.take i)).length<=50000000:=fun i=>by
  have h1:=Dx (l.take i);have h3:Re.wtL (l.take i)<=Re.wtL l:=by
   conv=>rhs;rw[<- List.take_append_drop i l,Re.wtL_app]
   omega
  by_cases h:spansOf (l.take i)=[]
  ·rw[h]at h1 |-;simp at h1 |-;omega
  ·rw[if_neg h]at h1;omega
 refine AR Tryz.func62 rfl rfl rfl rfl rfl rfl (fun _=>rfl) (by simp[AV.plain,AV.plainL,AH]) hpA ?_ H;simp +contextual -implicitDefEqProofs (disch:=omega) only[Tryz.f62,dd62,go_sem,simprocAttr,evAppend,map_append,mu62,↓AE,↓AC,↓AB,↓AA];refine AY (M:=(mskOf (pol1.mask 62) (pol1.gc 62) (pol1.acts 62) 0 4)) (by rfl) l.length (fun i=>(⟨52,[(6,I i),(5,.sl (othersOf (l.take i)).isEmpty ((putAll [] (othersOf (l.take i))).map reAV)),(4,.ms 1 2 (spansOf (l.take i)).length 0 (spansOf (l.take i)).length),(2,.rf 0 1 0 0),(0,.sl false (l.map reAV))],[.row 8 [zeR] 0,.row 2 ((spansOf (l.take i)).map spanAV) 0]⟩:St)) (fun _=>True) ?_ ?_ trivial _ (by first|rfl|(refine AN rfl (by rfl) (by rfl) (by rfl) ?_ ?_<;>simp[AV.underL,AV.under,MB.under,AD,AI,AG,AF,AL,AM,-map_take,AH]))
 ·intro i hi _;obtain⟨k,hk⟩:∃ k,l[i]?=some k:=⟨_,getElem?_eq_getElem hi⟩;have hk':=At hk;have hlt:(i:Int)<(l.length:Int):=by omega
  have o1:=hO i;have o2:=hO (i+1);have hot:=EE hk;have hst:=Ei hk;have hkw:=Jf hk;have hpw:=Dv (xs:=othersOf (l.take i)) (l:=[]);generalize othersOf (l.take i)=X at *;generalize spansOf (l.take i)=Y at *;obtain⟨kop,set,ks,mn,mx,md,n,neg⟩:=k;have e8:reAV (.mk kop set ks mn mx md n neg)=.agg (nodeL kop set ks mn mx md n neg):=congrArg AV.agg Ab;rw[show (Re.mk kop set ks mn mx md n neg).op=kop from rfl,show (Re.mk kop set ks mn mx md n neg).set=set from rfl]at *;simp only[Re.wtL,zero_add]at hpw;by_cases hop:kop=1
  ·subst hop;rw[e8]at hk';rw[if_pos rfl,append_nil]at hot;rw[if_pos rfl]at hst;rw[hot,hst]at o2 |-;rw[length_append]at o2;have a1:=fun b0=>Mz (H:=[b0,.row 2 (Y.map spanAV) 0]) (i:=1) (n:=Y.length) (xs:=set) (t:=false) (rs:=Y) (z:=0) rfl (zero_le _) rfl (by omega);simp only[set_cons_succ,List.set_cons_zero]at a1;simp +contextual -implicitDefEqProofs (disch:=omega) only[Tryz.f62,dd62,go_sem,simprocAttr,mu62,↓AE,↓AC,↓AB,↓AA,hk',hlt,a1];generalize Y++set=Y2;exact(by first|rfl|(refine AN rfl (by rfl) (by rfl) (by rfl) ?_ ?_<;>simp[AV.underL,AV.under,MB.under,AD,AI,AG,AF,AL,AM,-map_take,AH,AF]))
  ·have h96:=c96 X.isEmpty (putAll [] X) (.mk kop set ks mn mx md n neg) (reAV (.mk kop set ks mn mx md n neg)) (fun G=>Ac G (AU _)) (by omega) (by omega);rw[e8]at hk' h96;rw[if_neg hop]at hot;rw[if_neg hop,append_nil]at hst;rw[hot,hst]at o2 |-;rw[Fq];generalize putR (putAll [] X) (.mk kop set ks mn mx md n neg)=P2 at *;have hem:(X++[Re.mk kop set ks mn mx md n neg]).isEmpty=false:=by simp
   rw[hem];simp +contextual -implicitDefEqProofs (disch:=omega) only[Tryz.f62,dd62,go_sem,simprocAttr,evAppend,map_append,mu62,↓AE,↓AC,↓AB,↓AA,hk',hlt,hop,h96];exact(by first|rfl|(refine AN rfl (by rfl) (by rfl) (by rfl) ?_ ?_<;>simp[AV.underL,AV.under,MB.under,AD,AI,AG,AF,AL,AM,-map_take,AH,AF]))
 ·intro _;rw[take_length];have o1:=hO l.length;rw[take_length]at o1;have hbad:altBad l=decide (64<(normL (spansOf l)).length):=rfl;have hLd:altL l=othersOf l++(if altBad l=true∨normL (spansOf l)=[] then [] else [setR (normL (spansOf l))]):=rfl;have hA:altA l=if altBad l=true then .tup [reAV emptyR,I 4] else .tup [reAV (joinR 3 (putAll [] (altL l)) nothR),I 0]:=rfl
  have hn:=f128 (spansOf l) (Cj hg) (by omega);have hnl:=(Cl (Cj hg)).2.2;rw[hA];have hpw:=Dv (xs:=othersOf l) (l:=[]);generalize othersOf l=X at *;generalize spansOf l=Y at *;have hnd:normR Y=(if 64<(normL Y).length then AV.tup [.sl false [],I 4] else AV.tup [.sl false ((normL Y).map spanAV),I 0]):=rfl;have c97:=fun b0=>(BB (P:=Pg) (pol:=pol1) (f:=97) (args:=[.ms 1 2 Y.length 0 Y.length]) (H:=[b0,.row 2 (Y.map spanAV) 0]) (l:=[.sl false (Y.map spanAV)]) (H1:=[b0,.row 2 (Y.map spanAV) Y.length]) rfl (by
   simp only[frzArgs,show pol1.byref 97 0=false from rfl,false_eq_true,if_false,Az (k:=2) (z:=0) (id:=1) (tot:=Y.length) (H:=[b0,.row 2 (Y.map spanAV) 0]) (els:=Y.map spanAV) rfl (by simp) (AF Y)];simp[mark,getRow]) (by simp[AV.plainL,AV.plain,AF])).trans (hn _)
  rw[hnd]at c97;by_cases cb:64<(normL Y).length
  ·rw[hbad,if_pos (by simpa using cb)];rw[if_pos cb]at c97;simp +contextual -implicitDefEqProofs (disch:=omega) only[Tryz.f62,dd62,go_sem,simprocAttr,evAppend,map_append,mu62,↓AE,↓AC,↓AB,↓AA,c97];exact⟨_,rfl⟩
  ·have hb1:altBad l=false:=by rw[hbad];simpa using cb
   rw[hb1]at hLd |-;rw[if_neg (by simp)];rw[if_neg cb]at c97;simp only[Re.wtL,zero_add]at hpw;by_cases cu:normL Y=[]
   ·have hLX:altL l=X:=by rw[hLd,if_pos (.inr cu),append_nil]
    rw[hLX];rw[cu]at c97;have h95:=c95t 3 X.isEmpty (putAll [] X) nothR (.agg [I 1,.sl true [],.sl true [],I 0,I 0,I 0,I 0,.bool false]) (fun G=>rfl);simp only[map_nil]at c97;simp +contextual -implicitDefEqProofs (disch:=omega) only[Tryz.f62,dd62,go_sem,simprocAttr,evAppend,map_append,mu62,↓AE,↓AC,↓AB,↓AA,c97,h95,AK,AJ,AP];exact fzEq (by simp[AV.plain,AV.plainL,AO]) rfl
   ·have hLX:altL l=X++[setR (normL Y)]:=by rw[hLd,if_neg (by simp[cu])]
    rw[hLX,Fq];have hul:0<(normL Y).length:=by
     rcases Nat.eq_zero_or_pos (normL Y).length with h|h
     ·exact absurd (List.length_eq_zero_iff.1 h) cu
     ·exact h
    generalize normL Y=u at *;have h96:=c96 X.isEmpty (putAll [] X) (setR u) (.agg [I 1,.sl false (u.map spanAV),.sl true [],I 0,I 0,I 0,I 0,.bool false]) (fun G=>RT) (by omega) (by simp[Re.wt,Re.wtL];omega);generalize putR (putAll [] X) (setR u)=P2 at *;have h95:=c95t 3 false P2 nothR (.agg [I 1,.sl true [],.sl true [],I 0,I 0,I 0,I 0,.bool false]) (fun G=>rfl);simp +contextual -implicitDefEqProofs (disch:=omega) only[Tryz.f62,dd62,go_sem,simprocAttr,evAppend,map_append,mu62,↓AE,↓AC,↓AB,↓AA,c97,h96,h95,hul,AK,AJ,AP];exact fzEq (by simp[AV.plain,AV.plainL,AO]) rfl
def resS (t:Re):AV:=if badR t=true then .tup [reAV emptyR,I 4] else .tup [reAV (nf t),I 0]
theorem EO (t:Re):AV.plain (resS t)=true:=by unfold resS;split<;>simp[AV.plain,AV.plainL,AO]
def flatA (op:Int) (kids:List Re):AV:=if badRL kids=true then .tup [.sl false [],I 4] else .tup [.sl false ((flatR op (kids.map nf)).map reAV),I 0]
theorem OA (a b:List Re):badRL (a++b)=(badRL a||badRL b):=by rw[CO,CO,CO,List.any_append]
theorem Mf {r x:AV}{n:Int}{H H':List MB} (h:fz r H=some (x,H')):∃ H',fz (.tup [r,I n]) H=some (.tup [x,I n],H'):=by
 refine⟨H',?_⟩;unfold fz at h |-;simp only[fzA,fzL,h,Option.bind_some,Option.map_some]
theorem d60 (op:Int) (kids:List Re) (hw:Re.wtL kids<=50000000) (hg:∀ k∈kids,OkD k) (ih:∀ k∈kids,∀ H,call Pg pol1 32 [reAV k] H=some (resS k,H)) (H:List MB) :
  call Pg pol1 60 [reAV (.mk op [] kids 0 0 0 0 false)] H=some (flatA op kids,H):=by
 have hll:=Re.wtL_len kids;have hpF:AV.plain (flatA op kids)=true:=by unfold flatA;split<;>simp[AV.plain,AV.plainL,AH]
 have hfl:∀ i,(flatR op ((kids.take i).map nf)).length<=50000000:=fun i=>by
  have h1:=Re.wtL_len (flatR op ((kids.take i).map nf));have h2:=B9 op ((kids.take i).map nf);have h3:Re.wtL (kids.take i)<=Re.wtL kids:=by
   conv=>rhs;rw[<- List.take_append_drop i kids,Re.wtL_app]
   omega
  have h4:=(Cm (kids.take i) (Bf.2 fun k hk=>(hg k (List.mem_of_mem_take hk)).gs)).2;rw[Be]at h4;omega
 refine AR Tryz.func60 rfl rfl rfl rfl rfl rfl (fun _=>rfl) (by simp[AV.plain,AV.plainL,AO]) hpF ?_ H;rw[show reAV (.mk op [] kids 0 0 0 0 false)=.agg (nodeL op [] kids 0 0 0 0 false) from congrArg AV.agg Ab];simp +contextual -implicitDefEqProofs (disch:=omega) only[Tryz.f60,dd60,go_sem,simprocAttr,evAppend,map_append,mu60,↓AE,↓AC,↓AB,↓AA];refine AY (M:=(mskOf (pol1.mask 60) (pol1.gc 60) (pol1.acts 60) 0 3)) (by rfl) kids.length (fun i=>(⟨41,[(5,I i),(4,.ms 1 8 (flatR op ((kids.take i).map nf)).length 0 (flatR op ((kids.take i).map nf)).length),(1,.rf 0 1 0 0)],[.row 8 [.agg (nodeL op [] kids 0 0 0 0 false)] 0,.row 8 ((flatR op ((kids.take i).map nf)).map reAV) 0]⟩:St)) (fun i=>badRL (kids.take i)=false) ?_ ?_ rfl _ (by first|rfl|(refine AN rfl (by rfl) (by rfl) (by rfl) ?_ ?_<;>simp[AV.underL,AV.under,MB.under,AD,AI,AG,AF,AL,AM,-map_take,AH]))
 ·intro i hi hinv;obtain⟨k,hk⟩:∃ k,kids[i]?=some k:=⟨_,getElem?_eq_getElem hi⟩;have hk':=At hk;have hlt:(i:Int)<(kids.length:Int):=by omega
  have h32:=ih k (mem_of_getElem? hk);have hbt:=B1 hk;rw[hinv,Bool.false_or]at hbt;have hst:flatR op ((kids.take (i+1)).map nf)=flatR op ((kids.take i).map nf)++(if(nf k).op=op then(nf k).sub else [nf k]):=by
   rw[AZ hk,map_append];exact HF
  have f1:=hfl i;have f2:=hfl (i+1);unfold resS at h32;cases hb:badR k with
  | true=>
    rw[hb]at hbt;rw[if_pos hb]at h32;have hbad:badRL kids=true:=by
     rw[<- List.take_append_drop (i+1) kids,OA,hbt];rfl
    have hF:flatA op kids=.tup [.sl false [],I 4]:=if_pos hbad;rw[hF];simp +contextual -implicitDefEqProofs (disch:=omega) only[Tryz.f60,dd60,go_sem,simprocAttr,evAppend,map_append,mu60,↓AE,↓AC,↓AB,↓AA,hk',hlt,h32,AK,AJ,AP];exact⟨_,rfl⟩
  | false=>
    rw[hb]at hbt;rw[if_neg (by simp[hb])]at h32;generalize flatR op ((kids.take i).map nf)=X at *;generalize nf k=K at *;obtain⟨kop,set,ks,mn,mx,md,n,neg⟩:=K;have e8:reAV (.mk kop set ks mn mx md n neg)=.agg (nodeL kop set ks mn mx md n neg):=congrArg AV.agg Ab;have e8':reC (.mk kop set ks mn mx md n neg)=nodeL kop set ks mn mx md n neg:=Ab;rw[show (Re.mk kop set ks mn mx md n neg).op=kop from rfl,show (Re.mk kop set ks mn mx md n neg).sub=ks from rfl]at hst;by_cases hop:kop=op
    ·rw[if_pos hop]at hst;rw[hst]at f2 |-;rw[length_append]at f2;have a1:=fun(b0 b2:MB)=>EZ (H:=[b0,.row 8 (X.map reAV) 0,b2]) (i:=1) (n:=X.length) (xs:=ks) (t:=false) (rs:=X) (z:=0) rfl (zero_le _) rfl (by omega);simp only[set_cons_succ,List.set_cons_zero]at a1;rw[e8]at h32;simp +contextual -implicitDefEqProofs (disch:=omega) only[Tryz.f60,dd60,go_sem,simprocAttr,mu60,↓AE,↓AC,↓AB,↓AA,hk',hlt,h32,a1,hop,hbt,AK,AJ,AP];generalize X++ks=X2;exact(by first|rfl|(refine AN rfl (by rfl) (by rfl) (by rfl) ?_ ?_<;>simp[AV.underL,AV.under,MB.under,AD,AI,AG,AF,AL,AM,-map_take,AH]))
    ·rw[if_neg hop]at hst;rw[hst]at f2 |-;rw[length_append]at f2;have a1:=fun(b0 b2:MB)=>BY (H:=[b0,.row 8 (X.map reAV) 0,b2]) (i:=1) (n:=X.length) (x:=.mk kop set ks mn mx md n neg) (t:=true) (rs:=X) (z:=0) rfl (zero_le _) rfl (by simp at f2;omega);simp only[set_cons_succ,List.set_cons_zero,e8]at a1;rw[e8]at h32;simp +contextual -implicitDefEqProofs (disch:=omega) only[Tryz.f60,dd60,go_sem,simprocAttr,mu60,↓AE,↓AC,↓AB,↓AA,hk',hlt,h32,a1,hop,hbt,AK,AJ,AP];generalize X++[Re.mk kop set ks mn mx md n neg]=X2;exact(by first|rfl|(refine AN rfl (by rfl) (by rfl) (by rfl) ?_ ?_<;>simp[AV.underL,AV.under,MB.under,AD,AI,AG,AF,AL,AM,-map_take,AH]))
 ·intro hinv;rw[take_length]at hinv |-;have hF:flatA op kids=.tup [.sl false ((flatR op (kids.map nf)).map reAV),I 0]:=if_neg (by simp[hinv]);rw[hF];generalize flatR op (kids.map nf)=X at *;simp +contextual -implicitDefEqProofs (disch:=omega) only[Tryz.f60,dd60,go_sem,simprocAttr,evAppend,map_append,mu60,↓AE,↓AC,↓AB,↓AA];exact Mf (Az (z:=0) rfl (by simp) (AH X))
end
section
attribute [local go_sem] evAppend map_append
theorem Oy:nf emptyR=emptyR:=by simp[nf,formN]
theorem Qw (s:List (Int×Int)) (H:List MB):call Pg pol1 32 [reAV (setR s)] H=some (resS (setR s),H):=by
 have e:resS (setR s)=.tup [reAV (setR s),I 0]:=by unfold resS;rw[Ms,Ow,if_neg (by simp)]
 rw[e];refine AR Tryz.func32 rfl rfl rfl rfl rfl rfl (fun _=>rfl) (by simp[AV.plain,AV.plainL,AO]) (by simp[AV.plain,AV.plainL,AO]) ?_ H;rw[show reAV (setR s)=.agg (nodeL 1 s [] 0 0 0 0 false) from congrArg AV.agg Ab];simp +contextual -implicitDefEqProofs (disch:=omega) only[Tryz.f32,dd32,go_sem,simprocAttr,mu32,↓AE,↓AC,↓AB,↓AA];exact fzEq (by simp[AV.plain,AV.plainL,AF]) rfl
theorem Nr (H:List MB):call Pg pol1 32 [reAV emptyR] H=some (resS emptyR,H):=by
 have e:resS emptyR=.tup [reAV emptyR,I 0]:=by unfold resS;rw[JI,Oy,if_neg (by simp)]
 rw[e];refine AR Tryz.func32 rfl rfl rfl rfl rfl rfl (fun _=>rfl) (by simp[AV.plain,AV.plainL,AO]) (by simp[AV.plain,AV.plainL,AO]) ?_ H;rw[show reAV emptyR=.agg (nodeL 0 [] [] 0 0 0 0 false) from congrArg AV.agg Ab];simp +contextual -implicitDefEqProofs (disch:=omega) only[Tryz.f32,dd32,go_sem,simprocAttr,mu32,↓AE,↓AC,↓AB,↓AA];exact fzEq rfl rfl
theorem Qz (k:Re) (n:Int) (ih:∀ H,call Pg pol1 32 [reAV k] H=some (resS k,H)) (H:List MB):call Pg pol1 32 [reAV (.mk 5 [] [k] 0 0 0 n false)] H=some (resS (.mk 5 [] [k] 0 0 0 n false),H):=by
 have e:resS (.mk 5 [] [k] 0 0 0 n false)=resS k:=by unfold resS;rw[Mw,O0,show badRL [k]=badR k by simp[badRL]]
 rw[e];refine AR Tryz.func32 rfl rfl rfl rfl rfl rfl (fun _=>rfl) (by simp[AV.plain,AV.plainL,AO]) (EO k) ?_ H;rw[show reAV (.mk 5 [] [k] 0 0 0 n false)=.agg (nodeL 5 [] [k] 0 0 0 n false) from congrArg AV.agg Ab];unfold resS at ih |-;cases hb:badR k with
 | true=>
   simp only[hb,if_true]at ih;rw[if_pos rfl];simp +contextual -implicitDefEqProofs (disch:=omega) only[Tryz.f32,dd32,go_sem,simprocAttr,mu32,↓AE,↓AC,↓AB,↓AA,ih,AK,AJ,AP];exact fzEq (by simp[AV.plain,AV.plainL,AO]) rfl
 | false=>
   simp only[hb,false_eq_true,if_false]at ih;rw[if_neg (by simp)];generalize nf k=R at *;simp +contextual -implicitDefEqProofs (disch:=omega) only[Tryz.f32,dd32,go_sem,simprocAttr,mu32,↓AE,↓AC,↓AB,↓AA,ih,AK,AJ,AP];exact fzEq (by simp[AV.plain,AV.plainL,AO]) rfl
theorem Qy (kids:List Re) (hw:Re.wtL kids<=50000000) (hg:∀ k∈kids,OkD k) (ih:∀ k∈kids,∀ H,call Pg pol1 32 [reAV k] H=some (resS k,H)) (H:List MB):call Pg pol1 32 [reAV (.mk 2 [] kids 0 0 0 0 false)] H=some (resS (.mk 2 [] kids 0 0 0 0 false),H):=by
 have h60:=d60 2 kids hw hg ih;have e:resS (.mk 2 [] kids 0 0 0 0 false)=if badRL kids=true then .tup [reAV emptyR,I 4] else .tup [reAV (catR (flatR 2 (kids.map nf))),I 0]:=by unfold resS;rw[Mv,Oz]
 have hnw:=(Cm kids (Bf.2 fun k hk=>(hg k hk).gs)).2;rw[Be]at hnw;have hfw:=B9 2 (kids.map nf);refine AR Tryz.func32 rfl rfl rfl rfl rfl rfl (fun _=>rfl) (by simp[AV.plain,AV.plainL,AO]) (EO _) ?_ H;rw[e];rw[show reAV (.mk 2 [] kids 0 0 0 0 false)=.agg [I 2,.sl false [],.sl false (kids.map reAV),I 0,I 0,I 0,I 0,.bool false] from congrArg AV.agg Ab]at h60;rw[show reAV (.mk 2 [] kids 0 0 0 0 false)=.agg (nodeL 2 [] kids 0 0 0 0 false) from congrArg AV.agg Ab];unfold flatA at h60;cases hb:badRL kids with
 | true=>
   simp only[hb,if_true]at h60;rw[if_pos rfl];simp +contextual -implicitDefEqProofs (disch:=omega) only[Tryz.f32,dd32,go_sem,simprocAttr,mu32,↓AE,↓AC,↓AB,↓AA,h60,AK,AJ,AP];exact⟨_,rfl⟩
 | false=>
   simp only[hb,false_eq_true,if_false]at h60;rw[if_neg (by simp)];have hN:∀ x∈flatR 2 (kids.map nf),NF x:=fun x hx=>(Jq (op:=2) (.inl rfl) (fun y hy=>by
    obtain⟨k,hk,rfl⟩:=mem_map.1 hy;exact Id (hg k hk) (Dr hb k hk)) x hx).1
   have h61:=d61 (flatR 2 (kids.map nf)) (by omega) hN;generalize flatR 2 (kids.map nf)=X at *;generalize catR X=R at *;simp +contextual -implicitDefEqProofs (disch:=omega) only[Tryz.f32,dd32,go_sem,simprocAttr,mu32,↓AE,↓AC,↓AB,↓AA,h60,h61,AK,AJ,AP];exact fzEq (by simp[AV.plain,AV.plainL,AO]) rfl
theorem Q0 (kids:List Re) (hw:Re.wtL kids<=50000000) (hg:∀ k∈kids,OkD k) (ih:∀ k∈kids,∀ H,call Pg pol1 32 [reAV k] H=some (resS k,H)) (H:List MB):call Pg pol1 32 [reAV (.mk 3 [] kids 0 0 0 0 false)] H=some (resS (.mk 3 [] kids 0 0 0 0 false),H):=by
 have h60:=d60 3 kids hw hg ih;have e:resS (.mk 3 [] kids 0 0 0 0 false)=if badRL kids=true then .tup [reAV emptyR,I 4] else altA (flatR 3 (kids.map nf)):=by
  unfold resS altA;rw[Mx,O1];cases badRL kids<;>simp
 have hgk:=fun k hk=>(hg k hk).gs;obtain⟨hgn,hnw⟩:=Cm kids (Bf.2 hgk);rw[Be]at hgn hnw;have hfw:=B9 3 (kids.map nf);have h62:=d62 (flatR 3 (kids.map nf)) (by omega) (E4 hgn);refine AR Tryz.func32 rfl rfl rfl rfl rfl rfl (fun _=>rfl) (by simp[AV.plain,AV.plainL,AO]) (EO _) ?_ H;rw[e];rw[show reAV (.mk 3 [] kids 0 0 0 0 false)=.agg [I 3,.sl false [],.sl false (kids.map reAV),I 0,I 0,I 0,I 0,.bool false] from congrArg AV.agg Ab]at h60;rw[show reAV (.mk 3 [] kids 0 0 0 0 false)=.agg (nodeL 3 [] kids 0 0 0 0 false) from congrArg AV.agg Ab];unfold flatA at h60;cases hb:badRL kids with
 | true=>
   simp only[hb,if_true]at h60;rw[if_pos rfl];simp +contextual -implicitDefEqProofs (disch:=omega) only[Tryz.f32,dd32,go_sem,simprocAttr,mu32,↓AE,↓AC,↓AB,↓AA,h60,AK,AJ,AP];exact⟨_,rfl⟩
 | false=>
   simp only[hb,false_eq_true,if_false]at h60;rw[if_neg (by simp)];generalize flatR 3 (kids.map nf)=X at *;unfold altA at h62 |-;cases hb2:altBad X with
   | true=>
     simp only[hb2,if_true]at h62;rw[if_pos rfl];simp +contextual -implicitDefEqProofs (disch:=omega) only[Tryz.f32,dd32,go_sem,simprocAttr,mu32,↓AE,↓AC,↓AB,↓AA,h60,h62,AK,AJ,AP];exact fzEq (by simp[AV.plain,AV.plainL,AO]) rfl
   | false=>
     simp only[hb2,false_eq_true,if_false]at h62;rw[if_neg (by simp)];generalize altR X=R at *;simp +contextual -implicitDefEqProofs (disch:=omega) only[Tryz.f32,dd32,go_sem,simprocAttr,mu32,↓AE,↓AC,↓AB,↓AA,h60,h62,AK,AJ,AP];exact fzEq (by simp[AV.plain,AV.plainL,AO]) rfl
theorem Qx (k:Re) (mn mx md:Int) (hok:OkD k) (h1:0<=mn/\mn<=32) (ih:∀ H,call Pg pol1 32 [reAV k] H=some (resS k,H)) (H:List MB):call Pg pol1 32 [reAV (.mk 4 [] [k] mn mx md 0 false)] H=some (resS (.mk 4 [] [k] mn mx md 0 false),H):=by
 have e:resS (.mk 4 [] [k] mn mx md 0 false)=if badR k=true then .tup [reAV emptyR,I 4] else .tup [reAV (repR mn mx (nf k)),I 0]:=by unfold resS;rw[Mt,Ox,show badRL [k]=badR k by simp[badRL]]
 rw[e];have hpl:AV.plain (if badR k=true then AV.tup [reAV emptyR,I 4] else AV.tup [reAV (repR mn mx (nf k)),I 0])=true:=by split<;>simp[AV.plain,AV.plainL,AO]
 refine AR Tryz.func32 rfl rfl rfl rfl rfl rfl (fun _=>rfl) (by simp[AV.plain,AV.plainL,AO]) hpl ?_ H;rw[show reAV (.mk 4 [] [k] mn mx md 0 false)=.agg (nodeL 4 [] [k] mn mx md 0 false) from congrArg AV.agg Ab];unfold resS at ih;clear hpl e;cases hb:badR k with
 | true=>
   simp only[hb,if_true]at ih;rw[if_pos rfl];simp +contextual -implicitDefEqProofs (disch:=omega) only[Tryz.f32,dd32,go_sem,simprocAttr,mu32,↓AE,↓AC,↓AB,↓AA,ih,AK,AJ,AP];exact⟨_,rfl⟩
 | false=>
   have hN:=Id hok hb;simp only[hb,false_eq_true,if_false]at ih;rw[if_neg (by simp)];have h63:=d63 (nf k);have hop0:=fun h=>hN.op0 h;have hno:=fun h=>D0 hN h;clear hN;generalize nf k=K at *;have eR:reAV (.mk 4 [] [K] mn mx 0 0 false)=.agg [I 4,.sl false [],.sl false ([K].map reAV),I mn,I mx,I 0,I 0,.bool false]:=congrArg AV.agg Ab;have hz:=fun H:List MB=>Ix (op:=4) (a:=mn) (b:=mx) (c:=0) (d:=0) (l:=[K]) (g:=false) (t:=true) (u:=true) (H:=H);rw[<- eR]at hz;obtain⟨kop,set,ks,kmn,kmx,kmd,kn,kneg⟩:=K;have e8:reAV (.mk kop set ks kmn kmx kmd kn kneg)=.agg (nodeL kop set ks kmn kmx kmd kn kneg):=congrArg AV.agg Ab;have hfK:=AU (.mk kop set ks kmn kmx kmd kn kneg);have hpR:=AU (.mk 4 [] [.mk kop set ks kmn kmx kmd kn kneg] mn mx 0 0 false);have hrd:repR mn mx (.mk kop set ks kmn kmx kmd kn kneg)=(if kop=0∨(isNoth (.mk kop set ks kmn kmx kmd kn kneg)=true/\mn=0) then emptyR else if isNoth (.mk kop set ks kmn kmx kmd kn kneg)=true∨(kop=4/\kmn=0/\kmx = -1)∨(mn=1/\mx=1) then .mk kop set ks kmn kmx kmd kn kneg else .mk 4 [] [.mk kop set ks kmn kmx kmd kn kneg] mn mx 0 0 false):=rfl;have hop0':kop=0->Re.mk kop set ks kmn kmx kmd kn kneg=emptyR:=fun h=>hop0 h;have hz2:∀ H:List MB,∃ H',fz (.tup [.agg [I 4,.sl true [],.sl true [.agg (nodeL kop set ks kmn kmx kmd kn kneg)],I mn,I mx,I 0,I 0,.bool false],I 0]) H=some (.tup [reAV (.mk 4 [] [.mk kop set ks kmn kmx kmd kn kneg] mn mx 0 0 false),I 0],H'):=fun H=>by
    obtain⟨H',h⟩:=hz H;simp only[map_cons,map_nil]at h;rw[e8]at h;exact Mf h
   rw[hrd];clear hrd hz;generalize hv:isNoth (.mk kop set ks kmn kmx kmd kn kneg)=v at *;have f1:¬ (1:Int)=0:=by omega
   by_cases c0:kop=0
   ·rw[if_pos (.inl c0)];rw[hop0' c0]at ih h63 e8;rw[show reAV emptyR=.agg (nodeL 0 [] [] 0 0 0 0 false) from congrArg AV.agg Ab]at ih;simp +contextual -implicitDefEqProofs (disch:=omega) only[Tryz.f32,dd32,go_sem,simprocAttr,mu32,↓AE,↓AC,↓AB,↓AA,ih,AK,AJ,AP];exact fzEq rfl rfl
   rw[e8]at ih h63;cases v with
   | true=>
     by_cases c1:mn=0
     ·subst c1;rw[if_pos (.inr ⟨rfl,rfl⟩)];simp +contextual -implicitDefEqProofs (disch:=omega) only[Tryz.f32,dd32,go_sem,simprocAttr,mu32,↓AE,↓AC,↓AB,↓AA,ih,h63,c0,AK,AJ,AP];exact⟨_,rfl⟩
     ·have c1':0<mn:=by omega
      rw[if_neg (by simp[c0,c1]),if_pos (.inl rfl)];simp +contextual -implicitDefEqProofs (disch:=omega) only[Tryz.f32,dd32,go_sem,simprocAttr,mu32,↓AE,↓AC,↓AB,↓AA,ih,h63,c0,c1',AK,AJ,AP];rw[<- e8];exact fzEq (by simp[AV.plain,AV.plainL,AO]) rfl
   | false=>
     rw[if_neg (by simp[c0])];by_cases m:mn=1/\mx=1
     ·obtain⟨rfl,rfl⟩:=m;rw[if_pos (.inr (.inr ⟨rfl,rfl⟩))];simp +contextual -implicitDefEqProofs (disch:=omega) only[Tryz.f32,dd32,go_sem,simprocAttr,mu32,↓AE,↓AC,↓AB,↓AA,ih,h63,c0,AK,AJ,AP];rw[<- e8];exact fzEq (by simp[AV.plain,AV.plainL,AO]) rfl
     by_cases st:kop=4/\kmn=0/\kmx = -1
     ·rw[if_pos (.inr (.inl st))];obtain⟨rfl,rfl,rfl⟩:=st;by_cases m1:mn=1
      ·subst m1;have m2:¬ mx=1:=fun e=>m ⟨rfl,e⟩;simp +contextual -implicitDefEqProofs (disch:=omega) only[Tryz.f32,dd32,go_sem,simprocAttr,mu32,↓AE,↓AC,↓AB,↓AA,ih,h63,m2,AK,AJ,AP];rw[<- e8];exact fzEq (by simp[AV.plain,AV.plainL,AO]) rfl
      ·simp +contextual -implicitDefEqProofs (disch:=omega) only[Tryz.f32,dd32,go_sem,simprocAttr,mu32,↓AE,↓AC,↓AB,↓AA,ih,h63,m1,AK,AJ,AP];rw[<- e8];exact fzEq (by simp[AV.plain,AV.plainL,AO]) rfl
     rw[if_neg (by simp[m,st])];by_cases m1:mn=1
     ·subst m1;have m2:¬ mx=1:=fun e=>m ⟨rfl,e⟩;by_cases s1:kop=4
      ·subst s1;by_cases s2:kmn=0
       ·subst s2;have s3:¬ kmx = -1:=fun e=>st ⟨rfl,rfl,e⟩;simp +contextual -implicitDefEqProofs (disch:=omega) only[Tryz.f32,dd32,go_sem,simprocAttr,mu32,↓AE,↓AC,↓AB,↓AA,ih,h63,m2,s3,AK,AJ,AP];exact hz2 _
       ·simp +contextual -implicitDefEqProofs (disch:=omega) only[Tryz.f32,dd32,go_sem,simprocAttr,mu32,↓AE,↓AC,↓AB,↓AA,ih,h63,m2,s2,AK,AJ,AP];exact hz2 _
      ·simp +contextual -implicitDefEqProofs (disch:=omega) only[Tryz.f32,dd32,go_sem,simprocAttr,mu32,↓AE,↓AC,↓AB,↓AA,ih,h63,m2,c0,s1,AK,AJ,AP];exact hz2 _
     ·by_cases s1:kop=4
      ·subst s1;by_cases s2:kmn=0
       ·subst s2;have s3:¬ kmx = -1:=fun e=>st ⟨rfl,rfl,e⟩;simp +contextual -implicitDefEqProofs (disch:=omega) only[Tryz.f32,dd32,go_sem,simprocAttr,mu32,↓AE,↓AC,↓AB,↓AA,ih,h63,m1,s3,AK,AJ,AP];exact hz2 _
       ·simp +contextual -implicitDefEqProofs (disch:=omega) only[Tryz.f32,dd32,go_sem,simprocAttr,mu32,↓AE,↓AC,↓AB,↓AA,ih,h63,m1,s2,AK,AJ,AP];exact hz2 _
      ·simp +contextual -implicitDefEqProofs (disch:=omega) only[Tryz.f32,dd32,go_sem,simprocAttr,mu32,↓AE,↓AC,↓AB,↓AA,ih,h63,m1,c0,s1,AK,AJ,AP];exact hz2 _
theorem d32:∀(N:Nat) (t:Re),t.wt<=N->t.wt<=50000000->OkD t->∀ H,call Pg pol1 32 [reAV t] H=some (resS t,H):=by
 intro N
 induction N with
 | zero=>intro t h;have:=t.wt_pos;omega
 | succ N ihN=>
   intro t hN hw hok;have h2:=Re.wt_sub t;have ih:∀ k∈t.sub,∀ H,call Pg pol1 32 [reAV k] H=some (resS k,H):=fun k hk=>by
    have h1:=Re.wtL_mem hk;have hk2:OkD k:=by
     obtain⟨op,set,kids,mn,mx,md,n,neg⟩:=t;exact hok.kids k hk
    exact ihN k (by omega) (by omega) hk2
   cases hok with
   | empty=>exact Nr
   | set s hs=>exact Qw s
   | cat kids h=>exact Qy kids (by simp only[Re.sub]at h2;omega) h ih
   | alt kids h=>exact Q0 kids (by simp only[Re.sub]at h2;omega) h ih
   | rep k mn mx md h h1 h3=>exact Qx k mn mx md h h1 (ih k (by simp[Re.sub]))
   | cap k n h=>exact Qz k n (ih k (by simp[Re.sub]))
end
end Go.Ev
