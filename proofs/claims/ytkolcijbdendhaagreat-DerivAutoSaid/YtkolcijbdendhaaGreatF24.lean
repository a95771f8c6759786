/- What functions of the program compute; no further conditions. -/
import Derived.Test.YtkolcijbdendhaaGreatF23
set_option linter.unusedVariables false
set_option linter.unusedSimpArgs false
open List (all_cons all_nil append_assoc cons_append getElem?_append_left getElem?_append_right getElem?_eq_getElem getElem?_set_ne getElem?_set_self length_append length_cons length_map length_nil map_append map_cons map_nil map_take mem_append mem_cons mem_cons_of_mem mem_map mem_of_getElem? set_cons_succ take_length take_of_length_le)
open Nat (add_assoc le_refl zero_add zero_le)
open Bool (and_eq_true false_eq_true or_eq_true)
open Go.Proofs Go.RowKit Go.IntWalk
set_option maxHeartbeats 8000000
set_option maxRecDepth 100000
namespace Go.Ev
attribute [local go_sem] AV.cells Ax A8 bndO bnd evEq eqCells not_false_eq_true not_true_eq_false toList_some Array.size_empty length_append tySzE List.head?_drop Nat.mul_one Aj Aq Ag Ak Al Ae
section
attribute [local go_sem] evBin
theorem Qh (s:List (Int×Int)) (hs:SetN s) (x:Int) (H:List MB):call Pg pol1 68 [reAV (setR s),I x] H=some (reAV (drr x (setR s)),H):=by
 have h100:=Mb s x (by have:=hs.len;omega);have e1:drr x (setR s)=if hasSpan s x=true then emptyR else nothR:=by simp[drr]
 rw[e1];refine AR Tryz.func68 rfl rfl rfl rfl rfl rfl (fun _=>rfl) (by simp[AV.plain,AV.plainL,AO]) (AU _) ?_ H;rw[show reAV (setR s)=.agg (nodeL 1 s [] 0 0 0 0 false) from congrArg AV.agg Ab];cases hh:hasSpan s x with
 | true=>
   rw[hh]at h100;rw[if_pos rfl];simp +contextual -implicitDefEqProofs (disch:=omega) only[Tryz.f68,dd68,go_sem,simprocAttr,evAppend,map_append,mu68,↓AE,↓AC,↓AB,↓AA,h100,AK,AJ,AP];exact⟨_,rfl⟩
 | false=>
   rw[hh]at h100;rw[if_neg (by simp)];simp +contextual -implicitDefEqProofs (disch:=omega) only[Tryz.f68,dd68,go_sem,simprocAttr,evAppend,map_append,mu68,↓AE,↓AC,↓AB,↓AA,h100,AK,AJ,AP];exact⟨_,rfl⟩
theorem Nn (x:Int) (H:List MB):call Pg pol1 68 [reAV emptyR,I x] H=some (reAV (drr x emptyR),H):=by
 have e1:drr x emptyR=nothR:=by simp[drr]
 rw[e1];refine AR Tryz.func68 rfl rfl rfl rfl rfl rfl (fun _=>rfl) (by simp[AV.plain,AV.plainL,AO]) (AU _) ?_ H;rw[show reAV emptyR=.agg (nodeL 0 [] [] 0 0 0 0 false) from congrArg AV.agg Ab];simp +contextual -implicitDefEqProofs (disch:=omega) only[Tryz.f68,dd68,go_sem,simprocAttr,evAppend,map_append,mu68,↓AE,↓AC,↓AB,↓AA,AK,AJ,AP];exact⟨_,rfl⟩
theorem Qk (k:Re) (n:Int) (x:Int) (ih:∀ H,call Pg pol1 68 [reAV k,I x] H=some (reAV (drr x k),H)) (H:List MB):call Pg pol1 68 [reAV (.mk 5 [] [k] 0 0 0 n false),I x] H=some (reAV (drr x (.mk 5 [] [k] 0 0 0 n false)),H):=by
 have e1:drr x (.mk 5 [] [k] 0 0 0 n false)=drr x k:=by simp[drr,drrL]
 rw[e1];refine AR Tryz.func68 rfl rfl rfl rfl rfl rfl (fun _=>rfl) (by simp[AV.plain,AV.plainL,AO]) (AU _) ?_ H;rw[show reAV (.mk 5 [] [k] 0 0 0 n false)=.agg (nodeL 5 [] [k] 0 0 0 n false) from congrArg AV.agg Ab];generalize drr x k=R at *;simp +contextual -implicitDefEqProofs (disch:=omega) only[Tryz.f68,dd68,go_sem,simprocAttr,evAppend,map_append,mu68,↓AE,↓AC,↓AB,↓AA,ih,AK,AJ,AP];exact fzEq (AU _) rfl
abbrev ownN (op:Int) (id n:Nat):AV:=.agg [I op,.sl true [],.ms id 8 n 0 n,I 0,I 0,I 0,I 0,.bool false]
theorem Mg {op:Int}{X:List Re}{id n z:Nat}{H:List MB} (hr:getRow H id=some (8,X.map reAV,z)) (hn:X.length=n):fz (ownN op id n) H=some (reAV (.mk op [] X 0 0 0 0 false),mark H id n):=by
 have h:=Az hr (by simpa using hn) (AH X);have e:reAV (.mk op [] X 0 0 0 0 false)=.agg [I op,.sl false [],.sl false (X.map reAV),I 0,I 0,I 0,I 0,.bool false]:=congrArg AV.agg Ab;rw[e];unfold fz at h |-;have hI:∀(n:Int) G,fzA (fzJ 6) (I n) G=some (I n,G):=fun _ _=>rfl;have hs:∀ G,fzA (fzJ 6) (.sl true []) G=some (.sl false [],G):=fun _=>rfl;have hb:∀ G,fzA (fzJ 6) (.bool false) G=some (.bool false,G):=fun _=>rfl;rw[fzA];simp only[fzL,h,hI,hs,hb]
theorem FJ {op:Int}{X:List Re}{id n z:Nat}{H:List MB} (hr:getRow H id=some (8,X.map reAV,z)) (hn:X.length=n):∃ H',fz (ownN op id n) H=some (reAV (.mk op [] X 0 0 0 0 false),H'):=⟨_,Mg hr hn⟩
theorem Qb {x y:AV}{H H':List MB} (h:fz x H=some (y,H')):fzs [x] H=some ([y],H'):=by
 unfold fz at h;simp only[fzs,fzL,h]
theorem Ql (kids:List Re) (x:Int) (hl:Re.wtL kids<=1000000000) (ih:∀ k∈kids,∀ H,call Pg pol1 68 [reAV k,I x] H=some (reAV (drr x k),H)) (H:List MB):call Pg pol1 68 [reAV (.mk 3 [] kids 0 0 0 0 false),I x] H=some (reAV (drr x (.mk 3 [] kids 0 0 0 0 false)),H):=by
 have hkl:=Re.wtL_len kids;have e1:drr x (.mk 3 [] kids 0 0 0 0 false)=.mk 3 [] (kids.map (drr x)) 0 0 0 0 false:=by simp[drr,GN]
 rw[e1];refine AR Tryz.func68 rfl rfl rfl rfl rfl rfl (fun _=>rfl) (by simp[AV.plain,AV.plainL,AO]) (AU _) ?_ H;rw[show reAV (.mk 3 [] kids 0 0 0 0 false)=.agg (nodeL 3 [] kids 0 0 0 0 false) from congrArg AV.agg Ab];simp +contextual -implicitDefEqProofs (disch:=omega) only[Tryz.f68,dd68,go_sem,simprocAttr,evAppend,map_append,mu68,↓AE,↓AC,↓AB,↓AA];refine AY (M:=(mskOf (pol1.mask 68) (pol1.gc 68) (pol1.acts 68) 0 11)) (by rfl) kids.length (fun i=>(⟨133,[(7,I i),(6,.rf 3 1 0 0),(4,.rf 1 1 0 0),(2,.rf 0 1 0 0),(1,I x)],[.row 8 [.agg (nodeL 3 [] kids 0 0 0 0 false)] 0,.row 8 [zeR] 0,.row 8 [.agg [I 1,.sl true [],.sl true [],I 0,I 0,I 0,I 0,.bool false]] 0,.row 8 [ownN 3 4 i] 0,.row 8 (((kids.take i).map (drr x)).map reAV) 0]⟩:St)) (fun _=>True) ?_ ?_ trivial _ ?_
 ·intro i hi _;obtain⟨k,hk⟩:∃ k,kids[i]?=some k:=⟨_,getElem?_eq_getElem hi⟩;have hk':=At hk;have hlt:(i:Int)<(kids.length:Int):=by omega
  have hXl:((kids.take i).map (drr x)).length=i:=by rw[length_map,List.length_take];omega
  have hst:(kids.take (i+1)).map (drr x)=(kids.take i).map (drr x)++[drr x k]:=by rw[AZ hk,map_append];rfl
  have hih:=ih k (mem_of_getElem? hk);rw[hst];generalize (kids.take i).map (drr x)=X at *;generalize drr x k=R at *;have a1:=fun(b0 b1 b2 b3:MB)=>BY (H:=[b0,b1,b2,b3,.row 8 (X.map reAV) 0]) (i:=4) (n:=i) (x:=R) (t:=true) (rs:=X) (z:=0) rfl (zero_le _) hXl (by omega);simp only[set_cons_succ,List.set_cons_zero]at a1;simp +contextual -implicitDefEqProofs (disch:=omega) only[Tryz.f68,dd68,go_sem,simprocAttr,mu68,↓AE,↓AC,↓AB,↓AA,hk',hlt,hih,a1,AK,AJ,AP];repeat' (first|intro _|apply And.intro|(unfold dOk;kernel_rfl)|exact St.beq_refl _|exact AQ|(show altO _ _ _ _=true;kernel_rfl)|(show (_||_)=true;kernel_rfl)|(show (_&&_)=true;kernel_rfl))
  generalize X++[R]=X2;exact(by first|rfl|(refine AN rfl (by rfl) (by rfl) (by rfl) ?_ ?_<;>simp[AV.underL,AV.under,MB.under,AD,AI,AG,AF,AL,AM,-map_take,AH]))
 ·intro _;rw[take_length];have hXl:(kids.map (drr x)).length=kids.length:=by simp
  generalize kids.map (drr x)=X at *;simp +contextual -implicitDefEqProofs (disch:=omega) only[Tryz.f68,dd68,go_sem,simprocAttr,evAppend,map_append,mu68,↓AE,↓AC,↓AB,↓AA,AK,AJ,AP];rw[<- hXl];exact FJ (z:=0) rfl rfl
 ·exact(by first|rfl|(refine AN rfl (by rfl) (by rfl) (by rfl) ?_ ?_<;>simp[AV.underL,AV.under,MB.under,AD,AI,AG,AF,AL,AM,-map_take,AH]))
theorem Qi (k:Re) (mn mx md:Int) (x:Int) (h1:0<=mn/\mn<=32) (h2:mx = -1∨(1<=mx/\mx<=32)) (ih:∀ H,call Pg pol1 68 [reAV k,I x] H=some (reAV (drr x k),H)) (H:List MB):call Pg pol1 68 [reAV (.mk 4 [] [k] mn mx md 0 false),I x] H=some (reAV (drr x (.mk 4 [] [k] mn mx md 0 false)),H):=by
 refine AR Tryz.func68 rfl rfl rfl rfl rfl rfl (fun _=>rfl) (by simp[AV.plain,AV.plainL,AO]) (AU _) ?_ H;rw[show reAV (.mk 4 [] [k] mn mx md 0 false)=.agg (nodeL 4 [] [k] mn mx md 0 false) from congrArg AV.agg Ab];have hw:IntKind.i64.wrap (mn-1)=mn-1:=by rw[i64_in]<;>omega
 have hw2:IntKind.i64.wrap (mx-1)=mx-1:=by rw[i64_in]<;>omega
 by_cases hm:mx=1
 ·subst hm;have e1:drr x (.mk 4 [] [k] mn 1 md 0 false)=.mk 2 [] [drr x k] 0 0 0 0 false:=by simp[drr,drrL]
  rw[e1];generalize drr x k=R at *;simp +contextual -implicitDefEqProofs (disch:=omega) only[Tryz.f68,dd68,go_sem,simprocAttr,evAppend,map_append,mu68,↓AE,↓AC,↓AB,↓AA,ih,AK,AJ,AP];exact FJ (X:=[R]) (z:=0) rfl rfl
 ·have e1:drr x (.mk 4 [] [k] mn mx md 0 false)=.mk 2 [] [drr x k,.mk 4 [] [k] (max (mn-1) 0) (if 0<mx then mx-1 else mx) 0 0 false] 0 0 0 0 false:=by simp[drr,drrL,hm]
  rw[e1];generalize drr x k=R at *;have hmx:(if 0 > mn-1 then 0 else mn-1)=max (mn-1) 0:=by split<;>omega
  have app2:∀(b0 b1 b2 b3 b5:MB) (y:AV),y.cells.length=8->y.cells.all AV.ok=true->evAppend Pg [b0,b1,b2,.row 8 [reAV R] 0,b3,b5] 24 24 (.ms 3 8 1 0 1) (.sl true [y])=some (.ms 3 8 2 0 2,[b0,b1,b2,.row 8 [reAV R,y] 0,b3,b5]):=fun b0 b1 b2 b3 b5 y hy1 hy2=>by
   rw[Ai (e:=26) (by kernel_rfl) (by kernel_rfl) (k:=8) (by kernel_rfl) (by_:=96) (by kernel_rfl) (ze:=zeR) (by kernel_rfl) rfl (by omega) (ys:=[y]) rfl (by simp[hy1,hy2]) (id:=3) (n:=1) (z:=0) (els:=[reAV R]) rfl rfl (by omega) (Ae (by simp) (by omega))];rfl
  by_cases hm0:0<mx
  ·rw[if_pos hm0];have a2:=fun b0 b1 b2 b3 b5=>app2 b0 b1 b2 b3 b5 (.agg [I 4,.sl false [],.sl false [reAV k],I (max (mn-1) 0),I (mx-1),I 0,I 0,.bool false]) rfl rfl;simp +contextual -implicitDefEqProofs (disch:=omega) only[Tryz.f68,dd68,go_sem,simprocAttr,map_append,mu68,↓AE,↓AC,↓AB,↓AA,ih,hw,hw2,hm,hm0,evMax,hmx,a2,AK,AJ,AP];refine FJ (id:=3) (n:=2) (X:=[R,.mk 4 [] [k] (max (mn-1) 0) (mx-1) 0 0 false]) (z:=0) ?_ rfl;rfl
  ·rw[if_neg hm0];have a2:=fun b0 b1 b2 b3 b5=>app2 b0 b1 b2 b3 b5 (.agg [I 4,.sl false [],.sl false [reAV k],I (max (mn-1) 0),I mx,I 0,I 0,.bool false]) rfl rfl;simp +contextual -implicitDefEqProofs (disch:=omega) only[Tryz.f68,dd68,go_sem,simprocAttr,map_append,mu68,↓AE,↓AC,↓AB,↓AA,ih,hw,hw2,hm,hm0,evMax,hmx,a2,AK,AJ,AP];refine FJ (id:=3) (n:=2) (X:=[R,.mk 4 [] [k] (max (mn-1) 0) mx 0 0 false]) (z:=0) ?_ rfl;rfl
theorem Nv (x:Int):catX x []=[]:=by simp[catX]
def catB (x:Int):List Re->Nat->List Re
 | k::ks,i+1=>.mk 2 [] (drr x k::ks) 0 0 0 0 false::catB x ks i
 | _,_=>[]
theorem Nz (x:Int) (l:List Re):catB x l 0=[]:=by cases l<;>rfl
theorem He (x:Int):∀(l:List Re) (i:Nat),i<=l.length->(catB x l i).length=i
 | [],0,_=>rfl
 | [],i+1,h=>by simp at h
 | k::l,0,_=>rfl
 | k::l,i+1,h=>by simp[catB,He x l i (by simpa using h)]
theorem FZ {x:Int}:∀ {l:List Re}{i:Nat}{k:Re},l[i]?=some k->catB x l (i+1)=catB x l i++[.mk 2 [] (drr x k::l.drop (i+1)) 0 0 0 0 false]
 | [],i,k,h=>by simp at h
 | y::l,0,k,h=>by
   simp at h;subst h;cases l<;>rfl
 | y::l,i+1,k,h=>by
   have:=FZ (x:=x) (l:=l) (i:=i) (by simpa using h);simp only[catB,List.drop_succ_cons,cons_append]at this |-;rw[this]
theorem Fa {x:Int}:∀ {l:List Re}{i:Nat},i<=l.length->(∀ k∈l.take i,nullG k=true)->catX x l=catB x l i++catX x (l.drop i)
 | [],0,_,_=>rfl
 | [],i+1,h,_=>by simp at h
 | y::l,0,_,_=>by cases l<;>rfl
 | y::l,i+1,h,hn=>by
   have h1:=hn y (by simp);have:=Fa (x:=x) (l:=l) (i:=i) (by simpa using h) fun k hk=>hn k (by simp[hk]);rw[catX,if_pos h1,this];rfl
theorem N0 {x:Int}{l:List Re}{i:Nat}{k:Re} (h:l[i]?=some k) (hn:∀ q∈l.take i,nullG q=true) (hk:nullG k=false):catX x l=catB x l (i+1):=by
 have hlt:=(List.getElem?_eq_some_iff.1 h).1;rw[Fa (by omega) hn,FZ h];have e:l.drop i=k::l.drop (i+1):=by
  rw[List.drop_eq_getElem_cons hlt];rw[getElem?_eq_getElem hlt]at h;rw[Option.some.inj h]
 rw[e,catX,if_neg (by simp[hk])]
theorem PV {x:Int}{l:List Re} (hn:∀ q∈l,nullG q=true):catX x l=catB x l l.length:=by
 rw[Fa (i:=l.length) (le_refl _) (by rw[take_length];exact hn),List.drop_length,Nv];simp
theorem Qj (kids:List Re) (x:Int) (hl:Re.wtL kids<=1000000000) (ih:∀ k∈kids,∀ H,call Pg pol1 68 [reAV k,I x] H=some (reAV (drr x k),H)) (hnu:∀ k∈kids,∀ H,call Pg pol1 37 [reAV k] H=some (.bool (nullG k),H)) (H:List MB):call Pg pol1 68 [reAV (.mk 2 [] kids 0 0 0 0 false),I x] H=some (reAV (drr x (.mk 2 [] kids 0 0 0 0 false)),H):=by
 have hkl:=Re.wtL_len kids;have e1:drr x (.mk 2 [] kids 0 0 0 0 false)=.mk 3 [] (catX x kids) 0 0 0 0 false:=by simp[drr]
 rw[e1];refine AR Tryz.func68 rfl rfl rfl rfl rfl rfl (fun _=>rfl) (by simp[AV.plain,AV.plainL,AO]) (AU _) ?_ H;rw[show reAV (.mk 2 [] kids 0 0 0 0 false)=.agg (nodeL 2 [] kids 0 0 0 0 false) from congrArg AV.agg Ab];simp +contextual -implicitDefEqProofs (disch:=omega) only[Tryz.f68,dd68,go_sem,simprocAttr,evAppend,map_append,mu68,↓AE,↓AC,↓AB,↓AA];refine AY (M:=(mskOf (pol1.mask 68) (pol1.gc 68) (pol1.acts 68) 0 18)) (by rfl) kids.length (fun i=>(⟨133,[(9,I i),(8,.rf 3 1 0 0),(4,.rf 1 1 0 0),(2,.rf 0 1 0 0),(1,I x)],[.row 8 [.agg (nodeL 2 [] kids 0 0 0 0 false)] 0,.row 8 [zeR] 0,.row 8 [.agg [I 1,.sl true [],.sl true [],I 0,I 0,I 0,I 0,.bool false]] 0,.row 8 [ownN 3 4 i] 0,.row 8 ((catB x kids i).map reAV) 0]⟩:St)) (fun i=>∀ q∈kids.take i,nullG q=true) ?_ ?_ (by simp) _ (by rw[Nz];exact(by first|rfl|(refine AN rfl (by rfl) (by rfl) (by rfl) ?_ ?_<;>simp[AV.underL,AV.under,MB.under,AD,AI,AG,AF,AL,AM,-map_take,AH])))
 ·intro i hi hinv;obtain⟨k,hk⟩:∃ k,kids[i]?=some k:=⟨_,getElem?_eq_getElem hi⟩;have hk':=At hk;have hlt:(i:Int)<(kids.length:Int):=by omega
  have hAl:=He x kids i (by omega);have hAs:=FZ (x:=x) hk;have hih:=ih k (mem_of_getElem? hk);have hnk:=hnu k (mem_of_getElem? hk);have hw:IntKind.i64.wrap ((i:Int)+1)=((i+1:Nat):Int):=EA (by omega);have hdl:(kids.drop (i+1)).length=kids.length-(i+1):=by simp
  have hle:((i+1:Nat):Int)<=(kids.length:Int):=by omega
  have hdr:((kids.map reAV).take kids.length).drop (i+1)=(kids.drop (i+1)).map reAV:=by rw[take_of_length_le (by simp),List.map_drop]
  have h8:=all8 kids;simp only[AV.cells]at h8;have hstop:nullG k=false->catX x kids=catB x kids (i+1):=fun h=>N0 hk hinv h;have hgo:nullG k=true->∀ q∈kids.take (i+1),nullG q=true:=fun h q hq=>by
   rw[AZ hk]at hq;rcases mem_append.1 hq with g|g
   ·exact hinv q g
   ·rw[List.mem_singleton.1 g];exact h
  rw[hAs]at hstop |-;generalize kids.drop (i+1)=D at *;generalize catB x kids i=X at *;generalize drr x k=R at *;have a1:=fun(b0 b1 b2 b3 b4 b6:MB)=>EZ (H:=[b0,b1,b2,b3,b4,.row 8 ([R].map reAV) 0,b6]) (i:=5) (n:=1) (xs:=D) (t:=false) (rs:=[R]) (z:=0) rfl (zero_le _) rfl (by omega);simp only[set_cons_succ,List.set_cons_zero,map_cons,map_nil]at a1;have hPl:(R::D).length=1+D.length:=by simp;omega
  have hRD:(R::D).map reAV=reAV R::D.map reAV:=rfl;have hfz:=fun(b0 b1 b2 b3 b4 b6:MB)=>Qb (Mg (op:=2) (X:=R::D) (id:=5) (n:=1+D.length) (z:=0) (H:=[b0,b1,b2,b3,b4,.row 8 ((R::D).map reAV) 0,b6]) rfl hPl);have hmk:∀(b0 b1 b2 b3 b4 b6:MB),mark [b0,b1,b2,b3,b4,.row 8 ((R::D).map reAV) 0,b6] 5 (1+D.length)=[b0,b1,b2,b3,b4,.row 8 ((R::D).map reAV) (1+D.length),b6]:=fun b0 b1 b2 b3 b4 b6=>by simp[mark,getRow]
  simp only[hmk]at hfz;rw[show ([R]++D)=R::D from rfl]at a1;rw[<- hRD]at *;generalize R::D=P0 at *;have a2:=fun(b0 b1 b2 b3 b5 b6:MB)=>BY (H:=[b0,b1,b2,b3,.row 8 (X.map reAV) 0,b5,b6]) (i:=4) (n:=i) (x:=.mk 2 [] P0 0 0 0 0 false) (t:=true) (rs:=X) (z:=0) rfl (zero_le _) hAl (by omega);simp only[set_cons_succ,List.set_cons_zero]at a2;cases hn:nullG k with
  | true=>
    rw[hn]at hnk;have hg2:=hgo hn;simp +contextual -implicitDefEqProofs (disch:=omega) only[Tryz.f68,dd68,go_sem,simprocAttr,mu68,↓AE,↓AC,↓AB,↓AA,hk',hlt,hih,hw,hle,hdr,h8,a1,a2,hfz,hnk,AV.beqL_refl,AK,AJ,AP];repeat' (first|intro _|apply And.intro|(unfold dOk;kernel_rfl)|exact St.beq_refl _|exact AQ|(show altO _ _ _ _=true;kernel_rfl)|(show (_||_)=true;kernel_rfl)|(show (_&&_)=true;kernel_rfl))
    ·rename_i q hq;exact hg2 q hq
    ·generalize X++[Re.mk 2 [] P0 0 0 0 0 false]=X2;exact(by first|rfl|(refine AN rfl (by rfl) (by rfl) (by rfl) ?_ ?_<;>simp[AV.underL,AV.under,MB.under,AD,AI,AG,AF,AL,AM,-map_take,AH]))
  | false=>
    rw[hn]at hnk;rw[hstop hn];have hX2l:(X++[Re.mk 2 [] P0 0 0 0 0 false]).length=i+1:=by simp[hAl]
    generalize X++[Re.mk 2 [] P0 0 0 0 0 false]=X2 at *;simp +contextual -implicitDefEqProofs (disch:=omega) only[Tryz.f68,dd68,go_sem,simprocAttr,mu68,↓AE,↓AC,↓AB,↓AA,hk',hlt,hih,hw,hle,hdr,h8,a1,a2,hfz,hnk,AV.beqL_refl,AK,AJ,AP];repeat' (first|intro _|apply And.intro|(unfold dOk;kernel_rfl)|exact St.beq_refl _|exact AQ|(show altO _ _ _ _=true;kernel_rfl)|(show (_||_)=true;kernel_rfl)|(show (_&&_)=true;kernel_rfl))
    rw[<- hX2l];exact FJ (z:=0) rfl rfl
 ·intro hinv;rw[take_length]at hinv;rw[PV hinv];have hAl:=He x kids kids.length (le_refl _);generalize catB x kids kids.length=X at *;simp +contextual -implicitDefEqProofs (disch:=omega) only[Tryz.f68,dd68,go_sem,simprocAttr,evAppend,map_append,mu68,↓AE,↓AC,↓AB,↓AA,AK,AJ,AP];rw[<- hAl];exact FJ (z:=0) rfl rfl
theorem d68 (x:Int):∀(N:Nat) (t:Re),t.wt<=N->t.wt<=1000000->OkD t->∀ H,call Pg pol1 68 [reAV t,I x] H=some (reAV (drr x t),H):=by
 intro N
 induction N with
 | zero=>intro t h;have:=t.wt_pos;omega
 | succ N ihN=>
   intro t hN hw hok;have h2:=Re.wt_sub t;have hsub:∀ k∈t.sub,OkD k/\k.wt<=Re.wtL t.sub:=fun k hk=>by
    obtain⟨op,set,kids,mn,mx,md,n,neg⟩:=t;exact⟨hok.kids k hk,Re.wtL_mem hk⟩
   have ih:∀ k∈t.sub,∀ H,call Pg pol1 68 [reAV k,I x] H=some (reAV (drr x k),H):=fun k hk=>by
    obtain⟨a,c⟩:=hsub k hk;exact ihN k (by omega) (by omega) a
   have hnu:∀ k∈t.sub,∀ H,call Pg pol1 37 [reAV k] H=some (.bool (nullG k),H):=fun k hk H=>by
    obtain⟨a,c⟩:=hsub k hk;exact f20 _ k (le_refl _) (by omega) H
   cases hok with
   | empty=>exact Nn x
   | set s hs=>exact Qh s hs x
   | cat kids h=>exact Qj kids x (by simp only[Re.sub]at h2;omega) ih hnu
   | alt kids h=>exact Ql kids x (by simp only[Re.sub]at h2;omega) ih
   | rep k mn mx md h h1 h3=>exact Qi k mn mx md x h1 (by omega) (ih k (by simp[Re.sub]))
   | cap k n h=>exact Qk k n x (ih k (by simp[Re.sub]))
end
section
attribute [local go_sem] evAppend evBin map_append
theorem L7 {x:Int}{t:Re} (h:OkD t) (hs:t.size<=256):(drv x t).wt<=10000000/\(drr x t).wt<=10000000:=by
 have h1:=h.wt65;obtain⟨a,b⟩:=PP (x:=x) (W:=16640) h (by omega);have:2*t.size*(16640+2)<=2*256*(16640+2):=Nat.mul_le_mul_right _ (by omega);omega
theorem d35 {t:Re} (hs:t.size<=256) (hok:OkD t) (x:Int) (H:List MB):call Pg pol1 35 [reAV t,I x] H=some (resA (stepR x t),H):=by
 have h65:=hok.wt65;obtain⟨_,hb⟩:=L7 (x:=x) hok hs;have hdo:=(Jz (x:=x) hok).2.1;have h68:=d68 x _ t (le_refl _) (by omega) hok;have h32:=d32 _ (drr x t) (le_refl _) (by omega) hdo;have hnw:=(Ov (drr x t) hdo.gs).2;have h57:=f112 _ (nf (drr x t)) (le_refl _) (by omega);have h58:=f113 _ (nf (drr x t)) (le_refl _) (by omega);have hst:=M6 x hok;have hpl:=EP (stepR x t);have hsz:=Re.size_wt (nf (drr x t));have hdp:=Nat.le_trans (Re.depth_size (nf (drr x t))) hsz;refine AR Tryz.func35 rfl rfl rfl rfl rfl rfl (fun _=>rfl) (by simp[AV.plain,AV.plainL,AO]) hpl ?_ H;rw[hst];unfold resS at h32;clear hst hpl;generalize drr x t=d at *;generalize nf d=r at *;cases hbd:badR d with
 | true=>
   simp only[hbd,if_true]at h32;rw[if_pos (.inl rfl)];simp +contextual -implicitDefEqProofs (disch:=omega) only[Tryz.f35,dd35,go_sem,simprocAttr,mu35,↓AE,↓AC,↓AB,↓AA,h68,h32,AK,AJ,AP];exact⟨_,rfl⟩
 | false=>
   simp only[hbd,false_eq_true,if_false]at h32;by_cases c1:256<r.size
   ·have c1':(256:Int)<(r.size:Int):=by omega
    rw[if_pos (.inr (.inl c1))];simp +contextual -implicitDefEqProofs (disch:=omega) only[Tryz.f35,dd35,go_sem,simprocAttr,mu35,↓AE,↓AC,↓AB,↓AA,h68,h32,h57,c1',AK,AJ,AP];exact⟨_,rfl⟩
   ·have c1':¬ (256:Int)<(r.size:Int):=by omega
    by_cases c2:24<r.depth
    ·have c2':(24:Int)<(r.depth:Int):=by omega
     rw[if_pos (.inr (.inr c2))];simp +contextual -implicitDefEqProofs (disch:=omega) only[Tryz.f35,dd35,go_sem,simprocAttr,mu35,↓AE,↓AC,↓AB,↓AA,h68,h32,h57,h58,c1',c2',AK,AJ,AP];exact⟨_,rfl⟩
    ·have c2':¬ (24:Int)<(r.depth:Int):=by omega
     rw[if_neg (by simp[c1,c2])];simp +contextual -implicitDefEqProofs (disch:=omega) only[Tryz.f35,dd35,go_sem,simprocAttr,mu35,↓AE,↓AC,↓AB,↓AA,h68,h32,h57,h58,c1',c2',AK,AJ,AP];exact fzEq (by simp[AV.plain,AV.plainL,AO]) rfl
theorem JM {t:Re} (hok:OkD t) (hs:t.size<=256) (hb:badR t=false):StT (nf t):=⟨Id hok hb,Nat.le_trans (QL hok) hs⟩
end
section
attribute [local go_sem] map_append
abbrev B8 (n:Int):AV:=.int .u8 n
theorem Ba (l:List Int):AV.plainL (l.map B8)=true:=by
 induction l with
 | nil=>rfl
 | cons a l ih=>simp[AV.plainL,ih];rfl
section
variable {α:Type} (A K:List α) (x y v:α)
theorem Eu:(A++x::K)[A.length]?=some x:=by simp
theorem C9:(A++x::y::K)[A.length+1]?=some y:=by
 rw[getElem?_append_right (by omega)];simp
theorem Et:(A++x::K).set A.length v=A++v::K:=by simp
theorem Df:(A++x::y::K).set (A.length+1) v=A++x::v::K:=by
 rw[List.set_append_right _ _ (by omega)];simp
end
abbrev wrH (A:List MB) (bs:List Int) (n:Nat) (K:List MB):List MB:=A++.row 1 [.agg [.ms (A.length+1) 1 n 0 n]] 0::.row 1 (bs.map B8) 0::K
theorem SQ {n:Nat} (h:128<=n):evBin .or .u8 (IntKind.u8.wrap n) 128=some (B8 ((128+n % 128:Nat):Int)):=by
 have key:∀ m:Fin 256,IntKind.u8.wrap (BitVec.ofInt IntKind.u8.bits ((m.val:Nat):Int) ||| BitVec.ofInt IntKind.u8.bits 128).toNat=((128+m.val % 128:Nat):Int):=by decide +kernel
 have hw:IntKind.u8.wrap n=((n % 256:Nat):Int):=by simp[IntKind.wrap,IntKind.signed,IntKind.bits]
 rw[hw];have:=key ⟨n % 256,Nat.mod_lt _ (by omega)⟩;simp only[show n % 256 % 128=n % 128 by omega]at this;simp only[evBin,this]
theorem shr7 (n:Nat):evShift .shr .u64 n 7=some (.int .u64 ((n / 128:Nat):Int)):=by
 simp only[evShift];simp;rw[Int.fdiv_eq_ediv_of_nonneg _ (by decide)];rfl
section
variable {k:IntKind}{a b:Int}
theorem Jx:evBin .geq k a b=some (.bool (decide (a >= b))):=rfl
end
theorem R9 {n:Nat} (h:n<256):IntKind.u8.wrap n=(n:Int):=by
 simp[IntKind.wrap,IntKind.signed,IntKind.bits];omega
theorem LN {n:Nat} (h:n<18446744073709551616):IntKind.u64.wrap n=(n:Int):=by
 simp[IntKind.wrap,IntKind.signed,IntKind.bits];omega
theorem Rx {H:List MB}{i n z:Nat}{bs cs:List Int}{t:Bool} (hi:getRow H i=some (1,bs.map B8,z)) (hn:bs.length=n) (hz:z<=n) (hr:n+cs.length<=4000000000) :
  evAppend Pg H 98 98 (.ms i 1 n 0 n) (.sl t (cs.map B8))=some (.ms i 1 (n+cs.length) 0 (n+cs.length),H.set i (.row 1 ((bs++cs).map B8) z)):=by
 have hs:srcElems Pg H 5 (.sl t (cs.map B8))=some (cs.map B8):=rfl;rw[Ai (e:=5) (by kernel_rfl) (by kernel_rfl) (k:=1) (by kernel_rfl) (by_:=1) (by kernel_rfl) (ze:=B8 0) (by kernel_rfl) rfl (by omega) hs (by rw[List.all_eq_true];intro x hx;obtain⟨c,_,rfl⟩:=mem_map.1 hx;rfl) hi (by rw[length_map];exact hn) hz (Ae (by rw[length_map];exact hr) (by omega))];rw[length_map,map_append]
theorem M0 {H:List MB}{i n z:Nat}{bs:List Int}{c:Int}{t:Bool} (hi:getRow H i=some (1,bs.map B8,z)) (hn:bs.length=n) (hz:z<=n) (hr:n+1<=4000000000) :
  evAppend Pg H 98 98 (.ms i 1 n 0 n) (.sl t [B8 c])=some (.ms i 1 (n+1) 0 (n+1),H.set i (.row 1 ((bs++[c]).map B8) z)):=
 Rx (cs:=[c]) hi hn hz hr
theorem LL {A K:List MB}{bs:List Int}{n:Nat}:getRow (wrH A bs n K) (A.length+1)=some (1,bs.map B8,0):=by
 unfold getRow;rw[C9]
theorem RN (A K:List MB) (bs:List Int) (v:Nat) (hv:v<18446744073709551616) (n:Nat) (hn:bs.length=n) (hb:n<=1000000000) :
  call Pg pol1 115 [.rf A.length 1 0 0,.int .u64 v] (wrH A bs n K)=some (.tup [],wrH A (bs++vI v) (n+(vI v).length) K):=by
 have fr:frzArgs pol1 115 0 [.rf A.length 1 0 0,.int .u64 v] (wrH A bs n K)=some ([.rf A.length 1 0 0,.int .u64 v],wrH A bs n K):=AT _ _ _ rfl;refine AX (pol:=pol1) Tryz.func115 rfl rfl rfl rfl fr ?_;have rp:∀ H1 r H,retPol pol1 115 H1 r H=some (r,H):=fun H1 r H=>rfl;have h0:=Ec hv;simp +contextual -implicitDefEqProofs (disch:=omega) only[Tryz.f115,PR,go_sem,simprocAttr,O3,↓AE,↓AC,↓AB,↓AA,Jx];refine CZ (σ:=Nat×List Int×Nat) (M:=⟨some [1,0],none,[]⟩) rfl (fun x=>(⟨31,[(1,.int .u64 (x.1:Nat)),(0,.rf A.length 1 0 0)],wrH A x.2.1 x.2.2 K⟩:St)) (fun x=>x.1<=v/\x.2.1.length=x.2.2/\x.2.1++vI x.1=bs++vI v/\x.2.2+(vI x.1).length=n+(vI v).length) (fun x=>x.1) (v,bs,n) ?_ ⟨le_refl _,hn,rfl,rfl⟩ _ rfl;rintro⟨w,cs,m⟩ ⟨hw,hm,he,hl⟩;simp only at hw hm he hl |-;have happ:=fun c=>M0 (H:=wrH A cs m K) (i:=A.length+1) (n:=m) (z:=0) (bs:=cs) (c:=c) (t:=true) LL hm (zero_le _) (by have:=Rb w;omega);by_cases hg:128<=w
 ·have ho:=SQ hg;have hs:=shr7 w;simp +contextual -implicitDefEqProofs (disch:=omega) only[Tryz.f115,PR,go_sem,simprocAttr,O3,↓AE,↓AC,↓AB,↓AA,Jx,Eu,C9,Et,Df,ho,hs,happ];rw[GS hg]at he hl;refine⟨(w / 128,cs++[((128+w % 128:Nat):Int)],m+1),⟨?_,?_,?_,?_⟩,?_,?_⟩
  ·show w / 128<=v;omega
  ·simp[hm]
  ·rw[<- he];simp
  ·rw[<- hl];simp;omega
  ·show w / 128<w;omega
  ·have hm1:List.map B8 cs++[B8 ((128+w % 128:Nat):Int)]=(cs++[((128+w % 128:Nat):Int)]).map B8:=by simp
   rw[hm1];rfl
 ·have hc:=R9 (n:=w) (by omega);simp +contextual -implicitDefEqProofs (disch:=omega) only[Tryz.f115,PR,go_sem,simprocAttr,O3,↓AE,↓AC,↓AB,↓AA,Jx,Eu,C9,Et,Df,hc,happ];rw[Fj (by omega)]at he hl;rw[rp,<- he,<- hl];simp
theorem LJ (a:Nat) (h:a<18446744073709551616):evBin .xor .u64 a 0=some (.int .u64 a):=by
 have:(BitVec.ofInt IntKind.u64.bits (a:Int) ^^^ BitVec.ofInt IntKind.u64.bits 0).toNat=a:=by
  show (BitVec.ofInt 64 (a:Int) ^^^ BitVec.ofInt 64 0).toNat=a;rw[show BitVec.ofInt 64 0=0#64 from rfl,BitVec.xor_zero,BitVec.ofInt_natCast,BitVec.toNat_ofNat];omega
 simp only[evBin,this,LN h]
theorem LK (a:Nat) (h:a<18446744073709551616):evBin .xor .u64 a 18446744073709551615=some (.int .u64 ((18446744073709551615-a:Nat):Int)):=by
 have:(BitVec.ofInt IntKind.u64.bits (a:Int) ^^^ BitVec.ofInt IntKind.u64.bits 18446744073709551615).toNat=18446744073709551615-a:=by
  show (BitVec.ofInt 64 (a:Int) ^^^ BitVec.ofInt 64 18446744073709551615).toNat=_;rw[show BitVec.ofInt 64 18446744073709551615=BitVec.allOnes 64 from rfl,BitVec.xor_allOnes,BitVec.toNat_not,BitVec.ofInt_natCast,BitVec.toNat_ofNat];omega
 simp only[evBin,this];rw[LN (by omega)]
theorem shl1 (a:Int):evShift .shl .u64 a 1=some (.int .u64 (IntKind.u64.wrap (a*2))):=rfl
theorem SJ (a:Int):evShift .shr .i64 a 63=some (.int .i64 (a.fdiv 9223372036854775808)):=rfl
theorem R8 (n:Int) (h:-9223372036854775808<=n/\n<=9223372036854775807) :
  evBin .xor .u64 (IntKind.u64.wrap (IntKind.u64.wrap n*2)) (IntKind.u64.wrap (n.fdiv 9223372036854775808))=some (.int .u64 (zz n:Nat)):=by
 rw[Int.fdiv_eq_ediv_of_nonneg _ (by decide)];by_cases h0:n<0
 ·have e1:IntKind.u64.wrap (IntKind.u64.wrap n*2)=((18446744073709551615-zz n:Nat):Int):=by
   rw[IntKind.wrap_u64,IntKind.wrap_u64];unfold zz;rw[if_pos h0];omega
  have e2:IntKind.u64.wrap (n / 9223372036854775808)=18446744073709551615:=by
   rw[IntKind.wrap_u64];omega
  have:=MM h;rw[e1,e2,LK _ (by omega)];rw[show 18446744073709551615-(18446744073709551615-zz n)=zz n by omega]
 ·have e1:IntKind.u64.wrap (IntKind.u64.wrap n*2)=(zz n:Nat):=by
   rw[IntKind.wrap_u64,IntKind.wrap_u64];unfold zz;rw[if_neg h0];omega
  have e2:IntKind.u64.wrap (n / 9223372036854775808)=0:=by
   rw[IntKind.wrap_u64];omega
  rw[e1,e2,LJ _ (MM h)]
theorem wf83 (A K:List MB) (bs:List Int) (v:Int) (hv:-9223372036854775808<=v/\v<=9223372036854775807) (n:Nat) (hn:bs.length=n) (hb:n<=1000000000) :
  call Pg pol1 83 [.rf A.length 1 0 0,I v] (wrH A bs n K)=some (.tup [],wrH A (bs++iE v) (n+(iE v).length) K):=by
 have fr:frzArgs pol1 83 0 [.rf A.length 1 0 0,I v] (wrH A bs n K)=some ([.rf A.length 1 0 0,I v],wrH A bs n K):=AT _ _ _ rfl;refine AX (pol:=pol1) Tryz.func83 rfl rfl rfl rfl fr ?_;have rp:∀ H1 r H,retPol pol1 83 H1 r H=some (r,H):=fun H1 r H=>rfl;have h80:=RN A K bs (zz v) (MM hv) n hn hb;have hz:=R8 v hv;simp +contextual -implicitDefEqProofs (disch:=omega) only[Tryz.f83,dd83,go_sem,simprocAttr,mu83,↓AE,↓AC,↓AB,↓AA,h80,hz,shl1,SJ];rw[rp];rfl
theorem wf84 (A K:List MB) (bs:List Int) (v:Bool) (n:Nat) (hn:bs.length=n) (hb:n<=1000000000) :
  call Pg pol1 84 [.rf A.length 1 0 0,.bool v] (wrH A bs n K)=some (.tup [],wrH A (bs++boolE v) (n+1) K):=by
 have fr:frzArgs pol1 84 0 [.rf A.length 1 0 0,.bool v] (wrH A bs n K)=some ([.rf A.length 1 0 0,.bool v],wrH A bs n K):=AT _ _ _ rfl;refine AX (pol:=pol1) Tryz.func84 rfl rfl rfl rfl fr ?_;have rp:∀ H1 r H,retPol pol1 84 H1 r H=some (r,H):=fun H1 r H=>rfl;have happ:=fun c=>M0 (H:=wrH A bs n K) (i:=A.length+1) (n:=n) (z:=0) (bs:=bs) (c:=c) (t:=true) LL hn (zero_le _) (by omega);cases v
 ·simp +contextual -implicitDefEqProofs (disch:=omega) only[Tryz.f84,dd84,go_sem,simprocAttr,evBin,mu84,↓AE,↓AC,↓AB,↓AA,ty5,Eu,C9,Et,Df,happ];rw[rp];simp[boolE]
 ·simp +contextual -implicitDefEqProofs (disch:=omega) only[Tryz.f84,dd84,go_sem,simprocAttr,evBin,mu84,↓AE,↓AC,↓AB,↓AA,ty5,Eu,C9,Et,Df,happ];rw[rp];simp[boolE]
theorem NB {f k n:Nat} (hk:pol1.keep f=false) (ho:pol1.own f=false) (H:List MB) (els:List AV) (hn:els.length=n) (hp:AV.plainL els=true) :
  retPol pol1 f H (.ms H.length k n 0 n) (H++[.row k els 0])=some (.sl false els,H):=by
 subst hn;have hr:getRow (H++[.row k els 0]) H.length=some (k,els,0):=by simp[getRow]
 have h1:fz (.ms H.length k els.length 0 els.length) (H++[.row k els 0])=some (.sl false els,H++[.row k els els.length]):=by
  rw[Az hr rfl hp];unfold mark;rw[hr];simp
 have h2:=BO H.length [.row k els els.length] H;unfold retPol;simp only[hk,ho,false_eq_true,if_false,h1,AV.under,AD H.length els hp,h2,and_self,if_true];simp
theorem PX (bs:List Int):(bs.map B8).all (fun y=>decide (y.cells.length=1)&&y.cells.all AV.ok)=true:=by
 rw[List.all_eq_true];intro x hx;obtain⟨c,_,rfl⟩:=mem_map.1 hx;rfl
theorem RA {H:List MB}{x:AV}{bs:List Int}{n:Nat} (hs:srcElems Pg H 5 x=some (bs.map B8)) (h0:bs≠[]) (hn:bs.length=n) (hr:n<=4000000000) :
  evAppend Pg H 98 98 (.sl true []) x=some (.ms H.length 1 n 0 n,H++[.row 1 (bs.map B8) 0]):=by
 subst hn;obtain⟨b,bs',rfl⟩:=List.exists_cons_of_ne_nil h0;have e1:tyElem Pg 98=some 5:=by kernel_rfl
 have e2:tyNotInt Pg 98=true:=by kernel_rfl
 have e3:tySz Pg 5=some 1:=by kernel_rfl
 have e4:tyBytes Pg 5=some 1:=by kernel_rfl
 have e5:tyZero Pg 5=some (B8 0):=by kernel_rfl
 unfold evAppend;simp only[e1,e2,e3,e4,e5,hs];rw[if_pos ⟨PX _,by omega,rfl⟩];have hroom:=Ae (n:=0+((b::bs').map B8).length) (b:=1) (by rw[length_map];omega) (by omega);simp only[map_cons]at hroom |-;simp only[length_nil];rw[if_pos ⟨trivial,hroom,rfl⟩];simp
theorem Rj {H:List MB}{i n z:Nat}{bs:List Int} (hi:getRow H i=some (1,bs.map B8,z)) (hn:bs.length=n):srcElems Pg H 5 (.ms i 1 n 0 n)=some (bs.map B8):=by
 subst hn;simp only[srcElems,elemsOf,hi];rw[if_pos ⟨by rw[length_map],trivial⟩,List.drop_zero,take_of_length_le (by rw[length_map];exact le_refl _)]
theorem wf88 (A K:List MB) (bs:List Int) (n:Nat) (hn:bs.length=n) (hb:n<=1000000000) (h0:bs≠[]) :
  call Pg pol1 88 [.rf A.length 1 0 0] (wrH A bs n K)=some (.sl false (bs.map B8),wrH A bs n K):=by
 have fr:frzArgs pol1 88 0 [.rf A.length 1 0 0] (wrH A bs n K)=some ([.rf A.length 1 0 0],wrH A bs n K):=AT _ _ _ rfl;refine AX (pol:=pol1) Tryz.func88 rfl rfl rfl rfl fr ?_;have happ:=RA (H:=wrH A bs n K) (Rj (i:=A.length+1) LL hn) h0 hn (by omega);simp +contextual -implicitDefEqProofs (disch:=omega) only[Tryz.f88,dd88,go_sem,simprocAttr,evBin,mu88,↓AE,↓AC,↓AB,↓AA,ty5,Eu,C9,Et,Df,happ];have hl:A.length+(K.length+1+1)=(wrH A bs n K).length:=by simp
 rw[hl];exact NB rfl rfl _ _ (by rw[length_map];exact hn) (Ba _)
theorem FI {v:Int} (h:In64 v):(iE v).length<=10:=Ec (MM h)
end
section
attribute [local go_sem] evBin
theorem I5 {l:List Int} (h:∀ x∈l,In64 x):(l.flatMap iE).length<=10*l.length:=by
 induction l with
 | nil=>simp
 | cons x l ih=>
   have h1:=ih fun q hq=>h q (mem_cons_of_mem _ hq);have h2:=FI (h x (by simp));simp only[List.flatMap_cons,length_append,length_cons];omega
theorem wf86 (A K:List MB) (bs l:List Int) (hl:∀ x∈l,In64 x) (hll:l.length<=10000000) (n:Nat) (hn:bs.length=n) (hb:n<=500000000) :
  call Pg pol1 86 [.rf A.length 1 0 0,.sl false (l.map I)] (wrH A bs n K)=some (.tup [],wrH A (bs++intsE l) (n+(intsE l).length) K):=by
 have fr:frzArgs pol1 86 0 [.rf A.length 1 0 0,.sl false (l.map I)] (wrH A bs n K)=some ([.rf A.length 1 0 0,.sl false (l.map I)],wrH A bs n K):=AT _ _ _ (by simp[mixOk,show pol1.byref 86 0=true from rfl,AV.plain,AG]);refine AX (pol:=pol1) Tryz.func86 rfl rfl rfl rfl fr ?_;have rp:∀ H1 r H,retPol pol1 86 H1 r H=some (r,H):=fun H1 r H=>rfl;have h115:=RN A K bs l.length (by omega) n hn (by omega);have hw:=LN (n:=l.length) (by omega);have hvl:=Ec (n:=l.length) (by omega);have hX0:(bs++vI l.length).length=n+(vI l.length).length:=by simp[hn]
 have hIE:intsE l=vI l.length++l.flatMap iE:=rfl;rw[hIE];simp +contextual -implicitDefEqProofs (disch:=omega) only[Tryz.f86,dd86,go_sem,simprocAttr,evAppend,map_append,mu86,↓AE,↓AC,↓AB,↓AA,h115,hw];refine AY (M:=⟨some [13,12,11,0],none,[]⟩) (by rfl) l.length (fun i=>(⟨21,[(13,I i),(12,I l.length),(11,.sl false (l.map I)),(0,.rf A.length 1 0 0)],wrH A ((bs++vI l.length)++(l.take i).flatMap iE) ((n+(vI l.length).length)+((l.take i).flatMap iE).length) K⟩:St)) (fun _=>True) ?_ ?_ trivial _ ?_
 ·intro i hi _;obtain⟨x,hx⟩:∃ x,l[i]?=some x:=⟨_,getElem?_eq_getElem hi⟩;have hx':(l.map I)[i]?=some (I x):=by simp[hx]
  have hlt:(i:Int)<(l.length:Int):=by omega
  have hst:(l.take (i+1)).flatMap iE=(l.take i).flatMap iE++iE x:=by rw[AZ hx,List.flatMap_append];simp
  have hfl:=I5 (l:=l.take i) fun q hq=>hl q (List.mem_of_mem_take hq);rw[List.length_take]at hfl;rw[hst];have hm:n+(vI l.length).length<=500000010:=by omega
  generalize bs++vI l.length=X at *;generalize n+(vI l.length).length=m at *;generalize (l.take i).flatMap iE=Y at *;have h83:=wf83 A K (X++Y) x (hl x (mem_of_getElem? hx)) (m+Y.length) (by simp[hX0]) (by omega);simp +contextual -implicitDefEqProofs (disch:=omega) only[Tryz.f86,dd86,go_sem,simprocAttr,evAppend,map_append,mu86,↓AE,↓AC,↓AB,↓AA,hx',hlt,h83];rw[append_assoc,add_assoc];rfl
 ·intro _;rw[take_length];simp +contextual -implicitDefEqProofs (disch:=omega) only[Tryz.f86,dd86,go_sem,simprocAttr,evAppend,map_append,mu86,↓AE,↓AC,↓AB,↓AA];rw[rp,append_assoc,add_assoc]
 ·simp only[List.take_zero,List.flatMap_nil,List.append_nil,length_nil,Nat.add_zero];rfl
theorem NF.in64 {op:Int}{set:List (Int×Int)}{kids:List Re}{mn mx md n:Int}{neg:Bool} (h:NF (.mk op set kids mn mx md n neg)):(∀ x∈(op::set.flatMap fun p=>[p.1,p.2]),In64 x)/\(∀ x∈[mn,mx,md,n,neg01 neg],In64 x)/\(∀ k∈kids,NF k)/\set.length<=64:=by
 have hz:∀ m:Int,-9000<=m/\m<=9000->In64 m:=fun m h=>⟨by omega,by omega⟩;have hn:∀ b:Bool,In64 (neg01 b):=fun b=>by cases b<;>exact hz _ (by decide)
 cases h with
 | empty=>exact⟨fun x hx=>by simp at hx;subst hx;exact hz _ (by omega),fun x hx=>by simp at hx;rcases hx with rfl|rfl<;>first|exact hz _ (by omega)|exact hn _,(fun k hk=>by cases hk),by simp⟩
 | set s h=>
   refine⟨fun x hx=>?_,fun x hx=>by simp at hx;rcases hx with rfl|rfl<;>first|exact hz _ (by omega)|exact hn _,(fun k hk=>by cases hk),h.len⟩;rcases mem_cons.1 hx with rfl|hx
   ·exact hz _ (by omega)
   ·obtain⟨p,hp,hx⟩:=List.mem_flatMap.1 hx;have:=h.good p hp;unfold goodS at this;simp at hx;rcases hx with rfl|rfl
    ·exact⟨by omega,by omega⟩
    ·exact⟨by omega,by omega⟩
 | cat kids h2 h ho=>exact⟨fun x hx=>by simp at hx;subst hx;exact hz _ (by omega),fun x hx=>by simp at hx;rcases hx with rfl|rfl<;>first|exact hz _ (by omega)|exact hn _,h,by simp⟩
 | alt kids h2 h ho hr hs=>exact⟨fun x hx=>by simp at hx;subst hx;exact hz _ (by omega),fun x hx=>by simp at hx;rcases hx with rfl|rfl<;>first|exact hz _ (by omega)|exact hn _,h,by simp⟩
 | rep k mn mx h h0 hn' hs hm h1 h2=>
   refine⟨fun x hx=>by simp at hx;subst hx;exact hz _ (by omega),fun x hx=>?_,(by intro q hq;rw[List.mem_singleton.1 hq];exact h),by simp⟩;simp at hx;rcases hx with rfl|rfl|rfl|rfl
   ·exact hz _ (by omega)
   ·exact hz _ (by omega)
   ·exact hz _ (by omega)
   ·exact hn _
theorem D1 {l:List Int} (h:∀ x∈l,In64 x) (hl:l.length<=1000000):(intsE l).length<=10+10*l.length:=by
 have h1:=I5 h;have h2:=Ec (n:=l.length) (by omega);simp only[intsE,length_append];omega
theorem Ic:∀(N:Nat) (r:Re),r.wt<=N->r.wt<=1000000->NF r->(nodeE r).length<=100*r.wt:=by
 intro N
 induction N with
 | zero=>intro r h;have:=r.wt_pos;omega
 | succ N ihN=>
   intro r h hw hN;obtain⟨op,set,kids,mn,mx,md,n,neg⟩:=r;obtain⟨a1,a2,a3,a4⟩:=hN.in64;have hwt:1+set.length+Re.wtL kids=(Re.mk op set kids mn mx md n neg).wt:=by simp[Re.wt]
   have hkl:=Re.wtL_len kids;have hk:∀ l:List Re,(∀ k∈l,(nodeE k).length<=100*k.wt)->(kidsE l).length<=100*Re.wtL l:=fun l=>by
    induction l with
    | nil=>intro _;simp[kidsE]
    | cons k l ih=>
      intro hl;have h1:=hl k (by simp);have h2:=ih fun q hq=>hl q (mem_cons_of_mem _ hq);simp only[kidsE,length_append,Re.wtL];omega
   have h1:=hk kids fun k hk=>ihN k (by have:=Re.wtL_mem hk;omega) (by have:=Re.wtL_mem hk;omega) (a3 k hk);have h2:=D1 a1 (by simp only[length_cons,BG];omega);have h3:=D1 a2 (by simp);have h4:=FI (v:=(kids.length:Int)) ⟨by omega,by omega⟩;simp only[length_cons,BG,length_nil]at h2 h3;simp only[nodeE,length_append];omega
abbrev cloE:MB:=.row 1 [.clo 85 [.rf 1 1 0 0,.rf 3 1 0 0]] 0
theorem d85 (b0:MB) (hb0:plB b0):∀(N:Nat) (r:Re),r.wt<=N->r.wt<=1000000->NF r->∀(bs:List Int) (n:Nat),bs.length=n->n+100*r.wt<=400000000 ->
  call Pg pol1 85 [.pt (reC r),.rf 1 1 0 0,.rf 3 1 0 0] [b0,.row 1 [.agg [.ms 2 1 n 0 n]] 0,.row 1 (bs.map B8) 0,cloE]=some (.tup [],[b0,.row 1 [.agg [.ms 2 1 (n+(nodeE r).length) 0 (n+(nodeE r).length)]] 0,.row 1 ((bs++nodeE r).map B8) 0,cloE]):=by
 intro N
 induction N with
 | zero=>intro r h;have:=r.wt_pos;omega
 | succ N ihN=>
   intro r h hw hN bs n hn hb;obtain⟨op,set,kids,mn,mx,md,m,neg⟩:=r;obtain⟨a1,a2,a3,a4⟩:=hN.in64;have hwt:1+set.length+Re.wtL kids=(Re.mk op set kids mn mx md m neg).wt:=by simp[Re.wt]
   have hkl:=Re.wtL_len kids;have ih:=fun k (hk:k∈kids)=>ihN k (by have:=Re.wtL_mem hk;omega) (by have:=Re.wtL_mem hk;omega) (a3 k hk);have hnl:=fun k (hk:k∈kids)=>Ic _ k (le_refl _) (by have:=Re.wtL_mem hk;omega) (a3 k hk);have ea:(.pt (reC (.mk op set kids mn mx md m neg)):AV)=.pt (nodeL op set kids mn mx md m neg):=congrArg AV.pt Ab;rw[ea];have fr:∀ G:List MB,frzArgs pol1 85 0 [.pt (nodeL op set kids mn mx md m neg),.rf 1 1 0 0,.rf 3 1 0 0] G=some ([.pt (nodeL op set kids mn mx md m neg),.rf 1 1 0 0,.rf 3 1 0 0],G):=fun G=>
    AT _ _ _ (by simp[mixOk,show pol1.byref 85 1=true from rfl,show pol1.byref 85 2=true from rfl,AV.plain,AV.plainL,AF,AH])
   refine AX (pol:=pol1) Tryz.func85 rfl rfl rfl rfl (fr _) ?_;simp +contextual -implicitDefEqProofs (disch:=omega) only[Tryz.f85,dd85,go_sem,simprocAttr,evAppend,map_append,mu85,↓AE,↓AC,↓AB,↓AA];have hIop:((op::(set.take 0).flatMap fun p=>[p.1,p.2]).map I)=[I op]:=rfl;refine AY (M:=mskOf (pol1.mask 85) (pol1.gc 85) (pol1.acts 85) 4 2) (by rfl) set.length (fun i=>(⟨78,[(18,I i),(17,I set.length),(16,.sl false (set.map spanAV)),(4,.ms 4 1 (1+2*i) 0 (1+2*i)),(2,.rf 3 1 0 0),(1,.rf 1 1 0 0),(0,.pt (nodeL op set kids mn mx md m neg))],[b0,.row 1 [.agg [.ms 2 1 n 0 n]] 0,.row 1 (bs.map B8) 0,cloE,.row 1 ((op::(set.take i).flatMap fun p=>[p.1,p.2]).map I) 0]⟩:St)) (fun _=>True) ?_ ?_ trivial _ ?_
   ·intro i hi _;obtain⟨p,hp⟩:∃ p,set[i]?=some p:=⟨_,getElem?_eq_getElem hi⟩;have hp':(set.map spanAV)[i]?=some (spanAV p):=by simp[hp]
    have hlt:(i:Int)<(set.length:Int):=by omega
    have hft:=FN hp;have hfl:=BG (set.take i);rw[List.length_take,Nat.min_eq_left (by omega)]at hfl;rw[hft,show op::((set.take i).flatMap (fun p=>[p.1,p.2])++[p.1,p.2])=(op::(set.take i).flatMap (fun p=>[p.1,p.2]))++[p.1,p.2] from rfl,show 1+2*(i+1)=1+2*i+2 by omega];have hXl:(op::(set.take i).flatMap (fun p=>[p.1,p.2])).length=1+2*i:=by simp only[length_cons,hfl];omega
    generalize op::(set.take i).flatMap (fun p=>[p.1,p.2])=X at *;have a1':=fun b0 b1 b2 b3 b5=>Hp (H:=[b0,b1,b2,b3,.row 1 (X.map I) 0,b5]) (i:=4) (n:=1+2*i) (xs:=[p.1,p.2]) (t:=true) (rs:=X) (z:=0) rfl (zero_le _) hXl (by simp;omega);simp only[set_cons_succ,List.set_cons_zero,map_cons,map_nil,length_cons,length_nil,zero_add,Nat.reduceAdd]at a1';simp +contextual -implicitDefEqProofs (disch:=omega) only[Tryz.f85,dd85,go_sem,simprocAttr,mu85,↓AE,↓AC,↓AB,↓AA,hp',hlt,a1'];generalize X++[p.1,p.2]=X2;exact AN (n:=5) rfl rfl (by rfl) (by rfl) (by simp[AV.underL,AV.under,AD _ _ (AF set),AD _ _ (AH kids)]) (by simp only[all_cons,all_nil,hb0 5,Bool.true_and,Bool.and_true];simp[MB.under,AV.underL,AV.under,AD _ _ (Ba bs),AD _ _ (AG X2)])
   ·intro _;rw[take_length];have hXl:(op::set.flatMap (fun p=>[p.1,p.2])).length=1+2*set.length:=by simp only[length_cons,BG];omega
    have hnE:nodeE (.mk op set kids mn mx md m neg)=intsE (op::set.flatMap fun p=>[p.1,p.2])++intsE [mn,mx,md,m,neg01 neg]++iE kids.length++kidsE kids:=by rw[nodeE]
    have l2:=D1 a1 (by simp only[length_cons,BG];omega);have l3:=D1 a2 (by simp);have l4:=FI (v:=(kids.length:Int)) ⟨by omega,by omega⟩;simp only[length_cons,BG,length_nil]at l2 l3;rw[hnE];have w1:=wf86 [b0] [cloE,.row 1 ((op::set.flatMap fun p=>[p.1,p.2]).map I) (1+2*set.length)] bs (op::set.flatMap fun p=>[p.1,p.2]) a1 (by omega) n hn (by omega);generalize hXd:(op::set.flatMap fun p=>[p.1,p.2])=X at *;have c86:call Pg pol1 86 [.rf 1 1 0 0,.ms 4 1 (1+2*set.length) 0 (1+2*set.length)] [b0,.row 1 [.agg [.ms 2 1 n 0 n]] 0,.row 1 (bs.map B8) 0,cloE,.row 1 (X.map I) 0]=_:=(Fe (P:=Pg) (pol:=pol1) (f:=86) (l:=[.rf 1 1 0 0,.sl false (X.map I)]) (H1:=[b0,.row 1 [.agg [.ms 2 1 n 0 n]] 0,.row 1 (bs.map B8) 0,cloE,.row 1 (X.map I) (1+2*set.length)]) rfl rfl (by decide) (by
     simp only[frzArgs,show pol1.byref 86 0=true from rfl,show pol1.byref 86 (0+1)=false from rfl,false_eq_true,if_false,if_true];rw[Az (k:=1) (z:=0) (els:=X.map I) rfl (by simpa using hXl) (AG X)];simp[mark,getRow]) (AT _ _ _ (by simp[mixOk,show pol1.byref 86 0=true from rfl,AV.plain,AG]))).trans w1
    have w2:=wf86 [b0] [cloE,.row 1 (X.map I) (1+2*set.length)] (bs++intsE X) [mn,mx,md,m,neg01 neg] a2 (by simp) (n+(intsE X).length) (by simp[hn]) (by omega);have c86b:call Pg pol1 86 [.rf 1 1 0 0,.sl true [I mn,I mx,I md,I m,I (neg01 neg)]] (wrH [b0] (bs++intsE X) (n+(intsE X).length) [cloE,.row 1 (X.map I) (1+2*set.length)])=_:=(Fe (P:=Pg) (pol:=pol1) (f:=86) (l:=[.rf 1 1 0 0,.sl false ([mn,mx,md,m,neg01 neg].map I)]) (H1:=wrH [b0] (bs++intsE X) (n+(intsE X).length) [cloE,.row 1 (X.map I) (1+2*set.length)]) rfl rfl (by decide) (by
     simp only[frzArgs,show pol1.byref 86 0=true from rfl,show pol1.byref 86 (0+1)=false from rfl,false_eq_true,if_false,if_true];rfl) (AT _ _ _ rfl)).trans w2
    have w3:=wf83 [b0] [cloE,.row 1 (X.map I) (1+2*set.length)] (bs++intsE X++intsE [mn,mx,md,m,neg01 neg]) (kids.length:Int) ⟨by omega,by omega⟩ (n+(intsE X).length+(intsE [mn,mx,md,m,neg01 neg]).length) (by simp[hn,add_assoc]) (by omega);simp only[length_cons,length_nil,cons_append,List.nil_append,zero_add,Nat.reduceAdd]at c86 c86b w3;have hYl:(bs++intsE X++intsE [mn,mx,md,m,neg01 neg]++iE kids.length).length=n+(intsE X).length+(intsE [mn,mx,md,m,neg01 neg]).length+(iE kids.length).length:=by simp[hn,add_assoc]
    have hYb:n+(intsE X).length+(intsE [mn,mx,md,m,neg01 neg]).length+(iE kids.length).length<=n+90+20*set.length:=by omega
    have hfin:bs++(intsE X++intsE [mn,mx,md,m,neg01 neg]++iE kids.length++kidsE kids)=bs++intsE X++intsE [mn,mx,md,m,neg01 neg]++iE kids.length++kidsE kids:=by simp
    have hfin2:n+(intsE X++intsE [mn,mx,md,m,neg01 neg]++iE kids.length++kidsE kids).length=n+(intsE X).length+(intsE [mn,mx,md,m,neg01 neg]).length+(iE kids.length).length+(kidsE kids).length:=by simp[add_assoc]
    rw[hfin,hfin2];generalize bs++intsE X++intsE [mn,mx,md,m,neg01 neg]++iE kids.length=Y at *;generalize n+(intsE X).length+(intsE [mn,mx,md,m,neg01 neg]).length+(iE kids.length).length=q at *;simp +contextual -implicitDefEqProofs (disch:=omega) only[Tryz.f85,dd85,go_sem,simprocAttr,evAppend,mu85,↓AE,↓AC,↓AB,↓AA,c86,c86b,w3,d87];repeat' (first|intro _|apply And.intro|(unfold dOk;kernel_rfl)|exact St.beq_refl _|exact AQ|(show altO _ _ _ _=true;kernel_rfl)|(show (_||_)=true;kernel_rfl)|(show (_&&_)=true;kernel_rfl))
    have kapp:∀(a:List Re) (k:Re),kidsE (a++[k])=kidsE a++nodeE k:=fun a k=>by
     induction a with
     | nil=>simp[kidsE]
     | cons y a ih=>simp[kidsE,ih]
    have klen:∀ i,(kidsE (kids.take i)).length<=100*Re.wtL (kids.take i):=fun i=>by
     have:∀ l:List Re,(∀ k∈l,k∈kids)->(kidsE l).length<=100*Re.wtL l:=fun l=>by
      induction l with
      | nil=>intro _;simp[kidsE]
      | cons k l ih=>
        intro hl;have h1:=hnl k (hl k (by simp));have h2:=ih fun q hq=>hl q (mem_cons_of_mem _ hq);simp only[kidsE,length_append,Re.wtL];omega
     exact this _ fun k hk=>List.mem_of_mem_take hk
    have rt:∀(q':Nat) (Y':List Int),retPol pol1 85 [b0,.row 1 [.agg [.ms 2 1 n 0 n]] 0,.row 1 (bs.map B8) 0,cloE] (.tup []) [b0,.row 1 [.agg [.ms 2 1 q' 0 q']] 0,.row 1 (Y'.map B8) 0,cloE]=some (.tup [],[b0,.row 1 [.agg [.ms 2 1 q' 0 q']] 0,.row 1 (Y'.map B8) 0,cloE]):=fun q' Y'=>
     Am rfl rfl rfl (by simp only[keptOk,length_cons,length_nil,hb0 4,MB.beq_refl,Bool.or_true,Bool.true_and,Bool.and_true,Bool.true_or];simp[MB.under,AV.underL,AV.under,AD _ _ (Ba Y')]) rfl
    refine AY (M:=mskOf (pol1.mask 85) (pol1.gc 85) (pol1.acts 85) 4 10) (by rfl) kids.length (fun i=>(⟨78,[(66,I i),(65,I kids.length),(2,.rf 3 1 0 0),(0,.pt (nodeL op set kids mn mx md m neg))],[b0,.row 1 [.agg [.ms 2 1 (q+(kidsE (kids.take i)).length) 0 (q+(kidsE (kids.take i)).length)]] 0,.row 1 ((Y++kidsE (kids.take i)).map B8) 0,cloE]⟩:St)) (fun _=>True) ?_ ?_ trivial _ ?_
    ·intro i hi _;obtain⟨k,hk⟩:∃ k,kids[i]?=some k:=⟨_,getElem?_eq_getElem hi⟩;have hk':=At hk;have hlt:(i:Int)<(kids.length:Int):=by omega
     have hst:kidsE (kids.take (i+1))=kidsE (kids.take i)++nodeE k:=by rw[AZ hk,kapp]
     have hkl1:=klen i;have hwi:Re.wtL (kids.take i)+k.wt<=Re.wtL kids:=by
      have e:Re.wtL (kids.take (i+1))<=Re.wtL kids:=by
       conv=>rhs;rw[<- List.take_append_drop (i+1) kids,Re.wtL_app]
       omega
      rw[AZ hk,Re.wtL_app]at e
      simpa [Re.wtL] using e
     have ihk:=ih k (mem_of_getElem? hk) (Y++kidsE (kids.take i)) (q+(kidsE (kids.take i)).length) (by simp[hYl]) (by omega);rw[hst];have e2:Y++(kidsE (kids.take i)++nodeE k)=Y++kidsE (kids.take i)++nodeE k:=by simp
     have e3:q+(kidsE (kids.take i)++nodeE k).length=q+(kidsE (kids.take i)).length+(nodeE k).length:=by simp[add_assoc]
     rw[e2,e3];generalize Y++kidsE (kids.take i)=Z at *;generalize q+(kidsE (kids.take i)).length=z at *;simp +contextual -implicitDefEqProofs (disch:=omega) only[Tryz.f85,dd85,go_sem,simprocAttr,evAppend,mu85,↓AE,↓AC,↓AB,↓AA,hk',hlt,ihk,AK,AJ,AP];repeat' (first|intro _|apply And.intro|(unfold dOk;kernel_rfl)|exact St.beq_refl _|exact AQ|(show altO _ _ _ _=true;kernel_rfl)|(show (_||_)=true;kernel_rfl)|(show (_&&_)=true;kernel_rfl))
     generalize Z++nodeE k=Z2;exact AN (n:=4) rfl rfl (by rfl) (by rfl) (by simp[AV.underL,AV.under,AD _ _ (AF set),AD _ _ (AH kids)]) (by simp only[all_cons,all_nil,hb0 4,Bool.true_and,Bool.and_true];simp[MB.under,AV.underL,AV.under,AD _ _ (Ba Z2)])
    ·intro _;rw[take_length];simp +contextual -implicitDefEqProofs (disch:=omega) only[Tryz.f85,dd85,go_sem,simprocAttr,evAppend,mu85,↓AE,↓AC,↓AB,↓AA];exact rt _ _
    ·rw[show kidsE (kids.take 0)=[] by simp[kidsE],List.append_nil,length_nil,Nat.add_zero];exact AN (n:=4) rfl rfl (by rfl) (by rfl) (by simp[AV.underL,AV.under,AD _ _ (AF set),AD _ _ (AH kids)]) (by simp only[all_cons,all_nil,hb0 4,Bool.true_and,Bool.and_true];simp[MB.under,AV.underL,AV.under,AD _ _ (Ba Y)])
   ·rw[hIop];exact AN (n:=5) rfl rfl (by rfl) (by rfl) (by simp[AV.underL,AV.under,AD _ _ (AF set),AD _ _ (AH kids)]) (by simp only[all_cons,all_nil,hb0 5,Bool.true_and,Bool.and_true];simp[MB.under,AV.underL,AV.under,AD _ _ (Ba bs)])
theorem d53 (r:Re) (hw:r.wt<=100000) (hN:NF r) (H:List MB):call Pg pol1 53 [patAV ⟨r,0,false⟩] H=some (.sl false ((nameE r).map B8),H):=by
 have hl8:=AK r;have hpl:=Av ⟨r,0,false⟩;have hz:fz (.rf 0 1 0 0) [.row 10 [.agg (reC r++[I 0,.bool false])] 0]=some (.pt (reC r++[I 0,.bool false]),[.row 10 [.agg (reC r++[I 0,.bool false])] 1]):=
  F0 (x:=.agg (reC r++[I 0,.bool false])) (k:=10) (z:=0) rfl rfl rfl hpl
 have hget8:(reC r++[I 0,.bool false])[8]?=some (I 0):=by rw[getElem?_append_right (by omega),hl8];rfl
 have hget9:(reC r++[I 0,.bool false])[9]?=some (.bool false):=by rw[getElem?_append_right (by omega),hl8];rfl
 have hall:=AP r;have htk8:∀ l,List.take 8 (reC r++l)=reC r:=fun l=>by
  rw[List.take_append_of_le_length (by omega)];exact take_of_length_le (by omega)
 have hnl:=Ic _ r (le_refl _) (by omega) hN;obtain⟨b0,hb0⟩:∃ b0:MB,b0=.row 10 [.agg (reC r++[I 0,.bool false])] 1:=⟨_,rfl⟩;have hpb:plB b0:=by rw[hb0];exact Aa (by simpa [AV.plainL,AV.plain] using hpl)
 have w1:=wf83 [b0] [] [] 0 ⟨by omega,by omega⟩ 0 rfl (by omega);have w2:=wf84 [b0] [] (iE 0) false (iE 0).length rfl (by have:=FI (v:=0) ⟨by omega,by omega⟩;omega);have w3:=d85 b0 hpb _ r (le_refl _) (by omega) hN (iE 0++boolE false) ((iE 0).length+1) (by simp[boolE]) (by have:=FI (v:=0) ⟨by omega,by omega⟩;omega);have w4:=wf88 [b0] [cloE] (nameE r) (nameE r).length rfl (by have:=FI (v:=0) ⟨by omega,by omega⟩;simp[nameE,boolE];omega) (by
  intro h;have:=congrArg List.length h;simp[nameE,boolE]at this)
 have hname:iE 0++boolE false++nodeE r=nameE r:=rfl;have hnamel:(iE 0).length+1+(nodeE r).length=(nameE r).length:=by simp[nameE,boolE];omega
 rw[hname,hnamel]at w3;simp only[length_cons,length_nil,cons_append,List.nil_append,zero_add,Nat.reduceAdd,map_nil]at w1 w2 w4;rw[hb0]at w1 w2 w3 w4;refine AR Tryz.func53 rfl rfl rfl rfl rfl rfl (fun _=>rfl) (by simp only[AV.plainL,AV.plain,Bool.and_true];exact hpl) (by simp[AV.plain,Ba]) ?_ H;generalize nameE r=nm at *;simp +contextual -implicitDefEqProofs (disch:=omega) only[Tryz.f53,dd53,go_sem,simprocAttr,evAppend,mu53,↓AE,↓AC,↓AB,↓AA,hz,hl8,hget8,hget9,htk8,hall,w1,w2,w3,w4,lookD,look,List.all_append];exact fzEq (by simp[AV.plain,Ba]) rfl
end
section
attribute [local go_sem] evAppend evBin map_append
def nameS (r:Re):ByteArray:=strB (nameE r)
theorem MH {x y:Int} (hx:0<=x/\x<256) (hy:0<=y/\y<256) (h:UInt8.ofNat x.toNat=UInt8.ofNat y.toNat):x=y:=by
 have:=congrArg UInt8.toNat h;simp only[UInt8.toNat_ofNat']at this;omega
theorem OS:∀ {a b:List Int},(∀ x∈a,0<=x/\x<256)->(∀ x∈b,0<=x/\x<256)->strB a=strB b->a=b:=fun {a b} ha hb h=>by
 unfold strB at h;have h1:(a.map fun n=>UInt8.ofNat n.toNat)=b.map fun n=>UInt8.ofNat n.toNat:=by
  have:=congrArg ByteArray.data h
  simpa using congrArg Array.toList this
 clear h
 induction a generalizing b with
 | nil=>cases b with
   | nil=>rfl
   | cons y b=>simp at h1
 | cons x a ih=>cases b with
   | nil=>simp at h1
   | cons y b=>
     simp only[map_cons,List.cons.injEq]at h1;rw[MH (ha x (by simp)) (hb y (by simp)) h1.1,ih (fun q hq=>ha q (mem_cons_of_mem _ hq)) (fun q hq=>hb q (mem_cons_of_mem _ hq)) h1.2]
theorem G6 (l:List Int):∀ x∈intsE l,0<=x/\x<256:=fun x hx=>by
 unfold intsE at hx;rcases mem_append.1 hx with h|h
 ·exact GG _ x h
 ·obtain⟨y,_,h⟩:=List.mem_flatMap.1 h;exact GG _ x h
mutual
theorem Gs:∀ r:Re,∀ x∈nodeE r,0<=x/\x<256
 | .mk op set kids mn mx md n neg=>fun x hx=>by
   simp only[nodeE,append_assoc]at hx;rcases mem_append.1 hx with h|h
   ·exact G6 _ x h
   ·rcases mem_append.1 h with h|h
    ·exact G6 _ x h
    ·rcases mem_append.1 h with h|h
     ·exact GG _ x h
     ·exact G1 kids x h
theorem G1:∀ l:List Re,∀ x∈kidsE l,0<=x/\x<256
 | []=>fun x hx=>by simp[kidsE]at hx
 | k::l=>fun x hx=>by
   simp only[kidsE]at hx;rcases mem_append.1 hx with h|h
   ·exact Gs k x h
   ·exact G1 l x h
end
theorem Gu (r:Re):∀ x∈nameE r,0<=x/\x<256:=fun x hx=>by
 unfold nameE at hx;rcases mem_append.1 hx with h|h
 ·rcases mem_append.1 h with h|h
  ·exact GG _ x h
  ·simp[boolE]at h;subst h;omega
 ·exact Gs r x h
theorem Ie {a b:Re} (h:nameS a=nameS b):a=b:=NM (OS (Gu a) (Gu b) h)
theorem Dp:∀ l:List Int,bytesOf (l.map B8)=some l
 | []=>rfl
 | x::l=>by simp[bytesOf,Dp l]
def entN:List Re->Nat->List (AV×AV)
 | [],_=>[]
 | t::l,i=>(.str (nameS t),I i)::entN l (i+1)
theorem Mr {a b:ByteArray}:AV.beq (.str a) (.str b)=decide (a=b):=by simp[AV.beq]
theorem RU (t:Re):∀(l:List Re) (i:Nat),(∃ k:Nat,l[k]?=some t/\findMp (.str (nameS t)) (entN l i)=some (I ((i+k:Nat):Int)))∨(t ∉ l/\findMp (.str (nameS t)) (entN l i)=none)
 | [],i=>.inr ⟨by simp,rfl⟩
 | x::l,i=>by
   simp only[entN,findMp,Mr];by_cases h:x=t
   ·subst h;exact .inl ⟨0,rfl,by simp⟩
   ·have hn:¬ nameS x=nameS t:=fun e=>h (Ie e);rw[if_neg (by simpa using hn)];rcases RU t l (i+1) with ⟨k,h1,h2⟩|⟨h1,h2⟩
    ·exact .inl ⟨k+1,by simpa using h1,by rw[h2];congr 2;omega⟩
    ·exact .inr ⟨by simp[h1,Ne.symm h],h2⟩
theorem updN (t:Re):∀(l:List Re) (i:Nat),t ∉ l->updMp (.str (nameS t)) (I ((i+l.length:Nat):Int)) (entN l i)=entN (l++[t]) i
 | [],i,_=>rfl
 | x::l,i,h=>by
   have hx:¬ x=t:=fun e=>h (by simp[e]);have hn:¬ nameS x=nameS t:=fun e=>hx (Ie e);have ih:=updN t l (i+1) fun g=>h (by simp[g]);simp only[entN,updMp,Mr,cons_append];rw[if_neg (by simpa using hn)];rw[show i+(x::l).length=i+1+l.length by simp;omega,ih]
end
section
attribute [local go_sem] evBin
theorem Im (n:Nat) (K:List MB):∀(H H':List MB),H'.length=H.length->(∀(i:Nat) (b:MB),H'[i]?=some b->H[i]?=some b∨MB.under n b=true)->keptOk n H (H'++K)=true
 | [],[],_,_=>by cases K<;>rfl
 | [],_::_,h,_=>by simp at h
 | _::_,[],h,_=>by simp at h
 | x::H,y::H',hl,h=>by
   have h0:=h 0 y rfl;have ih:=Im n K H H' (by simpa using hl) fun i b hb=>h (i+1) b (by simpa using hb);simp only[cons_append,keptOk,ih,Bool.and_true,or_eq_true];rcases h0 with e|e
   ·simp at e;subst e;exact .inr (MB.beq_refl _)
   ·exact .inl e
structure StH (S L M:Nat) (ts:List Re) (H:List MB):Prop where
 s:H[S]?=some (.row 2 [.agg [.ms L 8 ts.length 0 ts.length,.mpr M]] 0)
 l:H[L]?=some (.row 8 (ts.map reAV) 0)
 m:H[M]?=some (.mp .str (entN ts 0))
 sl:S≠L
 sm:S≠M
 lm:L≠M
def addS (S L M:Nat) (ts:List Re) (t:Re) (H:List MB):List MB:=((H.set M (.mp .str (entN (ts++[t]) 0))).set L (.row 8 ((ts++[t]).map reAV) 0)).set S (.row 2 [.agg [.ms L 8 (ts++[t]).length 0 (ts++[t]).length,.mpr M]] 0)
theorem StH.add {S L M:Nat}{ts:List Re}{H:List MB} (h:StH S L M ts H) (t:Re):StH S L M (ts++[t]) (addS S L M ts t H):=by
 have l1:=(List.getElem?_eq_some_iff.1 h.s).1;have l2:=(List.getElem?_eq_some_iff.1 h.l).1;have l3:=(List.getElem?_eq_some_iff.1 h.m).1;refine⟨?_,?_,?_,h.sl,h.sm,h.lm⟩
 ·unfold addS;rw[getElem?_set_self (by simpa using l1)]
 ·unfold addS;rw[getElem?_set_ne h.sl,getElem?_set_self (by simpa using l2)]
 ·unfold addS;rw[getElem?_set_ne h.sm,getElem?_set_ne h.lm,getElem?_set_self l3]
theorem Rw {H:List MB}{i n:Nat}{rs:List Re} (hi:getRow H i=some (8,rs.map reAV,0)) (hn:rs.length=n) (hr:n+1<=4000000000) :
  evAppend Pg H 24 24 (.ms i 8 n 0 n) (.sl true [zeR])=some (.ms i 8 (n+1) 0 (n+1),H.set i (.row 8 (rs.map reAV++[zeR]) 0)):=by
 rw[Ai (e:=26) (by kernel_rfl) (by kernel_rfl) (k:=8) (by kernel_rfl) (by_:=96) (by kernel_rfl) (ze:=zeR) (by kernel_rfl) rfl (by omega) (ys:=[zeR]) rfl rfl hi (by rw[length_map];exact hn) (zero_le _) (Ae (by simpa using hr) (by omega))];rfl
theorem Q1 {S L M:Nat}{ts:List Re}{H:List MB} (h:StH S L M ts H) {t:Re} (hw:t.wt<=100000) (hN:NF t) {k:Nat} (hf:findMp (.str (nameS t)) (entN ts 0)=some (I (k:Int))) :
  call Pg pol1 28 [.rf S 1 0 0,reAV t] H=some (I k,H):=by
 have hfr:frzArgs pol1 28 0 [.rf S 1 0 0,reAV t] H=some ([.rf S 1 0 0,reAV t],H):=AT _ _ _ (by simp only[mixOk,show pol1.byref 28 0=true from rfl,AU,Bool.true_or,Bool.or_true,Bool.and_self]);refine AX (pol:=pol1) Tryz.func28 rfl rfl rfl rfl hfr ?_;have l1:=(List.getElem?_eq_some_iff.1 h.s).1;have l3:=(List.getElem?_eq_some_iff.1 h.m).1;have g1:=fun x:MB=>(getElem?_append_left (l₂:=[x]) l1).trans h.s;have g2:=fun x:MB=>(getElem?_append_left (l₂:=[x]) l3).trans h.m;have g3:=fun x:MB=>Bt H x;have h53:=d53 t hw hN;have hby:=Dp (nameE t);have hf':findMp (.str (strB (nameE t))) (entN ts 0)=some (I (k:Int)):=hf;generalize nameE t=nm at *;simp +contextual -implicitDefEqProofs (disch:=omega) only[Tryz.f28,dd28,go_sem,simprocAttr,evAppend,map_append,mu28,↓AE,↓AC,↓AB,↓AA,g1,g2,g3,h53,hby,hf',AK,AJ,AP]
 first|exact⟨by kernel_rfl,Am rfl rfl rfl (BO _ _ _) (by simp)⟩|exact Am rfl rfl rfl (BO _ _ _) (by simp)
theorem Ce (n:Nat):∀(l:List Re) (i:Nat),MB.underE n (entN l i)=true
 | [],_=>rfl
 | t::l,i=>by simp[entN,MB.underE,AV.under,Ce n l (i+1)]
theorem Mo {S L M:Nat}{ts:List Re}{H:List MB} (h:StH S L M ts H) {t:Re} (hw:t.wt<=100000) (hN:NF t) (hl:ts.length<=100000) (ht:t ∉ ts) (hf:findMp (.str (nameS t)) (entN ts 0)=none) :
  call Pg pol1 28 [.rf S 1 0 0,reAV t] H=some (I ts.length,addS S L M ts t H):=by
 have hfr:frzArgs pol1 28 0 [.rf S 1 0 0,reAV t] H=some ([.rf S 1 0 0,reAV t],H):=AT _ _ _ (by simp only[mixOk,show pol1.byref 28 0=true from rfl,AU,Bool.true_or,Bool.or_true,Bool.and_self]);refine AX (pol:=pol1) Tryz.func28 rfl rfl rfl rfl hfr ?_;have l1:=(List.getElem?_eq_some_iff.1 h.s).1;have l2:=(List.getElem?_eq_some_iff.1 h.l).1;have l3:=(List.getElem?_eq_some_iff.1 h.m).1;have g1:=fun x:MB=>(getElem?_append_left (l₂:=[x]) l1).trans h.s;have g2:=fun x:MB=>(getElem?_append_left (l₂:=[x]) l3).trans h.m;have g3:=fun x:MB=>Bt H x;have h53:=d53 t hw hN;have hby:=Dp (nameE t);have hf':findMp (.str (strB (nameE t))) (entN ts 0)=none:=hf;have hup:updMp (.str (strB (nameE t))) (I (ts.length:Int)) (entN ts 0)=entN (ts++[t]) 0:=by
  have:=updN t ts 0 ht
  rwa [zero_add]at this
 generalize nameE t=nm at *;obtain⟨H1,hH1⟩:∃ H1,H.set M (.mp .str (entN (ts++[t]) 0))=H1:=⟨_,rfl⟩;obtain⟨H2,hH2⟩:∃ H2,H1.set L (.row 8 ((ts++[t]).map reAV) 0)=H2:=⟨_,rfl⟩;have hfin:addS S L M ts t H=H2.set S (.row 2 [.agg [.ms L 8 (ts.length+1) 0 (ts.length+1),.mpr M]] 0):=by
  unfold addS;rw[hH1,hH2,length_append];rfl
 have hl1:H1.length=H.length:=by rw[<- hH1,List.length_set]
 have hl2:H2.length=H.length:=by rw[<- hH2,List.length_set,hl1]
 have s1:∀ x:MB,(H++[x]).set M (.mp .str (entN (ts++[t]) 0))=H1++[x]:=fun x=>by rw[<- hH1];exact List.set_append_left _ _ l3
 have q1:∀ x:MB,(H1++[x])[S]?=some (.row 2 [.agg [.ms L 8 ts.length 0 ts.length,.mpr M]] 0):=fun x=>by
  rw[getElem?_append_left (by omega),<- hH1,getElem?_set_ne (Ne.symm h.sm)];exact h.s
 have q2:∀ x:MB,(H1++[x])[L]?=some (.row 8 (ts.map reAV) 0):=fun x=>by
  rw[getElem?_append_left (by omega),<- hH1,getElem?_set_ne (Ne.symm h.lm)];exact h.l
 have q3:∀ x:MB,(H1++[x])[H.length]?=some x:=fun x=>by rw[<- hl1];exact Bt H1 x
 have s2:∀ x:MB,(H1++[x]).set L (.row 8 ((ts++[t]).map reAV) 0)=H2++[x]:=fun x=>by rw[<- hH2];exact List.set_append_left _ _ (by omega)
 have r1:∀ x:MB,(H2++[x])[S]?=some (.row 2 [.agg [.ms L 8 ts.length 0 ts.length,.mpr M]] 0):=fun x=>by
  rw[getElem?_append_left (by omega),<- hH2,getElem?_set_ne (Ne.symm h.sl),<- hH1,getElem?_set_ne (Ne.symm h.sm)];exact h.s
 have r3:∀ x:MB,(H2++[x])[H.length]?=some x:=fun x=>by rw[<- hl2];exact Bt H2 x
 have s3:∀ x y:MB,(H2++[x]).set S y=H2.set S y++[x]:=fun x y=>List.set_append_left _ _ (by omega);have a1:=fun x:MB=>Rw (H:=H1++[x]) (i:=L) (n:=ts.length) (rs:=ts) (by unfold getRow;rw[q2]) rfl (by omega);have hL1:L<H1.length:=by omega
 have q4:∀ x y:MB,((H1++[x]).set L y)[L]?=some y:=fun x y=>getElem?_set_self (by simp;omega);have e1:(ts.map reAV++[zeR])[ts.length]?=some zeR:=by
  rw[getElem?_append_right (by simp),length_map,Nat.sub_self];rfl
 have e2:(ts.map reAV++[zeR]).length=ts.length+1:=by simp
 have e3:(ts.map reAV++[zeR]).set ts.length (reAV t)=(ts++[t]).map reAV:=by
  rw[List.set_append_right _ _ (by simp),length_map,Nat.sub_self,map_append];rfl
 generalize ts.map reAV++[zeR]=E at *;have sat:∀(i:Nat) (A B:List MB) (x:MB),A[i]?=some x->B[i]?=some x->sameAt i A B=true:=fun i A B x h1 h2=>by
  unfold sameAt;rw[h1,h2];exact MB.beq_refl _
 have q5:∀ x y:MB,((H1++[x]).set L y)[S]?=some (.row 2 [.agg [.ms L 8 ts.length 0 ts.length,.mpr M]] 0):=fun x y=>by
  rw[getElem?_set_ne (Ne.symm h.sl)];exact q1 x
 have q6:∀ x y:MB,((H1++[x]).set L y)[H.length]?=some x:=fun x y=>by
  rw[getElem?_set_ne (by omega)];exact q3 x
 have c1:∀ x y:MB,sameAt S (H1++[x]) ((H1++[x]).set L y)=true:=fun x y=>sat _ _ _ _ (q1 x) (q5 x y);have c2:∀ x y:MB,sameAt S ((H1++[x]).set L y) (H2++[x])=true:=fun x y=>sat _ _ _ _ (q5 x y) (r1 x);have c3:∀ x y:MB,sameAt H.length (H1++[x]) ((H1++[x]).set L y)=true:=fun x y=>sat _ _ _ _ (q3 x) (q6 x y);have c4:∀ x y:MB,sameAt H.length ((H1++[x]).set L y) (H2++[x])=true:=fun x y=>sat _ _ _ _ (q6 x y) (r3 x);have c5:∀ x y:MB,sameAt H.length (H2++[x]) (H2.set S y++[x])=true:=fun x y=>sat _ _ _ _ (r3 x) (by rw[getElem?_append_right (by simp[hl2])];simp[hl2]);have c6:∀ x y:MB,sameAt L (H2++[x]) (H2.set S y++[x])=true:=fun x y=>by
  have hL2:L<H2.length:=by omega
  refine sat _ _ _ H2[L] ?_ ?_
  ·rw[getElem?_append_left hL2,getElem?_eq_getElem hL2]
  ·rw[getElem?_append_left (by simpa using hL2),getElem?_set_ne h.sl,getElem?_eq_getElem hL2]
 have b1:(S==L)=false:=beq_eq_false_iff_ne.2 h.sl;have b2:(L==S)=false:=beq_eq_false_iff_ne.2 (Ne.symm h.sl);have b3:(H.length==L)=false:=beq_eq_false_iff_ne.2 (by omega);have b4:(H.length==S)=false:=beq_eq_false_iff_ne.2 (by omega);simp +contextual -implicitDefEqProofs (disch:=omega) only[Tryz.f28,dd28,go_sem,simprocAttr,mu28,↓AE,↓AC,↓AB,↓AA,g1,g2,g3,h53,hby,hf',hup,s1,q1,q2,q3,a1,q4,e1,e2,e3,List.set_set,s2,r1,r3,s3,c1,c2,c3,c4,c5,c6,b1,b2,b3,b4,AK,AJ,AP]
 first|refine⟨by kernel_rfl,by unfold dOk;kernel_rfl,?_,?_⟩|refine⟨by unfold dOk;kernel_rfl,?_,?_⟩
 ·have o:∀ a b c d:Bool,a=true->c=true->d=true->((a||b)&&(c&&d))=true:=by simp
  exact o _ _ _ _ (by kernel_rfl) (by kernel_rfl) (by kernel_rfl)
 ·rw[hfin];refine Am rfl rfl rfl (Im _ _ _ _ (by simp[hl2]) fun i b hb=>?_) ?_
  ·by_cases iS:S=i
   ·subst iS;rw[getElem?_set_self (by omega)]at hb;obtain rfl:=Option.some.inj hb;right;simp[MB.under,AV.underL,AV.under];omega
   ·rw[getElem?_set_ne iS,<- hH2]at hb;by_cases iL:L=i
    ·subst iL;rw[getElem?_set_self (by omega)]at hb;obtain rfl:=Option.some.inj hb;right;exact AD _ _ (AH _)
    ·rw[getElem?_set_ne iL,<- hH1]at hb;by_cases iM:M=i
     ·subst iM;rw[getElem?_set_self (by omega)]at hb;obtain rfl:=Option.some.inj hb;right;exact Ce _ _ _
     ·rw[getElem?_set_ne iM]at hb;exact .inl hb
  ·rw[List.take_append_of_le_length (by simp[hl2]),take_of_length_le (by simp[hl2])]
end
end Go.Ev
namespace Go.Ev
theorem OX:∀ {l:List (Int×Int)},(∀ p∈l,p.1<=p.2)->(∀(i:Nat) (p q:Int×Int),l[i]?=some p->l[i+1]?=some q->p.2+2<=q.1)->l.Pairwise fun p q=>p.2+2<=q.1
 | [],_,_=>.nil
 | [x],_,_=>by simp
 | x::y::l,hv,h=>by
   have h1:=h 0 x y rfl rfl;have ih:=OX (l:=y::l) (fun p hp=>hv p (mem_cons_of_mem _ hp)) fun i p q hp hq=>h (i+1) p q (by simpa using hp) (by simpa using hq);refine List.pairwise_cons.2 ⟨fun z hz=>?_,ih⟩;rcases mem_cons.1 hz with rfl|hz
   ·exact h1
   ·have a:=(List.pairwise_cons.1 ih).1 z hz;have b:=hv y (by simp);omega
theorem Py {s:List (Int×Int)}{top:Int} (h:spansG s top=true) (ht:top<=1114111):SetN s:=by
 simp only[spansG,and_eq_true,decide_eq_true_eq,Bool.not_eq_true']at h;obtain⟨hl,hb⟩:=h;rw[List.any_eq_false]at hb;have hb':∀ k,k<s.length->badS s top k=false:=fun k hk=>by simpa using hb k (List.mem_range.2 hk)
 have hg:∀(k:Nat) (p:Int×Int),s[k]?=some p->0<=p.1/\p.1<=p.2/\p.2<=top:=fun k p hp=>J7 hp (hb' k (List.getElem?_eq_some_iff.1 hp).1);refine⟨OX (fun p hp=>?_) fun i p q hp hq=>?_,fun p hp=>?_,hl⟩
 ·obtain⟨k,hk⟩:=List.getElem?_of_mem hp;exact(hg k p hk).2.1
 ·have h1:=hg (i+1) q hq;have h2:=Fh (top:=top) hq hp (by omega);rw[hb' (i+1) (List.getElem?_eq_some_iff.1 hq).1]at h2;have:=of_decide_eq_false h2.symm;omega
 ·obtain⟨k,hk⟩:=List.getElem?_of_mem hp;have:=hg k p hk;exact⟨this.1,this.2.1,by omega⟩
theorem SR {caps top:Int} (ht:top<=1114111):∀(N:Nat) (t:Re),t.wt<=N->wholeG caps top t=true->regG t=true->OkD t:=by
 intro N
 induction N with
 | zero=>intro t h;have:=t.wt_pos;omega
 | succ N ihN=>
   intro t h hw hr;obtain⟨op,set,kids,mn,mx,md,n,neg⟩:=t;have hwt:1+set.length+Re.wtL kids=(Re.mk op set kids mn mx md n neg).wt:=by simp[Re.wt]
   rw[wholeG,and_eq_true,CC]at hw;obtain⟨hf,hk⟩:=hw;rw[regG,and_eq_true,Gb]at hr;obtain⟨hr1,hr2⟩:=hr;have hrk:∀ k∈kids,regG k=true:=fun k hk=>by
    have h2:(kids.any fun k=>!regG k)=false:=by simpa using hr2
    have:=List.any_eq_false.1 h2 k hk
    simpa using this
   have ih:∀ k∈kids,OkD k:=fun k hk'=>ihN k (by have:=Re.wtL_mem hk';omega) (hk k hk') (hrk k hk');simp only[formedG,and_eq_true,decide_eq_true_eq]at hf;obtain⟨⟨⟨⟨⟨⟨f1,f2⟩,f3⟩,f4⟩,f5⟩,f6⟩,f7⟩:=hf;have hneg:∀(h7:op≠7) (h8:op≠8),neg=false:=fun h7 h8=>by
    cases neg with
    | false=>rfl
    | true=>simp[h7,h8]at f7
   have hset:op≠1->set=[]:=fun h1=>by
    rw[if_neg h1]at f4;exact List.length_eq_zero_iff.1 (by simpa using f4)
   have hmm:op≠4->mn=0/\mx=0/\md=0:=fun h4=>by
    rw[if_neg h4]at f5
    simpa [and_eq_true,and_assoc] using f5
   have hops:op=0∨op=1∨op=2∨op=3∨op=4∨op=5:=by
    simp only[or_eq_true,decide_eq_true_eq,and_eq_true]at hr1;omega
   rcases hops with rfl|rfl|rfl|rfl|rfl|rfl
   ·obtain⟨rfl,rfl,rfl⟩:=hmm (by omega);obtain rfl:=hset (by omega);obtain rfl:=hneg (by omega) (by omega);have hk0:kids=[]:=List.length_eq_zero_iff.1 (by simpa [kidsG] using f3);have hn:n=0:=by simpa using f6
    subst hk0;subst hn;exact .empty
   ·obtain⟨rfl,rfl,rfl⟩:=hmm (by omega);obtain rfl:=hneg (by omega) (by omega);have hk0:kids=[]:=List.length_eq_zero_iff.1 (by simpa [kidsG] using f3);have hn:n=0:=by simpa using f6
    subst hk0;subst hn;rw[if_pos rfl]at f4;exact .set set (Py f4 ht)
   ·obtain⟨rfl,rfl,rfl⟩:=hmm (by omega);obtain rfl:=hset (by omega);obtain rfl:=hneg (by omega) (by omega);have hn:n=0:=by simpa using f6
    subst hn;exact .cat kids ih
   ·obtain⟨rfl,rfl,rfl⟩:=hmm (by omega);obtain rfl:=hset (by omega);obtain rfl:=hneg (by omega) (by omega);have hn:n=0:=by simpa using f6
    subst hn;exact .alt kids ih
   ·obtain rfl:=hset (by omega);obtain rfl:=hneg (by omega) (by omega);have hn:n=0:=by simpa using f6
    have hk1:kids.length=1:=by simpa [kidsG] using f3
    obtain⟨k,rfl⟩:=List.length_eq_one_iff.1 hk1;subst hn;rw[if_pos rfl]at f5;simp only[repG,and_eq_true,decide_eq_true_eq,or_eq_true,beq_iff_eq]at f5;obtain⟨⟨⟨⟨g1,g2⟩,g3⟩,g4⟩,g5⟩:=f5;refine .rep k mn mx md (ih k (by simp)) ⟨g1,g2⟩ ?_;rcases g5 with e|⟨⟨e1,e2⟩,e3⟩
    ·exact .inl e
    ·exact .inr ⟨e1,e2,e3⟩
   ·obtain⟨rfl,rfl,rfl⟩:=hmm (by omega);obtain rfl:=hset (by omega);obtain rfl:=hneg (by omega) (by omega);have hk1:kids.length=1:=by simpa [kidsG] using f3
    obtain⟨k,rfl⟩:=List.length_eq_one_iff.1 hk1;exact .cap k n (ih k (by simp))
end Go.Ev
namespace Go.Ev
attribute [local go_sem] AV.cells Ax A8 bndO bnd evEq eqCells not_false_eq_true not_true_eq_false toList_some Array.size_empty length_append tySzE List.head?_drop Nat.mul_one Aj Aq Ag Ak Al Ae
section
attribute [local go_sem] evAppend evBin map_append
theorem J3 {p:Pat} (h:chkP p=0):OkD p.re/\p.re.size<=256/\wholeG p.caps (topI p.runes) p.re=true:=by
 unfold chkP at h;split at h
 ·rename_i h1;exact absurd h h1
 ·rename_i h1;split at h
  ·rename_i hr;have hv:validP p=0:=by simpa using h1
   unfold validP at hv;split at hv
   ·cases hv
   ·rename_i h2;split at hv
    ·cases hv
    ·rename_i h3;simp only[not_or]at h3;have hwg:wholeG p.caps (topI p.runes) p.re=true:=by simpa using h3.2.2
     exact⟨SR (Eg _) _ p.re (le_refl _) hwg hr,by omega,hwg⟩
  ·cases h
end
end Go.Ev
