/- What functions of the program compute; no further conditions. -/
import Derived.Test.YtkolcijbdendhaaGreatF21
set_option linter.unusedVariables false
set_option linter.unusedSimpArgs false
open List (append_assoc cons_append getElem?_append_left getElem?_eq_getElem getElem?_set_self length_map map_append map_cons map_nil map_take mem_map mem_of_getElem? mem_singleton nil_append set_cons_succ take_length take_of_length_le)
open Nat (le_refl zero_le)
open Go.Proofs Go.RowKit Go.IntWalk
set_option maxHeartbeats 4000000
set_option maxRecDepth 100000
namespace Go.Ev
attribute [local go_sem] evBin AV.cells Ax A8 bndO bnd evEq eqCells not_false_eq_true not_true_eq_false toList_some Array.size_empty List.length_append tySzE List.head?_drop Nat.mul_one Aj Aq Ag Ak Al Ae
section
theorem B1 {l:List Re}{i:Nat}{k:Re} (h:l[i]?=some k):badRL (l.take (i+1))=(badRL (l.take i)||badR k):=by
 rw[AZ h,CO,CO,List.any_append];simp
theorem OkD.kids {op:Int}{set:List (Int×Int)}{kids:List Re}{mn mx md n:Int}{neg:Bool} (h:OkD (.mk op set kids mn mx md n neg)):∀ k∈kids,OkD k:=by
 cases h with
 | empty=>intro k hk;cases hk
 | set s h=>intro k hk;cases hk
 | cat kids h=>exact h
 | alt kids h=>exact h
 | rep k mn mx md h h1 h2=>intro q hq;rw[mem_singleton.1 hq];exact h
 | cap k n h=>intro q hq;rw[mem_singleton.1 hq];exact h
theorem Ow (s:List (Int×Int)):nf (setR s)=setR s:=by simp[nf,formN]
theorem Oz (kids:List Re):nf (.mk 2 [] kids 0 0 0 0 false)=catR (flatR 2 (kids.map nf)):=by simp[nf,formN,Be]
theorem O1 (kids:List Re):nf (.mk 3 [] kids 0 0 0 0 false)=altR (flatR 3 (kids.map nf)):=by simp[nf,formN,Be]
theorem Ox (k:Re) (mn mx md:Int):nf (.mk 4 [] [k] mn mx md 0 false)=repR mn mx (nf k):=by simp[nf,formN,nfL]
theorem O0 (k:Re) (n:Int):nf (.mk 5 [] [k] 0 0 0 n false)=nf k:=by simp[nf,formN,nfL]
theorem Ms (s:List (Int×Int)):badR (setR s)=false:=by simp[badR,badRL]
theorem JI:badR emptyR=false:=by simp[badR,badRL]
theorem Mv (kids:List Re):badR (.mk 2 [] kids 0 0 0 0 false)=badRL kids:=by simp[badR]
theorem Mx (kids:List Re):badR (.mk 3 [] kids 0 0 0 0 false)=(badRL kids||altBad (flatR 3 (kids.map nf))):=by simp[badR,Be]
theorem Mt (k:Re) (mn mx md:Int):badR (.mk 4 [] [k] mn mx md 0 false)=badRL [k]:=by simp[badR]
theorem Mw (k:Re) (n:Int):badR (.mk 5 [] [k] 0 0 0 n false)=badRL [k]:=by simp[badR]
theorem Mu:badRL []=false:=by simp[badRL]
theorem Fe {P:Program}{pol:Pol}{f:Nat}{args l:List AV}{H H1:List MB} (hp:pol.pure f=false) (he:pol.ext f=none) (hy:f≠yldF) (h:frzArgs pol f 0 args H=some (l,H1)) (h2:frzArgs pol f 0 l H1=some (l,H1)) :
  call P pol f args H=call P pol f l H1:=by
 rw[BR,BR];unfold evStep;rw[if_neg (by simp[hp]),if_neg hy,if_neg (by simp[hp]),if_neg hy];unfold evBody;simp only[he,h,h2]
theorem NC {pol:Pol}{f:Nat}{H1 H H2 H':List MB}{r r':AV} (hk:pol.keep f=false) (ho:pol.own f=false) (hz:fz r H=some (r',H2)) (hr:AV.plain r' = true) (h:keptOk H1.length H1 H2=true) (hh:H2.take H1.length=H') :
  retPol pol f H1 r H=some (r',H'):=by
 unfold retPol;simp only[hk,ho,Bool.false_eq_true,if_false,hz,AI _ r' hr,h,and_self,if_true,hh]
theorem RT {op a b c d:Int}{l:List (Int×Int)}{g t u:Bool}{H:List MB}:fz (.agg [I op,.sl t (l.map spanAV),.sl u [],I a,I b,I c,I d,.bool g]) H=some (.agg [I op,.sl false (l.map spanAV),.sl false [],I a,I b,I c,I d,.bool g],H):=by
 have h:=AF l;simp only[fz,fzA,fzL,fzJ,A9 _ _ _ h]
theorem c78 (l:List (Int×Int)) (hl:l.length<=1000000000) (b:MB) (G K:List MB):call Pg pol1 78 [.sl false (l.map spanAV)] (G++b::K)=some (.sl false (l.map spanAV),G++b::K):=by
 rw[BR];unfold evStep;rw[if_neg (show ¬ pol1.pure 78=true by decide)];have ha:((l.map spanAV).all fun y=>decide (y.cells.length=2)&&y.cells.all AV.ok)=true:=by
  rw[List.all_eq_true];intro y hy;obtain⟨i,_,rfl⟩:=mem_map.1 hy;rfl
 have hx:cloneExt 2 16 [.sl false (l.map spanAV)] (G++b::K)=some (.sl false (l.map spanAV),G++b::K):=by
  simp only[cloneExt,elemsOf];rw[if_pos ⟨ha,Ae (by rw[length_map];omega) (by omega),AF _⟩];cases G with
  | nil=>rfl
  | cons x G=>rfl
 exact hx
theorem Nq (kids:List Re) (hk1:kids=[]) (hw:Re.wtL kids<400000000) (hkok:∀ q∈kids,OkD q) (ih:∀ q∈kids,∀(H:List MB) (fid:Nat) (b:Bool),H[fid]?=some (frmB b)->HP H->call Pg pol1 52 [.rf fid 1 0 0,reAV q] H=some (reAV (nf q),H.set fid (frmB (b||badR q)))) (H:List MB) (fid:Nat) (b:Bool) (hf:H[fid]?=some (frmB b)) (hH:HP H) :
  call Pg pol1 52 [.rf fid 1 0 0,reAV (.mk 0 [] kids 0 0 0 0 false)] H=some (reAV (nf (.mk 0 [] kids 0 0 0 0 false)),H.set fid (frmB (b||badR (.mk 0 [] kids 0 0 0 0 false)))):=by
 have hkl:=Re.wtL_len kids;have hgk:∀ q∈kids,gsR q:=fun q hq=>(hkok q hq).gs;obtain⟨hgn,hwn⟩:=Cm kids (Bf.2 hgk);have hfid:=(List.getElem?_eq_some_iff.1 hf).1;have hpl:AV.plain (reAV (.mk 0 [] kids 0 0 0 0 false))=true:=AO _;have hfr:frzArgs pol1 52 0 [.rf fid 1 0 0,reAV (.mk 0 [] kids 0 0 0 0 false)] H=some ([.rf fid 1 0 0,reAV (.mk 0 [] kids 0 0 0 0 false)],H):=AT _ _ _ (by simp only[mixOk,show pol1.byref 52 0=true from rfl,hpl,Bool.true_or,Bool.or_true,Bool.and_self]);refine AX (pol:=pol1) Tryz.func52 rfl rfl rfl rfl hfr ?_;rw[show reAV (.mk 0 [] kids 0 0 0 0 false)=.agg (nodeL 0 [] kids 0 0 0 0 false) from congrArg AV.agg Ab];have g1:=@gA H;have g2:=@gA0 H;have g3:=@sA H;have g4:=@sA0 H;simp +contextual -implicitDefEqProofs (disch:=omega) only[Tryz.f52,dd52,go_sem,simprocAttr,evAppend,map_append,mu52,↓AE,↓AC,↓AB,↓AA,append_assoc,cons_append,nil_append,g1,g2,g3,g4];have hX:∀ i,((kids.take i).map nf).length<=400000000:=fun i=>by
  rw[length_map,List.length_take];omega
 have g1':∀(x:MB) (l:List MB) (k:Nat),(H.set fid x++l)[H.length+k]?=l[k]?:=fun x l k=>by
  have:=gA (H:=H.set fid x) l k
  rwa [List.length_set]at this
 have g3':∀(x:MB) (l:List MB) (k:Nat) (y:MB),(H.set fid x++l).set (H.length+k) y=H.set fid x++l.set k y:=fun x l k y=>by
  have:=sA (H:=H.set fid x) l k y
  rwa [List.length_set]at this
 have g2':∀(x:MB) (l:List MB),(H.set fid x++l)[H.length]?=l[0]?:=fun x l=>g1' x l 0;have g4':∀(x:MB) (l:List MB) (y:MB),(H.set fid x++l).set H.length y=H.set fid x++l.set 0 y:=fun x l y=>g3' x l 0 y;have g5:∀(c:Bool) (l:List MB),(H.set fid (frmB c)++l)[fid]?=some (frmB c):=fun c l=>(getElem?_append_left (by simpa using hfid)).trans (getElem?_set_self hfid);have g6:∀(c d:Bool) (l:List MB),(H.set fid (frmB c)++l).set fid (frmB d)=H.set fid (frmB d)++l:=fun c d l=>by
  rw[List.set_append_left _ _ (by simpa using hfid),List.set_set]
 have hx:∀ c:Bool,HP (H.set fid (frmB c)):=fun c=>hH.set rfl;have hpn:AV.plainL [AV.agg (nodeL 0 [] kids 0 0 0 0 false)]=true:=by simp[AV.plainL,AV.plain,AF,AH]
 refine AY (M:=mskOf (pol1.mask 52) (pol1.gc 52) (pol1.acts 52) H.length 3) (by rfl) kids.length (fun i=>(⟨61,[(17,I i),(16,I kids.length),(15,.sl false (kids.map reAV)),(5,.ms (H.length+2) 8 i 0 i),(4,.rf (H.length+1) 1 0 0),(3,.rf H.length 1 0 0),(0,.rf fid 1 0 0)],
  H.set fid (frmB (b||badRL (kids.take i)))++[.row 8 [.agg (nodeL 0 [] kids 0 0 0 0 false)] 0,.row 8 [zeR] 0,.row 8 (((kids.take i).map nf).map reAV) 0]⟩:St)) (fun _=>True) ?_ ?_ trivial _ ?_
 ·intro i hi _;obtain⟨q,hk⟩:∃ q,kids[i]?=some q:=⟨_,getElem?_eq_getElem hi⟩;have hk':=At hk;have hlt:(i:Int)<(kids.length:Int):=by omega
  have hbt:=B1 hk;have hXl:((kids.take i).map nf).length=i:=by rw[length_map,List.length_take];omega
  have hst:(kids.take (i+1)).map nf=(kids.take i).map nf++[nf q]:=by rw[AZ hk,map_append];rfl
  rw[hbt,hst,<- Bool.or_assoc];have hpk:=AH kids;generalize (kids.take i).map nf=X at *;generalize (b||badRL (kids.take i))=c at *;have h52:=ih q (mem_of_getElem? hk) (H.set fid (frmB c)++[.row 8 [.agg (nodeL 0 [] kids 0 0 0 0 false)] 0,.row 8 [zeR] 0,.row 8 (X.map reAV) 0,.row 8 [reAV q] 0]) fid c (g5 _ _) (HP.app (hx c) ((((HP.nil.cons (Aa (by simp only[AV.plainL,AU,Bool.and_self]))).cons (Aa (AH X))).cons fun _=>rfl).cons (Aa hpn)));rw[g6]at h52;have a1:=fun(d:Bool) (b0 b1 b3:MB)=>BY (H:=H.set fid (frmB d)++[b0,b1,.row 8 (X.map reAV) 0,b3]) (i:=H.length+2) (n:=i) (x:=nf q) (t:=true) (rs:=X) (z:=0) (by unfold getRow;rw[g1'];rfl) (zero_le _) hXl (by omega);simp only[g3',set_cons_succ,List.set_cons_zero]at a1;simp +contextual -implicitDefEqProofs (disch:=omega) only[Tryz.f52,dd52,go_sem,simprocAttr,mu52,↓AE,↓AC,↓AB,↓AA,hk',hlt,append_assoc,cons_append,nil_append,g1',g2',g3',g4',h52,a1,AK,AJ,AP,List.length_set];exact BL (c:=3) rfl (by rw[List.length_set];rfl) (by rfl) rfl (by simp[AV.underL,AV.under,AD _ _ hpk];omega) (hx _) (((HP.nil.cons (Aa (AH _))).cons fun _=>rfl).cons (Aa hpn))
 ·intro _;rw[take_length];have hXl:(kids.map nf).length=kids.length:=by simp
  have hnl:=Be kids;have rp:∀(r:Re) (c:Bool) (l:List MB),retPol pol1 52 H (reAV r) (H.set fid (frmB c)++l)=some (reAV r,H.set fid (frmB c)):=fun r c l=>
   Am rfl rfl (AU r) (Bb _ rfl _ _ _) (by rw[List.take_append_of_le_length (by simp),take_of_length_le (by simp)])
  have hz:∀(X:List Re) (c:Bool) (b0 b1:MB) (z:Nat),X.length=kids.length->fz (.ms (H.length+2) 8 kids.length 0 kids.length) (H.set fid (frmB c)++[b0,b1,.row 8 (X.map reAV) z])=some (.sl false (X.map reAV),H.set fid (frmB c)++[b0,b1,.row 8 (X.map reAV) (max z kids.length)]):=fun X c b0 b1 z hX=>by
   have hr:getRow (H.set fid (frmB c)++[b0,b1,.row 8 (X.map reAV) z]) (H.length+2)=some (8,X.map reAV,z):=by unfold getRow;rw[g1'];rfl
   rw[Az hr (by simp[hX]) (AH X)];unfold mark;rw[hr];simp only[g3'];simp
  generalize hc:(b||badRL kids)=c at *;subst hk1;have e:(b||badR (.mk 0 [] [] 0 0 0 0 false))=c:=by rw[JI,<- Mu];exact hc
  rw[e];simp +contextual -implicitDefEqProofs (disch:=omega) only[Tryz.f52,dd52,go_sem,simprocAttr,evAppend,map_append,mu52,↓AE,↓AC,↓AB,↓AA,append_assoc,cons_append,nil_append,g1',g2',g3',g4',d82,AK,AJ,AP,List.length_set];exact rp _ _ _
 ·have hs0:H.set fid (frmB (b||badRL (kids.take 0)))=H:=by
   rw[show badRL (kids.take 0)=false from rfl,Bool.or_false];exact Bi hf
  rw[hs0];exact BL (c:=3) rfl rfl (by rfl) rfl (by simp[AV.underL,AV.under,AD _ _ (AH kids)];omega) hH (((HP.nil.cons (Aa rfl)).cons fun _=>rfl).cons (Aa hpn))
theorem Qr (set:List (Int×Int)) (hs:SetN set) (kids:List Re) (hk1:kids=[]) (hw:Re.wtL kids<400000000) (hkok:∀ q∈kids,OkD q) (ih:∀ q∈kids,∀(H:List MB) (fid:Nat) (b:Bool),H[fid]?=some (frmB b)->HP H->call Pg pol1 52 [.rf fid 1 0 0,reAV q] H=some (reAV (nf q),H.set fid (frmB (b||badR q)))) (H:List MB) (fid:Nat) (b:Bool) (hf:H[fid]?=some (frmB b)) (hH:HP H) :
  call Pg pol1 52 [.rf fid 1 0 0,reAV (.mk 1 set kids 0 0 0 0 false)] H=some (reAV (nf (.mk 1 set kids 0 0 0 0 false)),H.set fid (frmB (b||badR (.mk 1 set kids 0 0 0 0 false)))):=by
 have hkl:=Re.wtL_len kids;have hgk:∀ q∈kids,gsR q:=fun q hq=>(hkok q hq).gs;obtain⟨hgn,hwn⟩:=Cm kids (Bf.2 hgk);have hfid:=(List.getElem?_eq_some_iff.1 hf).1;have hpl:AV.plain (reAV (.mk 1 set kids 0 0 0 0 false))=true:=AO _;have hfr:frzArgs pol1 52 0 [.rf fid 1 0 0,reAV (.mk 1 set kids 0 0 0 0 false)] H=some ([.rf fid 1 0 0,reAV (.mk 1 set kids 0 0 0 0 false)],H):=AT _ _ _ (by simp only[mixOk,show pol1.byref 52 0=true from rfl,hpl,Bool.true_or,Bool.or_true,Bool.and_self]);refine AX (pol:=pol1) Tryz.func52 rfl rfl rfl rfl hfr ?_;rw[show reAV (.mk 1 set kids 0 0 0 0 false)=.agg (nodeL 1 set kids 0 0 0 0 false) from congrArg AV.agg Ab];have g1:=@gA H;have g2:=@gA0 H;have g3:=@sA H;have g4:=@sA0 H;simp +contextual -implicitDefEqProofs (disch:=omega) only[Tryz.f52,dd52,go_sem,simprocAttr,evAppend,map_append,mu52,↓AE,↓AC,↓AB,↓AA,append_assoc,cons_append,nil_append,g1,g2,g3,g4];have hX:∀ i,((kids.take i).map nf).length<=400000000:=fun i=>by
  rw[length_map,List.length_take];omega
 have g1':∀(x:MB) (l:List MB) (k:Nat),(H.set fid x++l)[H.length+k]?=l[k]?:=fun x l k=>by
  have:=gA (H:=H.set fid x) l k
  rwa [List.length_set]at this
 have g3':∀(x:MB) (l:List MB) (k:Nat) (y:MB),(H.set fid x++l).set (H.length+k) y=H.set fid x++l.set k y:=fun x l k y=>by
  have:=sA (H:=H.set fid x) l k y
  rwa [List.length_set]at this
 have g2':∀(x:MB) (l:List MB),(H.set fid x++l)[H.length]?=l[0]?:=fun x l=>g1' x l 0;have g4':∀(x:MB) (l:List MB) (y:MB),(H.set fid x++l).set H.length y=H.set fid x++l.set 0 y:=fun x l y=>g3' x l 0 y;have g5:∀(c:Bool) (l:List MB),(H.set fid (frmB c)++l)[fid]?=some (frmB c):=fun c l=>(getElem?_append_left (by simpa using hfid)).trans (getElem?_set_self hfid);have g6:∀(c d:Bool) (l:List MB),(H.set fid (frmB c)++l).set fid (frmB d)=H.set fid (frmB d)++l:=fun c d l=>by
  rw[List.set_append_left _ _ (by simpa using hfid),List.set_set]
 have hx:∀ c:Bool,HP (H.set fid (frmB c)):=fun c=>hH.set rfl;have hpn:AV.plainL [AV.agg (nodeL 1 set kids 0 0 0 0 false)]=true:=by simp[AV.plainL,AV.plain,AF,AH]
 refine AY (M:=mskOf (pol1.mask 52) (pol1.gc 52) (pol1.acts 52) H.length 3) (by rfl) kids.length (fun i=>(⟨61,[(17,I i),(16,I kids.length),(15,.sl false (kids.map reAV)),(5,.ms (H.length+2) 8 i 0 i),(4,.rf (H.length+1) 1 0 0),(3,.rf H.length 1 0 0),(0,.rf fid 1 0 0)],
  H.set fid (frmB (b||badRL (kids.take i)))++[.row 8 [.agg (nodeL 1 set kids 0 0 0 0 false)] 0,.row 8 [zeR] 0,.row 8 (((kids.take i).map nf).map reAV) 0]⟩:St)) (fun _=>True) ?_ ?_ trivial _ ?_
 ·intro i hi _;obtain⟨q,hk⟩:∃ q,kids[i]?=some q:=⟨_,getElem?_eq_getElem hi⟩;have hk':=At hk;have hlt:(i:Int)<(kids.length:Int):=by omega
  have hbt:=B1 hk;have hXl:((kids.take i).map nf).length=i:=by rw[length_map,List.length_take];omega
  have hst:(kids.take (i+1)).map nf=(kids.take i).map nf++[nf q]:=by rw[AZ hk,map_append];rfl
  rw[hbt,hst,<- Bool.or_assoc];have hpk:=AH kids;generalize (kids.take i).map nf=X at *;generalize (b||badRL (kids.take i))=c at *;have h52:=ih q (mem_of_getElem? hk) (H.set fid (frmB c)++[.row 8 [.agg (nodeL 1 set kids 0 0 0 0 false)] 0,.row 8 [zeR] 0,.row 8 (X.map reAV) 0,.row 8 [reAV q] 0]) fid c (g5 _ _) (HP.app (hx c) ((((HP.nil.cons (Aa (by simp only[AV.plainL,AU,Bool.and_self]))).cons (Aa (AH X))).cons fun _=>rfl).cons (Aa hpn)));rw[g6]at h52;have a1:=fun(d:Bool) (b0 b1 b3:MB)=>BY (H:=H.set fid (frmB d)++[b0,b1,.row 8 (X.map reAV) 0,b3]) (i:=H.length+2) (n:=i) (x:=nf q) (t:=true) (rs:=X) (z:=0) (by unfold getRow;rw[g1'];rfl) (zero_le _) hXl (by omega);simp only[g3',set_cons_succ,List.set_cons_zero]at a1;simp +contextual -implicitDefEqProofs (disch:=omega) only[Tryz.f52,dd52,go_sem,simprocAttr,mu52,↓AE,↓AC,↓AB,↓AA,hk',hlt,append_assoc,cons_append,nil_append,g1',g2',g3',g4',h52,a1,AK,AJ,AP,List.length_set];exact BL (c:=3) rfl (by rw[List.length_set];rfl) (by rfl) rfl (by simp[AV.underL,AV.under,AD _ _ hpk];omega) (hx _) (((HP.nil.cons (Aa (AH _))).cons fun _=>rfl).cons (Aa hpn))
 ·intro _;rw[take_length];have hXl:(kids.map nf).length=kids.length:=by simp
  have hnl:=Be kids;have rp:∀(r:Re) (c:Bool) (l:List MB),retPol pol1 52 H (reAV r) (H.set fid (frmB c)++l)=some (reAV r,H.set fid (frmB c)):=fun r c l=>
   Am rfl rfl (AU r) (Bb _ rfl _ _ _) (by rw[List.take_append_of_le_length (by simp),take_of_length_le (by simp)])
  have hz:∀(X:List Re) (c:Bool) (b0 b1:MB) (z:Nat),X.length=kids.length->fz (.ms (H.length+2) 8 kids.length 0 kids.length) (H.set fid (frmB c)++[b0,b1,.row 8 (X.map reAV) z])=some (.sl false (X.map reAV),H.set fid (frmB c)++[b0,b1,.row 8 (X.map reAV) (max z kids.length)]):=fun X c b0 b1 z hX=>by
   have hr:getRow (H.set fid (frmB c)++[b0,b1,.row 8 (X.map reAV) z]) (H.length+2)=some (8,X.map reAV,z):=by unfold getRow;rw[g1'];rfl
   rw[Az hr (by simp[hX]) (AH X)];unfold mark;rw[hr];simp only[g3'];simp
  generalize hc:(b||badRL kids)=c at *;subst hk1;have e:(b||badR (.mk 1 set [] 0 0 0 0 false))=c:=by rw[Ms,<- Mu];exact hc
  have e2:=Ow set;rw[e,e2];have h78:=fun(x b0:MB) (K:List MB)=>c78 set (by have:=hs.len;omega) b0 (H.set fid x) K;simp +contextual -implicitDefEqProofs (disch:=omega) only[Tryz.f52,dd52,go_sem,simprocAttr,evAppend,map_append,mu52,↓AE,↓AC,↓AB,↓AA,append_assoc,cons_append,nil_append,g1',g2',g3',g4',h78,AK,AJ,AP,List.length_set];exact NC rfl rfl RT (AU (setR set)) (Bb _ rfl _ _ _) (by rw[List.take_append_of_le_length (by simp),take_of_length_le (by simp)])
 ·have hs0:H.set fid (frmB (b||badRL (kids.take 0)))=H:=by
   rw[show badRL (kids.take 0)=false from rfl,Bool.or_false];exact Bi hf
  rw[hs0];exact BL (c:=3) rfl rfl (by rfl) rfl (by simp[AV.underL,AV.under,AD _ _ (AH kids)];omega) hH (((HP.nil.cons (Aa rfl)).cons fun _=>rfl).cons (Aa hpn))
theorem Qt (kids:List Re) (hw:Re.wtL kids<400000000) (hkok:∀ q∈kids,OkD q) (ih:∀ q∈kids,∀(H:List MB) (fid:Nat) (b:Bool),H[fid]?=some (frmB b)->HP H->call Pg pol1 52 [.rf fid 1 0 0,reAV q] H=some (reAV (nf q),H.set fid (frmB (b||badR q)))) (H:List MB) (fid:Nat) (b:Bool) (hf:H[fid]?=some (frmB b)) (hH:HP H) :
  call Pg pol1 52 [.rf fid 1 0 0,reAV (.mk 2 [] kids 0 0 0 0 false)] H=some (reAV (nf (.mk 2 [] kids 0 0 0 0 false)),H.set fid (frmB (b||badR (.mk 2 [] kids 0 0 0 0 false)))):=by
 have hkl:=Re.wtL_len kids;have hgk:∀ q∈kids,gsR q:=fun q hq=>(hkok q hq).gs;obtain⟨hgn,hwn⟩:=Cm kids (Bf.2 hgk);have hfid:=(List.getElem?_eq_some_iff.1 hf).1;have hpl:AV.plain (reAV (.mk 2 [] kids 0 0 0 0 false))=true:=AO _;have hfr:frzArgs pol1 52 0 [.rf fid 1 0 0,reAV (.mk 2 [] kids 0 0 0 0 false)] H=some ([.rf fid 1 0 0,reAV (.mk 2 [] kids 0 0 0 0 false)],H):=AT _ _ _ (by simp only[mixOk,show pol1.byref 52 0=true from rfl,hpl,Bool.true_or,Bool.or_true,Bool.and_self]);refine AX (pol:=pol1) Tryz.func52 rfl rfl rfl rfl hfr ?_;rw[show reAV (.mk 2 [] kids 0 0 0 0 false)=.agg (nodeL 2 [] kids 0 0 0 0 false) from congrArg AV.agg Ab];have g1:=@gA H;have g2:=@gA0 H;have g3:=@sA H;have g4:=@sA0 H;simp +contextual -implicitDefEqProofs (disch:=omega) only[Tryz.f52,dd52,go_sem,simprocAttr,evAppend,map_append,mu52,↓AE,↓AC,↓AB,↓AA,append_assoc,cons_append,nil_append,g1,g2,g3,g4];have hX:∀ i,((kids.take i).map nf).length<=400000000:=fun i=>by
  rw[length_map,List.length_take];omega
 have g1':∀(x:MB) (l:List MB) (k:Nat),(H.set fid x++l)[H.length+k]?=l[k]?:=fun x l k=>by
  have:=gA (H:=H.set fid x) l k
  rwa [List.length_set]at this
 have g3':∀(x:MB) (l:List MB) (k:Nat) (y:MB),(H.set fid x++l).set (H.length+k) y=H.set fid x++l.set k y:=fun x l k y=>by
  have:=sA (H:=H.set fid x) l k y
  rwa [List.length_set]at this
 have g2':∀(x:MB) (l:List MB),(H.set fid x++l)[H.length]?=l[0]?:=fun x l=>g1' x l 0;have g4':∀(x:MB) (l:List MB) (y:MB),(H.set fid x++l).set H.length y=H.set fid x++l.set 0 y:=fun x l y=>g3' x l 0 y;have g5:∀(c:Bool) (l:List MB),(H.set fid (frmB c)++l)[fid]?=some (frmB c):=fun c l=>(getElem?_append_left (by simpa using hfid)).trans (getElem?_set_self hfid);have g6:∀(c d:Bool) (l:List MB),(H.set fid (frmB c)++l).set fid (frmB d)=H.set fid (frmB d)++l:=fun c d l=>by
  rw[List.set_append_left _ _ (by simpa using hfid),List.set_set]
 have hx:∀ c:Bool,HP (H.set fid (frmB c)):=fun c=>hH.set rfl;have hpn:AV.plainL [AV.agg (nodeL 2 [] kids 0 0 0 0 false)]=true:=by simp[AV.plainL,AV.plain,AF,AH]
 refine AY (M:=mskOf (pol1.mask 52) (pol1.gc 52) (pol1.acts 52) H.length 3) (by rfl) kids.length (fun i=>(⟨61,[(17,I i),(16,I kids.length),(15,.sl false (kids.map reAV)),(5,.ms (H.length+2) 8 i 0 i),(4,.rf (H.length+1) 1 0 0),(3,.rf H.length 1 0 0),(0,.rf fid 1 0 0)],
  H.set fid (frmB (b||badRL (kids.take i)))++[.row 8 [.agg (nodeL 2 [] kids 0 0 0 0 false)] 0,.row 8 [zeR] 0,.row 8 (((kids.take i).map nf).map reAV) 0]⟩:St)) (fun _=>True) ?_ ?_ trivial _ ?_
 ·intro i hi _;obtain⟨q,hk⟩:∃ q,kids[i]?=some q:=⟨_,getElem?_eq_getElem hi⟩;have hk':=At hk;have hlt:(i:Int)<(kids.length:Int):=by omega
  have hbt:=B1 hk;have hXl:((kids.take i).map nf).length=i:=by rw[length_map,List.length_take];omega
  have hst:(kids.take (i+1)).map nf=(kids.take i).map nf++[nf q]:=by rw[AZ hk,map_append];rfl
  rw[hbt,hst,<- Bool.or_assoc];have hpk:=AH kids;generalize (kids.take i).map nf=X at *;generalize (b||badRL (kids.take i))=c at *;have h52:=ih q (mem_of_getElem? hk) (H.set fid (frmB c)++[.row 8 [.agg (nodeL 2 [] kids 0 0 0 0 false)] 0,.row 8 [zeR] 0,.row 8 (X.map reAV) 0,.row 8 [reAV q] 0]) fid c (g5 _ _) (HP.app (hx c) ((((HP.nil.cons (Aa (by simp only[AV.plainL,AU,Bool.and_self]))).cons (Aa (AH X))).cons fun _=>rfl).cons (Aa hpn)));rw[g6]at h52;have a1:=fun(d:Bool) (b0 b1 b3:MB)=>BY (H:=H.set fid (frmB d)++[b0,b1,.row 8 (X.map reAV) 0,b3]) (i:=H.length+2) (n:=i) (x:=nf q) (t:=true) (rs:=X) (z:=0) (by unfold getRow;rw[g1'];rfl) (zero_le _) hXl (by omega);simp only[g3',set_cons_succ,List.set_cons_zero]at a1;simp +contextual -implicitDefEqProofs (disch:=omega) only[Tryz.f52,dd52,go_sem,simprocAttr,mu52,↓AE,↓AC,↓AB,↓AA,hk',hlt,append_assoc,cons_append,nil_append,g1',g2',g3',g4',h52,a1,AK,AJ,AP,List.length_set];exact BL (c:=3) rfl (by rw[List.length_set];rfl) (by rfl) rfl (by simp[AV.underL,AV.under,AD _ _ hpk];omega) (hx _) (((HP.nil.cons (Aa (AH _))).cons fun _=>rfl).cons (Aa hpn))
 ·intro _;rw[take_length];have hXl:(kids.map nf).length=kids.length:=by simp
  have hnl:=Be kids;have rp:∀(r:Re) (c:Bool) (l:List MB),retPol pol1 52 H (reAV r) (H.set fid (frmB c)++l)=some (reAV r,H.set fid (frmB c)):=fun r c l=>
   Am rfl rfl (AU r) (Bb _ rfl _ _ _) (by rw[List.take_append_of_le_length (by simp),take_of_length_le (by simp)])
  have hz:∀(X:List Re) (c:Bool) (b0 b1:MB) (z:Nat),X.length=kids.length->fz (.ms (H.length+2) 8 kids.length 0 kids.length) (H.set fid (frmB c)++[b0,b1,.row 8 (X.map reAV) z])=some (.sl false (X.map reAV),H.set fid (frmB c)++[b0,b1,.row 8 (X.map reAV) (max z kids.length)]):=fun X c b0 b1 z hX=>by
   have hr:getRow (H.set fid (frmB c)++[b0,b1,.row 8 (X.map reAV) z]) (H.length+2)=some (8,X.map reAV,z):=by unfold getRow;rw[g1'];rfl
   rw[Az hr (by simp[hX]) (AH X)];unfold mark;rw[hr];simp only[g3'];simp
  generalize hc:(b||badRL kids)=c at *;have e:(b||badR (.mk 2 [] kids 0 0 0 0 false))=c:=by rw[Mv];exact hc
  have e2:=Oz kids;rw[e,e2];obtain⟨X,hXe⟩:∃ X,kids.map nf=X:=⟨_,rfl⟩;have hwX:Re.wtL X<=1000000000:=by rw[<- hXe,<- Be];omega
  rw[hXe]at hXl |-;have h79:=d79 X hwX;have c79:=fun b0 b1=>(BB (P:=Pg) (pol:=pol1) (f:=79) (args:=[.ms (H.length+2) 8 kids.length 0 kids.length]) (H:=H.set fid (frmB c)++[b0,b1,.row 8 (X.map reAV) 0]) (l:=[.sl false (X.map reAV)]) (H1:=H.set fid (frmB c)++[b0,b1,.row 8 (X.map reAV) (max 0 kids.length)]) rfl (by
   simp only[frzArgs,show pol1.byref 79 0=false from rfl,Bool.false_eq_true,if_false,hz X c b0 b1 0 hXl]) (by simp[AV.plainL,AV.plain,AH])).trans (h79 _)
  simp +contextual -implicitDefEqProofs (disch:=omega) only[Tryz.f52,dd52,go_sem,simprocAttr,evAppend,map_append,mu52,↓AE,↓AC,↓AB,↓AA,append_assoc,cons_append,nil_append,g1',g2',g3',g4',c79,AK,AJ,AP,List.length_set];exact rp _ _ _
 ·have hs0:H.set fid (frmB (b||badRL (kids.take 0)))=H:=by
   rw[show badRL (kids.take 0)=false from rfl,Bool.or_false];exact Bi hf
  rw[hs0];exact BL (c:=3) rfl rfl (by rfl) rfl (by simp[AV.underL,AV.under,AD _ _ (AH kids)];omega) hH (((HP.nil.cons (Aa rfl)).cons fun _=>rfl).cons (Aa hpn))
theorem Qv (kids:List Re) (hw:Re.wtL kids<400000000) (hkok:∀ q∈kids,OkD q) (ih:∀ q∈kids,∀(H:List MB) (fid:Nat) (b:Bool),H[fid]?=some (frmB b)->HP H->call Pg pol1 52 [.rf fid 1 0 0,reAV q] H=some (reAV (nf q),H.set fid (frmB (b||badR q)))) (H:List MB) (fid:Nat) (b:Bool) (hf:H[fid]?=some (frmB b)) (hH:HP H) :
  call Pg pol1 52 [.rf fid 1 0 0,reAV (.mk 3 [] kids 0 0 0 0 false)] H=some (reAV (nf (.mk 3 [] kids 0 0 0 0 false)),H.set fid (frmB (b||badR (.mk 3 [] kids 0 0 0 0 false)))):=by
 have hkl:=Re.wtL_len kids;have hgk:∀ q∈kids,gsR q:=fun q hq=>(hkok q hq).gs;obtain⟨hgn,hwn⟩:=Cm kids (Bf.2 hgk);have hfid:=(List.getElem?_eq_some_iff.1 hf).1;have hpl:AV.plain (reAV (.mk 3 [] kids 0 0 0 0 false))=true:=AO _;have hfr:frzArgs pol1 52 0 [.rf fid 1 0 0,reAV (.mk 3 [] kids 0 0 0 0 false)] H=some ([.rf fid 1 0 0,reAV (.mk 3 [] kids 0 0 0 0 false)],H):=AT _ _ _ (by simp only[mixOk,show pol1.byref 52 0=true from rfl,hpl,Bool.true_or,Bool.or_true,Bool.and_self]);refine AX (pol:=pol1) Tryz.func52 rfl rfl rfl rfl hfr ?_;rw[show reAV (.mk 3 [] kids 0 0 0 0 false)=.agg (nodeL 3 [] kids 0 0 0 0 false) from congrArg AV.agg Ab];have g1:=@gA H;have g2:=@gA0 H;have g3:=@sA H;have g4:=@sA0 H;simp +contextual -implicitDefEqProofs (disch:=omega) only[Tryz.f52,dd52,go_sem,simprocAttr,evAppend,map_append,mu52,↓AE,↓AC,↓AB,↓AA,append_assoc,cons_append,nil_append,g1,g2,g3,g4];have hX:∀ i,((kids.take i).map nf).length<=400000000:=fun i=>by
  rw[length_map,List.length_take];omega
 have g1':∀(x:MB) (l:List MB) (k:Nat),(H.set fid x++l)[H.length+k]?=l[k]?:=fun x l k=>by
  have:=gA (H:=H.set fid x) l k
  rwa [List.length_set]at this
 have g3':∀(x:MB) (l:List MB) (k:Nat) (y:MB),(H.set fid x++l).set (H.length+k) y=H.set fid x++l.set k y:=fun x l k y=>by
  have:=sA (H:=H.set fid x) l k y
  rwa [List.length_set]at this
 have g2':∀(x:MB) (l:List MB),(H.set fid x++l)[H.length]?=l[0]?:=fun x l=>g1' x l 0;have g4':∀(x:MB) (l:List MB) (y:MB),(H.set fid x++l).set H.length y=H.set fid x++l.set 0 y:=fun x l y=>g3' x l 0 y;have g5:∀(c:Bool) (l:List MB),(H.set fid (frmB c)++l)[fid]?=some (frmB c):=fun c l=>(getElem?_append_left (by simpa using hfid)).trans (getElem?_set_self hfid);have g6:∀(c d:Bool) (l:List MB),(H.set fid (frmB c)++l).set fid (frmB d)=H.set fid (frmB d)++l:=fun c d l=>by
  rw[List.set_append_left _ _ (by simpa using hfid),List.set_set]
 have hx:∀ c:Bool,HP (H.set fid (frmB c)):=fun c=>hH.set rfl;have hpn:AV.plainL [AV.agg (nodeL 3 [] kids 0 0 0 0 false)]=true:=by simp[AV.plainL,AV.plain,AF,AH]
 refine AY (M:=mskOf (pol1.mask 52) (pol1.gc 52) (pol1.acts 52) H.length 3) (by rfl) kids.length (fun i=>(⟨61,[(17,I i),(16,I kids.length),(15,.sl false (kids.map reAV)),(5,.ms (H.length+2) 8 i 0 i),(4,.rf (H.length+1) 1 0 0),(3,.rf H.length 1 0 0),(0,.rf fid 1 0 0)],
  H.set fid (frmB (b||badRL (kids.take i)))++[.row 8 [.agg (nodeL 3 [] kids 0 0 0 0 false)] 0,.row 8 [zeR] 0,.row 8 (((kids.take i).map nf).map reAV) 0]⟩:St)) (fun _=>True) ?_ ?_ trivial _ ?_
 ·intro i hi _;obtain⟨q,hk⟩:∃ q,kids[i]?=some q:=⟨_,getElem?_eq_getElem hi⟩;have hk':=At hk;have hlt:(i:Int)<(kids.length:Int):=by omega
  have hbt:=B1 hk;have hXl:((kids.take i).map nf).length=i:=by rw[length_map,List.length_take];omega
  have hst:(kids.take (i+1)).map nf=(kids.take i).map nf++[nf q]:=by rw[AZ hk,map_append];rfl
  rw[hbt,hst,<- Bool.or_assoc];have hpk:=AH kids;generalize (kids.take i).map nf=X at *;generalize (b||badRL (kids.take i))=c at *;have h52:=ih q (mem_of_getElem? hk) (H.set fid (frmB c)++[.row 8 [.agg (nodeL 3 [] kids 0 0 0 0 false)] 0,.row 8 [zeR] 0,.row 8 (X.map reAV) 0,.row 8 [reAV q] 0]) fid c (g5 _ _) (HP.app (hx c) ((((HP.nil.cons (Aa (by simp only[AV.plainL,AU,Bool.and_self]))).cons (Aa (AH X))).cons fun _=>rfl).cons (Aa hpn)));rw[g6]at h52;have a1:=fun(d:Bool) (b0 b1 b3:MB)=>BY (H:=H.set fid (frmB d)++[b0,b1,.row 8 (X.map reAV) 0,b3]) (i:=H.length+2) (n:=i) (x:=nf q) (t:=true) (rs:=X) (z:=0) (by unfold getRow;rw[g1'];rfl) (zero_le _) hXl (by omega);simp only[g3',set_cons_succ,List.set_cons_zero]at a1;simp +contextual -implicitDefEqProofs (disch:=omega) only[Tryz.f52,dd52,go_sem,simprocAttr,mu52,↓AE,↓AC,↓AB,↓AA,hk',hlt,append_assoc,cons_append,nil_append,g1',g2',g3',g4',h52,a1,AK,AJ,AP,List.length_set];exact BL (c:=3) rfl (by rw[List.length_set];rfl) (by rfl) rfl (by simp[AV.underL,AV.under,AD _ _ hpk];omega) (hx _) (((HP.nil.cons (Aa (AH _))).cons fun _=>rfl).cons (Aa hpn))
 ·intro _;rw[take_length];have hXl:(kids.map nf).length=kids.length:=by simp
  have hnl:=Be kids;have rp:∀(r:Re) (c:Bool) (l:List MB),retPol pol1 52 H (reAV r) (H.set fid (frmB c)++l)=some (reAV r,H.set fid (frmB c)):=fun r c l=>
   Am rfl rfl (AU r) (Bb _ rfl _ _ _) (by rw[List.take_append_of_le_length (by simp),take_of_length_le (by simp)])
  have hz:∀(X:List Re) (c:Bool) (b0 b1:MB) (z:Nat),X.length=kids.length->fz (.ms (H.length+2) 8 kids.length 0 kids.length) (H.set fid (frmB c)++[b0,b1,.row 8 (X.map reAV) z])=some (.sl false (X.map reAV),H.set fid (frmB c)++[b0,b1,.row 8 (X.map reAV) (max z kids.length)]):=fun X c b0 b1 z hX=>by
   have hr:getRow (H.set fid (frmB c)++[b0,b1,.row 8 (X.map reAV) z]) (H.length+2)=some (8,X.map reAV,z):=by unfold getRow;rw[g1'];rfl
   rw[Az hr (by simp[hX]) (AH X)];unfold mark;rw[hr];simp only[g3'];simp
  generalize hc:(b||badRL kids)=c at *;have e:(b||badR (.mk 3 [] kids 0 0 0 0 false))=(c||altBad (flatR 3 (kids.map nf))):=by rw[<- hc,Mx,Bool.or_assoc]
  have e2:=O1 kids;rw[e,e2];rw[hnl]at hgn hwn;obtain⟨X,hXe⟩:∃ X,kids.map nf=X:=⟨_,rfl⟩;rw[hXe]at hXl hgn hwn |-;have h80:=fun b0 b1 b2 (h0:plB b0) (h1:plB b1) (h2:plB b2)=>d80 X (H:=H.set fid (frmB c)++[b0,b1,b2]) (g5 c [b0,b1,b2]) (HP.app (hx c) (((HP.nil.cons h2).cons h1).cons h0)) (by omega) hgn;have c80:=fun b0 b1 (h0:plB b0) (h1:plB b1)=>(Fe (P:=Pg) (pol:=pol1) (f:=80) (args:=[.rf fid 1 0 0,.ms (H.length+2) 8 kids.length 0 kids.length]) (H:=H.set fid (frmB c)++[b0,b1,.row 8 (X.map reAV) 0]) (l:=[.rf fid 1 0 0,.sl false (X.map reAV)]) (H1:=H.set fid (frmB c)++[b0,b1,.row 8 (X.map reAV) (max 0 kids.length)]) rfl rfl (by decide) (by
   simp only[frzArgs,show pol1.byref 80 0=true from rfl,show pol1.byref 80 (0+1)=false from rfl,Bool.false_eq_true,if_false,if_true,hz X c b0 b1 0 hXl]) (AT _ _ _ (by simp[mixOk,show pol1.byref 80 0=true from rfl,AV.plain,AV.plainL,AH]))).trans (h80 b0 b1 (.row 8 (X.map reAV) (max 0 kids.length)) h0 h1 (Aa (AH _)))
  have c80':=c80 (.row 8 [.agg (nodeL 3 [] kids 0 0 0 0 false)] 0) (.row 8 [zeR] 0) (Aa hpn) (fun _=>rfl);simp only[g6]at c80';simp +contextual -implicitDefEqProofs (disch:=omega) only[Tryz.f52,dd52,go_sem,simprocAttr,evAppend,map_append,mu52,↓AE,↓AC,↓AB,↓AA,append_assoc,cons_append,nil_append,g1',g2',g3',g4',c80',AK,AJ,AP,List.length_set];exact rp _ _ _
 ·have hs0:H.set fid (frmB (b||badRL (kids.take 0)))=H:=by
   rw[show badRL (kids.take 0)=false from rfl,Bool.or_false];exact Bi hf
  rw[hs0];exact BL (c:=3) rfl rfl (by rfl) rfl (by simp[AV.underL,AV.under,AD _ _ (AH kids)];omega) hH (((HP.nil.cons (Aa rfl)).cons fun _=>rfl).cons (Aa hpn))
theorem Qs (k:Re) (kids:List Re) (hk1:kids=[k]) (mn mx md:Int) (hw:Re.wtL kids<400000000) (hkok:∀ q∈kids,OkD q) (ih:∀ q∈kids,∀(H:List MB) (fid:Nat) (b:Bool),H[fid]?=some (frmB b)->HP H->call Pg pol1 52 [.rf fid 1 0 0,reAV q] H=some (reAV (nf q),H.set fid (frmB (b||badR q)))) (H:List MB) (fid:Nat) (b:Bool) (hf:H[fid]?=some (frmB b)) (hH:HP H) :
  call Pg pol1 52 [.rf fid 1 0 0,reAV (.mk 4 [] kids mn mx md 0 false)] H=some (reAV (nf (.mk 4 [] kids mn mx md 0 false)),H.set fid (frmB (b||badR (.mk 4 [] kids mn mx md 0 false)))):=by
 have hkl:=Re.wtL_len kids;have hgk:∀ q∈kids,gsR q:=fun q hq=>(hkok q hq).gs;obtain⟨hgn,hwn⟩:=Cm kids (Bf.2 hgk);have hfid:=(List.getElem?_eq_some_iff.1 hf).1;have hpl:AV.plain (reAV (.mk 4 [] kids mn mx md 0 false))=true:=AO _;have hfr:frzArgs pol1 52 0 [.rf fid 1 0 0,reAV (.mk 4 [] kids mn mx md 0 false)] H=some ([.rf fid 1 0 0,reAV (.mk 4 [] kids mn mx md 0 false)],H):=AT _ _ _ (by simp only[mixOk,show pol1.byref 52 0=true from rfl,hpl,Bool.true_or,Bool.or_true,Bool.and_self]);refine AX (pol:=pol1) Tryz.func52 rfl rfl rfl rfl hfr ?_;rw[show reAV (.mk 4 [] kids mn mx md 0 false)=.agg (nodeL 4 [] kids mn mx md 0 false) from congrArg AV.agg Ab];have g1:=@gA H;have g2:=@gA0 H;have g3:=@sA H;have g4:=@sA0 H;simp +contextual -implicitDefEqProofs (disch:=omega) only[Tryz.f52,dd52,go_sem,simprocAttr,evAppend,map_append,mu52,↓AE,↓AC,↓AB,↓AA,append_assoc,cons_append,nil_append,g1,g2,g3,g4];have hX:∀ i,((kids.take i).map nf).length<=400000000:=fun i=>by
  rw[length_map,List.length_take];omega
 have g1':∀(x:MB) (l:List MB) (k:Nat),(H.set fid x++l)[H.length+k]?=l[k]?:=fun x l k=>by
  have:=gA (H:=H.set fid x) l k
  rwa [List.length_set]at this
 have g3':∀(x:MB) (l:List MB) (k:Nat) (y:MB),(H.set fid x++l).set (H.length+k) y=H.set fid x++l.set k y:=fun x l k y=>by
  have:=sA (H:=H.set fid x) l k y
  rwa [List.length_set]at this
 have g2':∀(x:MB) (l:List MB),(H.set fid x++l)[H.length]?=l[0]?:=fun x l=>g1' x l 0;have g4':∀(x:MB) (l:List MB) (y:MB),(H.set fid x++l).set H.length y=H.set fid x++l.set 0 y:=fun x l y=>g3' x l 0 y;have g5:∀(c:Bool) (l:List MB),(H.set fid (frmB c)++l)[fid]?=some (frmB c):=fun c l=>(getElem?_append_left (by simpa using hfid)).trans (getElem?_set_self hfid);have g6:∀(c d:Bool) (l:List MB),(H.set fid (frmB c)++l).set fid (frmB d)=H.set fid (frmB d)++l:=fun c d l=>by
  rw[List.set_append_left _ _ (by simpa using hfid),List.set_set]
 have hx:∀ c:Bool,HP (H.set fid (frmB c)):=fun c=>hH.set rfl;have hpn:AV.plainL [AV.agg (nodeL 4 [] kids mn mx md 0 false)]=true:=by simp[AV.plainL,AV.plain,AF,AH]
 refine AY (M:=mskOf (pol1.mask 52) (pol1.gc 52) (pol1.acts 52) H.length 3) (by rfl) kids.length (fun i=>(⟨61,[(17,I i),(16,I kids.length),(15,.sl false (kids.map reAV)),(5,.ms (H.length+2) 8 i 0 i),(4,.rf (H.length+1) 1 0 0),(3,.rf H.length 1 0 0),(0,.rf fid 1 0 0)],
  H.set fid (frmB (b||badRL (kids.take i)))++[.row 8 [.agg (nodeL 4 [] kids mn mx md 0 false)] 0,.row 8 [zeR] 0,.row 8 (((kids.take i).map nf).map reAV) 0]⟩:St)) (fun _=>True) ?_ ?_ trivial _ ?_
 ·intro i hi _;obtain⟨q,hk⟩:∃ q,kids[i]?=some q:=⟨_,getElem?_eq_getElem hi⟩;have hk':=At hk;have hlt:(i:Int)<(kids.length:Int):=by omega
  have hbt:=B1 hk;have hXl:((kids.take i).map nf).length=i:=by rw[length_map,List.length_take];omega
  have hst:(kids.take (i+1)).map nf=(kids.take i).map nf++[nf q]:=by rw[AZ hk,map_append];rfl
  rw[hbt,hst,<- Bool.or_assoc];have hpk:=AH kids;generalize (kids.take i).map nf=X at *;generalize (b||badRL (kids.take i))=c at *;have h52:=ih q (mem_of_getElem? hk) (H.set fid (frmB c)++[.row 8 [.agg (nodeL 4 [] kids mn mx md 0 false)] 0,.row 8 [zeR] 0,.row 8 (X.map reAV) 0,.row 8 [reAV q] 0]) fid c (g5 _ _) (HP.app (hx c) ((((HP.nil.cons (Aa (by simp only[AV.plainL,AU,Bool.and_self]))).cons (Aa (AH X))).cons fun _=>rfl).cons (Aa hpn)));rw[g6]at h52;have a1:=fun(d:Bool) (b0 b1 b3:MB)=>BY (H:=H.set fid (frmB d)++[b0,b1,.row 8 (X.map reAV) 0,b3]) (i:=H.length+2) (n:=i) (x:=nf q) (t:=true) (rs:=X) (z:=0) (by unfold getRow;rw[g1'];rfl) (zero_le _) hXl (by omega);simp only[g3',set_cons_succ,List.set_cons_zero]at a1;simp +contextual -implicitDefEqProofs (disch:=omega) only[Tryz.f52,dd52,go_sem,simprocAttr,mu52,↓AE,↓AC,↓AB,↓AA,hk',hlt,append_assoc,cons_append,nil_append,g1',g2',g3',g4',h52,a1,AK,AJ,AP,List.length_set];exact BL (c:=3) rfl (by rw[List.length_set];rfl) (by rfl) rfl (by simp[AV.underL,AV.under,AD _ _ hpk];omega) (hx _) (((HP.nil.cons (Aa (AH _))).cons fun _=>rfl).cons (Aa hpn))
 ·intro _;rw[take_length];have hXl:(kids.map nf).length=kids.length:=by simp
  have hnl:=Be kids;have rp:∀(r:Re) (c:Bool) (l:List MB),retPol pol1 52 H (reAV r) (H.set fid (frmB c)++l)=some (reAV r,H.set fid (frmB c)):=fun r c l=>
   Am rfl rfl (AU r) (Bb _ rfl _ _ _) (by rw[List.take_append_of_le_length (by simp),take_of_length_le (by simp)])
  have hz:∀(X:List Re) (c:Bool) (b0 b1:MB) (z:Nat),X.length=kids.length->fz (.ms (H.length+2) 8 kids.length 0 kids.length) (H.set fid (frmB c)++[b0,b1,.row 8 (X.map reAV) z])=some (.sl false (X.map reAV),H.set fid (frmB c)++[b0,b1,.row 8 (X.map reAV) (max z kids.length)]):=fun X c b0 b1 z hX=>by
   have hr:getRow (H.set fid (frmB c)++[b0,b1,.row 8 (X.map reAV) z]) (H.length+2)=some (8,X.map reAV,z):=by unfold getRow;rw[g1'];rfl
   rw[Az hr (by simp[hX]) (AH X)];unfold mark;rw[hr];simp only[g3'];simp
  generalize hc:(b||badRL kids)=c at *;subst hk1;have hbk:badRL [k]=badR k:=by simp[badRL]
  have e:(b||badR (.mk 4 [] [k] mn mx md 0 false))=c:=by rw[Mt];exact hc
  have e2:=Ox k mn mx md;rw[e,e2];have h81:=d81 4 [] [k] mn mx md 0 false (nf k);have c81:=fun b0 b1=>(BB (P:=Pg) (pol:=pol1) (f:=81) (args:=[reAV (.mk 4 [] [k] mn mx md 0 false),.ms (H.length+2) 8 [k].length 0 [k].length]) (H:=H.set fid (frmB c)++[b0,b1,.row 8 (([k].map nf).map reAV) 0]) (l:=[reAV (.mk 4 [] [k] mn mx md 0 false),.sl false (([k].map nf).map reAV)]) (H1:=H.set fid (frmB c)++[b0,b1,.row 8 (([k].map nf).map reAV) (max 0 [k].length)]) rfl (by
   simp only[frzArgs,show pol1.byref 81 0=false from rfl,show pol1.byref 81 (0+1)=false from rfl,Bool.false_eq_true,if_false,Ac _ (AU _),hz ([k].map nf) c b0 b1 0 hXl]) (by simp[AV.plainL,AV.plain,AH,AO])).trans (h81 _)
  rw[show reAV (.mk 4 [] [k] mn mx md 0 false)=.agg [I 4,.sl false [],.sl false [reAV k],I mn,I mx,I md,I 0,.bool false] from congrArg AV.agg Ab]at c81;have hXk:([k].map nf).map reAV=[reAV (nf k)]:=rfl;rw[hXk]at c81;simp only[map_cons,map_nil,List.length_cons,List.length_nil,Nat.zero_add]at c81;have hrep:repA mn mx (nf k)=.tup [reAV emptyR,.bool false]/\repR mn mx (nf k)=nf k∨repA mn mx (nf k)=.tup [reAV (repR mn mx (nf k)),.bool true]:=by
   obtain⟨kop,kset,kkids,kmn,kmx,kmd,kn,kneg⟩:=nf k;rw[Ja];simp only[repR];by_cases c1:kop=0∨(isNoth (.mk kop kset kkids kmn kmx kmd kn kneg)=true/\mn=0)
   ·rw[if_pos c1,if_pos c1];exact .inr rfl
   ·rw[if_neg c1,if_neg c1];by_cases c2:isNoth (.mk kop kset kkids kmn kmx kmd kn kneg)=true∨(kop=4/\kmn=0/\kmx = -1)∨(mn=1/\mx=1)
    ·rw[if_pos c2,if_pos c2];exact .inl ⟨rfl,rfl⟩
    ·rw[if_neg c2,if_neg c2];exact .inr rfl
  rcases hrep with ⟨h1,h2⟩|h1
  ·rw[h1]at c81;rw[h2];simp +contextual -implicitDefEqProofs (disch:=omega) only[Tryz.f52,dd52,go_sem,simprocAttr,evAppend,map_append,mu52,↓AE,↓AC,↓AB,↓AA,append_assoc,cons_append,nil_append,g1',g2',g3',g4',c81,AK,AJ,AP,List.length_set];exact rp _ _ _
  ·rw[h1]at c81;generalize repR mn mx (nf k)=R at *;simp +contextual -implicitDefEqProofs (disch:=omega) only[Tryz.f52,dd52,go_sem,simprocAttr,evAppend,map_append,mu52,↓AE,↓AC,↓AB,↓AA,append_assoc,cons_append,nil_append,g1',g2',g3',g4',c81,AK,AJ,AP,List.length_set];exact rp _ _ _
 ·have hs0:H.set fid (frmB (b||badRL (kids.take 0)))=H:=by
   rw[show badRL (kids.take 0)=false from rfl,Bool.or_false];exact Bi hf
  rw[hs0];exact BL (c:=3) rfl rfl (by rfl) rfl (by simp[AV.underL,AV.under,AD _ _ (AH kids)];omega) hH (((HP.nil.cons (Aa rfl)).cons fun _=>rfl).cons (Aa hpn))
theorem Qu (k:Re) (kids:List Re) (hk1:kids=[k]) (n:Int) (hw:Re.wtL kids<400000000) (hkok:∀ q∈kids,OkD q) (ih:∀ q∈kids,∀(H:List MB) (fid:Nat) (b:Bool),H[fid]?=some (frmB b)->HP H->call Pg pol1 52 [.rf fid 1 0 0,reAV q] H=some (reAV (nf q),H.set fid (frmB (b||badR q)))) (H:List MB) (fid:Nat) (b:Bool) (hf:H[fid]?=some (frmB b)) (hH:HP H) :
  call Pg pol1 52 [.rf fid 1 0 0,reAV (.mk 5 [] kids 0 0 0 n false)] H=some (reAV (nf (.mk 5 [] kids 0 0 0 n false)),H.set fid (frmB (b||badR (.mk 5 [] kids 0 0 0 n false)))):=by
 have hkl:=Re.wtL_len kids;have hgk:∀ q∈kids,gsR q:=fun q hq=>(hkok q hq).gs;obtain⟨hgn,hwn⟩:=Cm kids (Bf.2 hgk);have hfid:=(List.getElem?_eq_some_iff.1 hf).1;have hpl:AV.plain (reAV (.mk 5 [] kids 0 0 0 n false))=true:=AO _;have hfr:frzArgs pol1 52 0 [.rf fid 1 0 0,reAV (.mk 5 [] kids 0 0 0 n false)] H=some ([.rf fid 1 0 0,reAV (.mk 5 [] kids 0 0 0 n false)],H):=AT _ _ _ (by simp only[mixOk,show pol1.byref 52 0=true from rfl,hpl,Bool.true_or,Bool.or_true,Bool.and_self]);refine AX (pol:=pol1) Tryz.func52 rfl rfl rfl rfl hfr ?_;rw[show reAV (.mk 5 [] kids 0 0 0 n false)=.agg (nodeL 5 [] kids 0 0 0 n false) from congrArg AV.agg Ab];have g1:=@gA H;have g2:=@gA0 H;have g3:=@sA H;have g4:=@sA0 H;simp +contextual -implicitDefEqProofs (disch:=omega) only[Tryz.f52,dd52,go_sem,simprocAttr,evAppend,map_append,mu52,↓AE,↓AC,↓AB,↓AA,append_assoc,cons_append,nil_append,g1,g2,g3,g4];have hX:∀ i,((kids.take i).map nf).length<=400000000:=fun i=>by
  rw[length_map,List.length_take];omega
 have g1':∀(x:MB) (l:List MB) (k:Nat),(H.set fid x++l)[H.length+k]?=l[k]?:=fun x l k=>by
  have:=gA (H:=H.set fid x) l k
  rwa [List.length_set]at this
 have g3':∀(x:MB) (l:List MB) (k:Nat) (y:MB),(H.set fid x++l).set (H.length+k) y=H.set fid x++l.set k y:=fun x l k y=>by
  have:=sA (H:=H.set fid x) l k y
  rwa [List.length_set]at this
 have g2':∀(x:MB) (l:List MB),(H.set fid x++l)[H.length]?=l[0]?:=fun x l=>g1' x l 0;have g4':∀(x:MB) (l:List MB) (y:MB),(H.set fid x++l).set H.length y=H.set fid x++l.set 0 y:=fun x l y=>g3' x l 0 y;have g5:∀(c:Bool) (l:List MB),(H.set fid (frmB c)++l)[fid]?=some (frmB c):=fun c l=>(getElem?_append_left (by simpa using hfid)).trans (getElem?_set_self hfid);have g6:∀(c d:Bool) (l:List MB),(H.set fid (frmB c)++l).set fid (frmB d)=H.set fid (frmB d)++l:=fun c d l=>by
  rw[List.set_append_left _ _ (by simpa using hfid),List.set_set]
 have hx:∀ c:Bool,HP (H.set fid (frmB c)):=fun c=>hH.set rfl;have hpn:AV.plainL [AV.agg (nodeL 5 [] kids 0 0 0 n false)]=true:=by simp[AV.plainL,AV.plain,AF,AH]
 refine AY (M:=mskOf (pol1.mask 52) (pol1.gc 52) (pol1.acts 52) H.length 3) (by rfl) kids.length (fun i=>(⟨61,[(17,I i),(16,I kids.length),(15,.sl false (kids.map reAV)),(5,.ms (H.length+2) 8 i 0 i),(4,.rf (H.length+1) 1 0 0),(3,.rf H.length 1 0 0),(0,.rf fid 1 0 0)],
  H.set fid (frmB (b||badRL (kids.take i)))++[.row 8 [.agg (nodeL 5 [] kids 0 0 0 n false)] 0,.row 8 [zeR] 0,.row 8 (((kids.take i).map nf).map reAV) 0]⟩:St)) (fun _=>True) ?_ ?_ trivial _ ?_
 ·intro i hi _;obtain⟨q,hk⟩:∃ q,kids[i]?=some q:=⟨_,getElem?_eq_getElem hi⟩;have hk':=At hk;have hlt:(i:Int)<(kids.length:Int):=by omega
  have hbt:=B1 hk;have hXl:((kids.take i).map nf).length=i:=by rw[length_map,List.length_take];omega
  have hst:(kids.take (i+1)).map nf=(kids.take i).map nf++[nf q]:=by rw[AZ hk,map_append];rfl
  rw[hbt,hst,<- Bool.or_assoc];have hpk:=AH kids;generalize (kids.take i).map nf=X at *;generalize (b||badRL (kids.take i))=c at *;have h52:=ih q (mem_of_getElem? hk) (H.set fid (frmB c)++[.row 8 [.agg (nodeL 5 [] kids 0 0 0 n false)] 0,.row 8 [zeR] 0,.row 8 (X.map reAV) 0,.row 8 [reAV q] 0]) fid c (g5 _ _) (HP.app (hx c) ((((HP.nil.cons (Aa (by simp only[AV.plainL,AU,Bool.and_self]))).cons (Aa (AH X))).cons fun _=>rfl).cons (Aa hpn)));rw[g6]at h52;have a1:=fun(d:Bool) (b0 b1 b3:MB)=>BY (H:=H.set fid (frmB d)++[b0,b1,.row 8 (X.map reAV) 0,b3]) (i:=H.length+2) (n:=i) (x:=nf q) (t:=true) (rs:=X) (z:=0) (by unfold getRow;rw[g1'];rfl) (zero_le _) hXl (by omega);simp only[g3',set_cons_succ,List.set_cons_zero]at a1;simp +contextual -implicitDefEqProofs (disch:=omega) only[Tryz.f52,dd52,go_sem,simprocAttr,mu52,↓AE,↓AC,↓AB,↓AA,hk',hlt,append_assoc,cons_append,nil_append,g1',g2',g3',g4',h52,a1,AK,AJ,AP,List.length_set];exact BL (c:=3) rfl (by rw[List.length_set];rfl) (by rfl) rfl (by simp[AV.underL,AV.under,AD _ _ hpk];omega) (hx _) (((HP.nil.cons (Aa (AH _))).cons fun _=>rfl).cons (Aa hpn))
 ·intro _;rw[take_length];have hXl:(kids.map nf).length=kids.length:=by simp
  have hnl:=Be kids;have rp:∀(r:Re) (c:Bool) (l:List MB),retPol pol1 52 H (reAV r) (H.set fid (frmB c)++l)=some (reAV r,H.set fid (frmB c)):=fun r c l=>
   Am rfl rfl (AU r) (Bb _ rfl _ _ _) (by rw[List.take_append_of_le_length (by simp),take_of_length_le (by simp)])
  have hz:∀(X:List Re) (c:Bool) (b0 b1:MB) (z:Nat),X.length=kids.length->fz (.ms (H.length+2) 8 kids.length 0 kids.length) (H.set fid (frmB c)++[b0,b1,.row 8 (X.map reAV) z])=some (.sl false (X.map reAV),H.set fid (frmB c)++[b0,b1,.row 8 (X.map reAV) (max z kids.length)]):=fun X c b0 b1 z hX=>by
   have hr:getRow (H.set fid (frmB c)++[b0,b1,.row 8 (X.map reAV) z]) (H.length+2)=some (8,X.map reAV,z):=by unfold getRow;rw[g1'];rfl
   rw[Az hr (by simp[hX]) (AH X)];unfold mark;rw[hr];simp only[g3'];simp
  generalize hc:(b||badRL kids)=c at *;subst hk1;have e:(b||badR (.mk 5 [] [k] 0 0 0 n false))=c:=by rw[Mw];exact hc
  have e2:=O0 k n;rw[e,e2];simp +contextual -implicitDefEqProofs (disch:=omega) only[Tryz.f52,dd52,go_sem,simprocAttr,evAppend,map_append,mu52,↓AE,↓AC,↓AB,↓AA,append_assoc,cons_append,nil_append,g1',g2',g3',g4',AK,AJ,AP,List.length_set];exact rp _ _ _
 ·have hs0:H.set fid (frmB (b||badRL (kids.take 0)))=H:=by
   rw[show badRL (kids.take 0)=false from rfl,Bool.or_false];exact Bi hf
  rw[hs0];exact BL (c:=3) rfl rfl (by rfl) rfl (by simp[AV.underL,AV.under,AD _ _ (AH kids)];omega) hH (((HP.nil.cons (Aa rfl)).cons fun _=>rfl).cons (Aa hpn))
theorem d52:∀(N:Nat) (t:Re),t.wt<=N->t.wt<=400000000->OkD t->∀(H:List MB) (fid:Nat) (b:Bool),H[fid]?=some (frmB b)->HP H ->
  call Pg pol1 52 [.rf fid 1 0 0,reAV t] H=some (reAV (nf t),H.set fid (frmB (b||badR t))):=by
 intro N
 induction N with
 | zero=>intro t h;have:=t.wt_pos;omega
 | succ N ihN=>
   intro t hN hw hok H fid b hf hH;have ih:∀ k∈t.sub,∀(H:List MB) (fid:Nat) (b:Bool),H[fid]?=some (frmB b)->HP H->call Pg pol1 52 [.rf fid 1 0 0,reAV k] H=some (reAV (nf k),H.set fid (frmB (b||badR k))):=fun k hk=>by
    have h1:=Re.wtL_mem hk;have h2:=Re.wt_sub t;have hk2:OkD k:=by
     obtain⟨op,set,kids,mn,mx,md,n,neg⟩:=t;exact hok.kids k hk
    exact ihN k (by omega) (by omega) hk2
   have h2:=Re.wt_sub t;cases hok with
   | empty=>exact Nq [] rfl (by simp[Re.wtL]) (fun k hk=>by cases hk) ih H fid b hf hH
   | set s hs=>exact Qr s hs [] rfl (by simp[Re.wtL]) (fun k hk=>by cases hk) ih H fid b hf hH
   | cat kids h=>exact Qt kids (by simp only[Re.sub]at h2;omega) h ih H fid b hf hH
   | alt kids h=>exact Qv kids (by simp only[Re.sub]at h2;omega) h ih H fid b hf hH
   | rep k mn mx md h h1 h3=>exact Qs k [k] rfl mn mx md (by simp only[Re.sub]at h2;omega) (by simpa using h) ih H fid b hf hH
   | cap k n h=>exact Qu k [k] rfl n (by simp only[Re.sub]at h2;omega) (by simpa using h) ih H fid b hf hH
theorem d27 (t:Re) (hw:t.wt<=400000000) (hok:OkD t) (H:List MB):call Pg pol1 27 [reAV t] H=some (if badR t then .tup [reAV emptyR,I 4] else .tup [reAV (nf t),I 0],H):=by
 have hpr:AV.plain (if badR t then AV.tup [reAV emptyR,I 4] else AV.tup [reAV (nf t),I 0])=true:=by
  split
  ·rfl
  ·simp[AV.plain,AV.plainL,AO]
 have h52:=fun(b0 b1:MB) (h0:plB b0) (h1:plB b1)=>d52 _ t (le_refl _) hw hok [b0,b1,frmB false] 2 false rfl (((HP.nil.cons fun _=>rfl).cons h1).cons h0);have h52':=h52 (.row 8 [reAV t] 0) (.row 8 [zeR] 0) (Aa (by simp only[AV.plainL,AU,Bool.and_self])) (fun _=>rfl);simp only[set_cons_succ,List.set_cons_zero,Bool.false_or]at h52';refine AR Tryz.func27 rfl rfl rfl rfl rfl rfl (fun _=>rfl) (by simp[AV.plain,AV.plainL,AO]) hpr ?_ H;generalize nf t=R at *;generalize badR t=c at *;cases c
 ·rw[if_neg (by simp)];simp +contextual -implicitDefEqProofs (disch:=omega) only[Tryz.f27,dd27,go_sem,simprocAttr,evAppend,map_append,mu27,↓AE,↓AC,↓AB,↓AA,h52',AK,AJ,AP];exact fzEq (by simp[AV.plain,AV.plainL,AO]) rfl
 ·rw[if_pos rfl];simp +contextual -implicitDefEqProofs (disch:=omega) only[Tryz.f27,dd27,go_sem,simprocAttr,evAppend,map_append,mu27,↓AE,↓AC,↓AB,↓AA,h52',AK,AJ,AP];exact⟨_,rfl⟩
end
section
attribute [local go_sem] evAppend map_append
abbrev szB:MB:=.row 1 [.clo 92 [.rf 1 1 0 0,.rf 2 1 0 0]] 0
theorem d92 (b0:MB):∀(N:Nat) (r:Re),r.wt<=N->r.wt<=1000000000->∀ n:Nat,n+r.size<=4000000000 ->
  call Pg pol1 92 [.pt (reC r),.rf 1 1 0 0,.rf 2 1 0 0] [b0,.row 1 [I n] 0,szB]=some (.tup [],[b0,.row 1 [I (n+r.size:Nat)] 0,szB])
 | 0,r,h,_,_,_=>by have:=r.wt_pos;omega
 | N+1,.mk op set kids mn mx md k neg,h,hN,n,hn=>by
   have hkl:=Re.wtL_len kids;have hwt:1+set.length+Re.wtL kids=(Re.mk op set kids mn mx md k neg).wt:=by simp[Re.wt]
   have hsz:(Re.mk op set kids mn mx md k neg).size=1+Re.sizeL kids:=by simp[Re.size]
   have ih:=fun k (hk:k∈kids)=>d92 b0 N k (by have:=Re.wtL_mem hk;omega) (by have:=Re.wtL_mem hk;omega);rw[hsz]at hn |-;have ea:(.pt (reC (.mk op set kids mn mx md k neg)):AV)=.pt (nodeL op set kids mn mx md k neg):=congrArg AV.pt Ab;rw[ea];have fr:frzArgs pol1 92 0 [.pt (nodeL op set kids mn mx md k neg),.rf 1 1 0 0,.rf 2 1 0 0] [b0,.row 1 [I n] 0,szB]=some ([.pt (nodeL op set kids mn mx md k neg),.rf 1 1 0 0,.rf 2 1 0 0],[b0,.row 1 [I n] 0,szB]):=
    AT _ _ _ (by simp[mixOk,show pol1.byref 92 1=true from rfl,show pol1.byref 92 2=true from rfl,AV.plain,AV.plainL,AF,AH])
   have rt:∀ x:Int,retPol pol1 92 [b0,.row 1 [I n] 0,szB] (.tup []) [b0,.row 1 [I x] 0,szB]=some (.tup [],[b0,.row 1 [I x] 0,szB]):=fun x=>
    Am rfl rfl rfl (by simp[keptOk,MB.beq_refl,MB.under,AV.underL,AV.under]) rfl
   refine AX (pol:=pol1) Tryz.func92 rfl rfl rfl rfl fr ?_;simp +contextual -implicitDefEqProofs (disch:=omega) only[Tryz.f92,dd92,go_sem,simprocAttr,mu92,↓AE,↓AC,↓AB,↓AA];refine AY (M:=mskOf (pol1.mask 92) (pol1.gc 92) (pol1.acts 92) 3 2) (by rfl) kids.length (fun i=>(⟨24,[(12,I i),(11,I kids.length),(2,.rf 2 1 0 0),(0,.pt (nodeL op set kids mn mx md k neg))],[b0,.row 1 [I (n+1+Re.sizeL (kids.take i):Nat)] 0,szB]⟩:St)) (fun _=>True) ?_ ?_ trivial _ (by rfl)
   ·intro i hi _;obtain⟨q,hq⟩:∃ q,kids[i]?=some q:=⟨_,getElem?_eq_getElem hi⟩;have hs:=Re.sizeL_take hq;have hs2:=Re.sizeL_le (l:=kids) (i:=i+1);have ihq:=ih q (mem_of_getElem? hq) (n+1+Re.sizeL (kids.take i)) (by omega);have g1:=At hq;have hlt:(i:Int)<(kids.length:Int):=by omega
    rw[hs,<- Nat.add_assoc];simp +contextual -implicitDefEqProofs (disch:=omega) only[Tryz.f92,dd92,go_sem,simprocAttr,mu92,↓AE,↓AC,↓AB,↓AA,g1,hlt,ihq,AK,AJ,AP];repeat' (first|intro _|apply And.intro|(unfold dOk;kernel_rfl)|exact St.beq_refl _|exact AQ|(show altO _ _ _ _=true;kernel_rfl)|(show (_||_)=true;kernel_rfl)|(show (_&&_)=true;kernel_rfl))
    rfl
   ·intro _;rw[take_length,<- Nat.add_assoc];simp +contextual -implicitDefEqProofs (disch:=omega) only[Tryz.f92,dd92,go_sem,simprocAttr,mu92,↓AE,↓AC,↓AB,↓AA];exact rt _
theorem d55 (r:Re) (hw:r.wt<=1000000000) (H:List MB):call Pg pol1 55 [reAV r] H=some (I r.size,H):=by
 have hc:=d92 (.row 8 [.agg (reC r)] 1) r.wt r (le_refl _) hw 0 (by have:=r.size_wt;omega);rw[Nat.zero_add]at hc;refine AR Tryz.func55 rfl rfl rfl rfl rfl rfl (fun _=>rfl) (by simp[AV.plain,AV.plainL,AO]) rfl ?_ H;have hz:fz (.rf 0 1 0 0) [.row 8 [.agg (reC r)] 0]=some (.pt (reC r),[.row 8 [.agg (reC r)] 1]):=F0 (x:=.agg (reC r)) (k:=8) (z:=0) rfl rfl rfl (AO r);have hc':call Pg pol1 92 [.pt (reC r),.rf 1 1 0 0,.rf 2 1 0 0] [.row 8 [.agg (reC r)] 1,.row 1 [I 0] 0,.row 1 [.clo 92 [.rf 1 1 0 0,.rf 2 1 0 0]] 0]=some (.tup [],[.row 8 [.agg (reC r)] 1,.row 1 [I r.size] 0,.row 1 [.clo 92 [.rf 1 1 0 0,.rf 2 1 0 0]] 0]):=hc;simp +contextual -implicitDefEqProofs (disch:=omega) only[Tryz.f55,dd55,go_sem,simprocAttr,mu55,↓AE,↓AC,↓AB,↓AA,hc',hz,AK,AJ,AP,lookD,look];exact fzEq rfl rfl
theorem d93 (b0:MB):∀(N:Nat) (r:Re),r.wt<=N->r.wt<=1000000000 ->
  call Pg pol1 93 [.pt (reC r),.rf 1 1 0 0] [b0,.row 1 [.clo 93 [.rf 1 1 0 0]] 0]=some (I r.depth,[b0,.row 1 [.clo 93 [.rf 1 1 0 0]] 0])
 | 0,r,h,_=>by have:=r.wt_pos;omega
 | N+1,.mk op set kids mn mx md k neg,h,hN=>by
   have hkl:=Re.wtL_len kids;have hwt:1+set.length+Re.wtL kids=(Re.mk op set kids mn mx md k neg).wt:=by simp[Re.wt]
   have hsz:(Re.mk op set kids mn mx md k neg).depth=1+Re.depthL kids:=by simp[Re.depth]
   have hdl:Re.depthL kids<=Re.wtL kids:=Nat.le_trans (Re.depthL_size kids) (Re.sizeL_wt kids);have ih:=fun k (hk:k∈kids)=>d93 b0 N k (by have:=Re.wtL_mem hk;omega) (by have:=Re.wtL_mem hk;omega);rw[hsz];have ea:(.pt (reC (.mk op set kids mn mx md k neg)):AV)=.pt (nodeL op set kids mn mx md k neg):=congrArg AV.pt Ab;rw[ea];have fr:frzArgs pol1 93 0 [.pt (nodeL op set kids mn mx md k neg),.rf 1 1 0 0] [b0,.row 1 [.clo 93 [.rf 1 1 0 0]] 0]=some ([.pt (nodeL op set kids mn mx md k neg),.rf 1 1 0 0],[b0,.row 1 [.clo 93 [.rf 1 1 0 0]] 0]):=
    AT _ _ _ (by simp[mixOk,show pol1.byref 93 1=true from rfl,AV.plain,AV.plainL,AF,AH])
   have rt:∀ x:Int,retPol pol1 93 [b0,.row 1 [.clo 93 [.rf 1 1 0 0]] 0] (I x) [b0,.row 1 [.clo 93 [.rf 1 1 0 0]] 0]=some (I x,[b0,.row 1 [.clo 93 [.rf 1 1 0 0]] 0]):=fun x=>
    Am rfl rfl rfl (by simp[keptOk,MB.beq_refl]) rfl
   refine AX (pol:=pol1) Tryz.func93 rfl rfl rfl rfl fr ?_;simp +contextual -implicitDefEqProofs (disch:=omega) only[Tryz.f93,dd93,go_sem,simprocAttr,mu93,↓AE,↓AC,↓AB,↓AA];refine AY (M:=mskOf (pol1.mask 93) (pol1.gc 93) (pol1.acts 93) 2 3) (by rfl) kids.length (fun i=>(⟨27,[(11,I i),(10,I kids.length),(4,I (Re.depthL (kids.take i))),(1,.rf 1 1 0 0),(0,.pt (nodeL op set kids mn mx md k neg))],[b0,.row 1 [.clo 93 [.rf 1 1 0 0]] 0]⟩:St)) (fun _=>True) ?_ ?_ trivial _ (by rfl)
   ·intro i hi _;obtain⟨q,hq⟩:∃ q,kids[i]?=some q:=⟨_,getElem?_eq_getElem hi⟩;have hs:=Re.depthL_take hq;have hs2:=Re.depthL_le (l:=kids) (i:=i+1);have ihq:=ih q (mem_of_getElem? hq);have g1:=At hq;have hlt:(i:Int)<(kids.length:Int):=by omega
    have hmx:(if(q.depth:Int) > (Re.depthL (kids.take i):Int) then(q.depth:Int) else(Re.depthL (kids.take i):Int))=((max (Re.depthL (kids.take i)) q.depth:Nat):Int):=by split<;>omega
    rw[hs];simp +contextual -implicitDefEqProofs (disch:=omega) only[Tryz.f93,dd93,go_sem,simprocAttr,mu93,↓AE,↓AC,↓AB,↓AA,g1,hlt,ihq,evMax,AK,AJ,AP];repeat' (first|intro _|apply And.intro|(unfold dOk;kernel_rfl)|exact St.beq_refl _|exact AQ|(show altO _ _ _ _=true;kernel_rfl)|(show (_||_)=true;kernel_rfl)|(show (_&&_)=true;kernel_rfl))
    rw[hmx];rfl
   ·intro _;rw[take_length,Nat.add_comm];simp +contextual -implicitDefEqProofs (disch:=omega) only[Tryz.f93,dd93,go_sem,simprocAttr,mu93,↓AE,↓AC,↓AB,↓AA];exact rt _
theorem d56 (r:Re) (hw:r.wt<=1000000000) (H:List MB):call Pg pol1 56 [reAV r] H=some (I r.depth,H):=by
 have hc:=d93 (.row 8 [.agg (reC r)] 1) r.wt r (le_refl _) hw;refine AR Tryz.func56 rfl rfl rfl rfl rfl rfl (fun _=>rfl) (by simp[AV.plain,AV.plainL,AO]) rfl ?_ H;have hz:fz (.rf 0 1 0 0) [.row 8 [.agg (reC r)] 0]=some (.pt (reC r),[.row 8 [.agg (reC r)] 1]):=F0 (x:=.agg (reC r)) (k:=8) (z:=0) rfl rfl rfl (AO r);simp +contextual -implicitDefEqProofs (disch:=omega) only[Tryz.f56,dd56,go_sem,simprocAttr,mu56,↓AE,↓AC,↓AB,↓AA,hc,hz,AK,AJ,AP,lookD,look];exact fzEq rfl rfl
end
section
theorem Qm (s:List (Int×Int)) (hs:SetN s) (x:Int) (H:List MB):call Pg pol1 54 [reAV (setR s),I x] H=some (reAV (drv x (setR s)),H):=by
 have h89:=f43 s x (by have:=hs.len;omega);have e1:drv x (setR s)=if hasSpan s x=true then emptyR else nothR:=by simp[drv]
 rw[e1];have hpl:AV.plain (reAV (setR s))=true:=AU _;refine AR Tryz.func54 rfl rfl rfl rfl rfl rfl (fun _=>rfl) (by simp[AV.plain,AV.plainL,AO]) (AU _) ?_ H;rw[show reAV (setR s)=.agg (nodeL 1 s [] 0 0 0 0 false) from congrArg AV.agg Ab];cases hh:hasSpan s x with
 | true=>
   rw[hh]at h89;rw[if_pos rfl];simp +contextual -implicitDefEqProofs (disch:=omega) only[Tryz.f54,dd54,go_sem,simprocAttr,evAppend,map_append,mu54,↓AE,↓AC,↓AB,↓AA,h89,d82,AK,AJ,AP];exact fzEq (AU _) rfl
 | false=>
   rw[hh]at h89;rw[if_neg (by simp)];simp +contextual -implicitDefEqProofs (disch:=omega) only[Tryz.f54,dd54,go_sem,simprocAttr,evAppend,map_append,mu54,↓AE,↓AC,↓AB,↓AA,h89,d91,AK,AJ,AP];exact fzEq (AU _) rfl
theorem Np (x:Int) (H:List MB):call Pg pol1 54 [reAV emptyR,I x] H=some (reAV (drv x emptyR),H):=by
 have e1:drv x emptyR=nothR:=by simp[drv]
 rw[e1];refine AR Tryz.func54 rfl rfl rfl rfl rfl rfl (fun _=>rfl) (by simp[AV.plain,AV.plainL,AO]) (AU _) ?_ H;rw[show reAV emptyR=.agg (nodeL 0 [] [] 0 0 0 0 false) from congrArg AV.agg Ab];simp +contextual -implicitDefEqProofs (disch:=omega) only[Tryz.f54,dd54,go_sem,simprocAttr,evAppend,map_append,mu54,↓AE,↓AC,↓AB,↓AA,d91,AK,AJ,AP];exact fzEq (AU _) rfl
theorem Qp (k:Re) (n:Int) (x:Int) (ih:∀ H,call Pg pol1 54 [reAV k,I x] H=some (reAV (drv x k),H)) (H:List MB):call Pg pol1 54 [reAV (.mk 5 [] [k] 0 0 0 n false),I x] H=some (reAV (drv x (.mk 5 [] [k] 0 0 0 n false)),H):=by
 have e1:drv x (.mk 5 [] [k] 0 0 0 n false)=drv x k:=by simp[drv,drvL]
 rw[e1];refine AR Tryz.func54 rfl rfl rfl rfl rfl rfl (fun _=>rfl) (by simp[AV.plain,AV.plainL,AO]) (AU _) ?_ H;rw[show reAV (.mk 5 [] [k] 0 0 0 n false)=.agg (nodeL 5 [] [k] 0 0 0 n false) from congrArg AV.agg Ab];generalize drv x k=R at *;simp +contextual -implicitDefEqProofs (disch:=omega) only[Tryz.f54,dd54,go_sem,simprocAttr,evAppend,map_append,mu54,↓AE,↓AC,↓AB,↓AA,ih,AK,AJ,AP];exact fzEq (AU _) rfl
theorem Qn (k:Re) (mn mx md:Int) (x:Int) (h1:0<=mn/\mn<=32) (h2:mx = -1∨(1<=mx/\mx<=32/\mn<=mx)) (ih:∀ H,call Pg pol1 54 [reAV k,I x] H=some (reAV (drv x k),H)) (H:List MB):call Pg pol1 54 [reAV (.mk 4 [] [k] mn mx md 0 false),I x] H=some (reAV (drv x (.mk 4 [] [k] mn mx md 0 false)),H):=by
 refine AR Tryz.func54 rfl rfl rfl rfl rfl rfl (fun _=>rfl) (by simp[AV.plain,AV.plainL,AO]) (AU _) ?_ H;rw[show reAV (.mk 4 [] [k] mn mx md 0 false)=.agg (nodeL 4 [] [k] mn mx md 0 false) from congrArg AV.agg Ab];have hw:IntKind.i64.wrap (mn-1)=mn-1:=by rw[i64_in]<;>omega
 have hw2:IntKind.i64.wrap (mx-1)=mx-1:=by rw[i64_in]<;>omega
 by_cases hm:mx=1
 ·subst hm;have e1:drv x (.mk 4 [] [k] mn 1 md 0 false)=drv x k:=by simp[drv,drvL]
  rw[e1];generalize drv x k=R at *;simp +contextual -implicitDefEqProofs (disch:=omega) only[Tryz.f54,dd54,go_sem,simprocAttr,evAppend,map_append,mu54,↓AE,↓AC,↓AB,↓AA,ih,AK,AJ,AP];exact fzEq (AU _) rfl
 ·have e1:drv x (.mk 4 [] [k] mn mx md 0 false)=.mk 2 [] [drv x k,.mk 4 [] [k] (max (mn-1) 0) (if mx = -1 then mx else mx-1) md 0 false] 0 0 0 0 false:=by simp[drv,drvL,hm]
  rw[e1];generalize drv x k=R at *;have hmx:(if 0 > mn-1 then 0 else mn-1)=max (mn-1) 0:=by split<;>omega
  by_cases hm1:mx = -1
  ·subst hm1;simp +contextual -implicitDefEqProofs (disch:=omega) only[Tryz.f54,dd54,go_sem,simprocAttr,evAppend,map_append,mu54,↓AE,↓AC,↓AB,↓AA,ih,hw,evMax,hmx,AK,AJ,AP];rw[show reAV (.mk 2 [] [R,.mk 4 [] [k] (max (mn-1) 0) (-1) md 0 false] 0 0 0 0 false)=.agg [I 2,.sl false [],.sl false ([R,.mk 4 [] [k] (max (mn-1) 0) (-1) md 0 false].map reAV),I 0,I 0,I 0,I 0,.bool false] from congrArg AV.agg Ab];exact Ix (l:=[R,.mk 4 [] [k] (max (mn-1) 0) (-1) md 0 false])
  ·simp +contextual -implicitDefEqProofs (disch:=omega) only[Tryz.f54,dd54,go_sem,simprocAttr,evAppend,map_append,mu54,↓AE,↓AC,↓AB,↓AA,ih,hw,hw2,hm,hm1,evMax,hmx,AK,AJ,AP];rw[show reAV (.mk 2 [] [R,.mk 4 [] [k] (max (mn-1) 0) (mx-1) md 0 false] 0 0 0 0 false)=.agg [I 2,.sl false [],.sl false ([R,.mk 4 [] [k] (max (mn-1) 0) (mx-1) md 0 false].map reAV),I 0,I 0,I 0,I 0,.bool false] from congrArg AV.agg Ab];exact Ix (l:=[R,.mk 4 [] [k] (max (mn-1) 0) (mx-1) md 0 false])
theorem c90 (op:Int) (X:List Re) (z:Re) {i:Nat}{H H1:List MB} (hz:fz (.ms i 8 X.length 0 X.length) H=some (.sl false (X.map reAV),H1)):call Pg pol1 90 [I op,.ms i 8 X.length 0 X.length,reAV z] H=some (reAV (joinR op X z),H1):=
 (BB (P:=Pg) (pol:=pol1) (f:=90) (l:=[I op,.sl false (X.map reAV),reAV z]) (H1:=H1) rfl (by
   simp only[frzArgs,show pol1.byref 90 0=false from rfl,show pol1.byref 90 (0+1)=false from rfl,show pol1.byref 90 (0+1+1)=false from rfl,Bool.false_eq_true,if_false,hz,Ac _ (show AV.plain (I op)=true from rfl),Ac _ (AU z)]) (by simp[AV.plainL,AV.plain,AH,AO])).trans (d90 op X z _)
theorem Qq (kids:List Re) (x:Int) (hl:Re.wtL kids<=1000000000) (ih:∀ k∈kids,∀ H,call Pg pol1 54 [reAV k,I x] H=some (reAV (drv x k),H)) (H:List MB):call Pg pol1 54 [reAV (.mk 3 [] kids 0 0 0 0 false),I x] H=some (reAV (drv x (.mk 3 [] kids 0 0 0 0 false)),H):=by
 have hkl:=Re.wtL_len kids;have e1:drv x (.mk 3 [] kids 0 0 0 0 false)=joinR 3 (kids.map (drv x)) nothR:=by simp[drv,GM]
 rw[e1];refine AR Tryz.func54 rfl rfl rfl rfl rfl rfl (fun _=>rfl) (by simp[AV.plain,AV.plainL,AO]) (AU _) ?_ H;rw[show reAV (.mk 3 [] kids 0 0 0 0 false)=.agg (nodeL 3 [] kids 0 0 0 0 false) from congrArg AV.agg Ab];simp +contextual -implicitDefEqProofs (disch:=omega) only[Tryz.f54,dd54,go_sem,simprocAttr,evAppend,map_append,mu54,↓AE,↓AC,↓AB,↓AA];refine AY (M:=(mskOf (pol1.mask 54) (pol1.gc 54) (pol1.acts 54) 0 10)) (by rfl) kids.length (fun i=>(⟨113,[(36,I i),(35,I kids.length),(34,.sl false (kids.map reAV)),(5,.ms 2 8 i 0 i),(4,.rf 1 1 0 0),(1,I x)],[.row 8 [.agg (nodeL 3 [] kids 0 0 0 0 false)] 0,.row 8 [zeR] 0,.row 8 (((kids.take i).map (drv x)).map reAV) 0]⟩:St)) (fun _=>True) ?_ ?_ trivial _ (by first|rfl|(refine AN rfl (by rfl) (by rfl) (by rfl) ?_ ?_<;>simp[AV.underL,AV.under,MB.under,AD,AI,AG,AF,AL,AM,-map_take,AH]))
 ·intro i hi _;obtain⟨k,hk⟩:∃ k,kids[i]?=some k:=⟨_,getElem?_eq_getElem hi⟩;have hk':=At hk;have hlt:(i:Int)<(kids.length:Int):=by omega
  have hXl:((kids.take i).map (drv x)).length=i:=by rw[length_map,List.length_take];omega
  have hst:(kids.take (i+1)).map (drv x)=(kids.take i).map (drv x)++[drv x k]:=by rw[AZ hk,map_append];rfl
  have hih:=ih k (mem_of_getElem? hk);rw[hst];generalize (kids.take i).map (drv x)=X at *;generalize drv x k=R at *;have a1:=fun(b0 b1 b3:MB)=>BY (H:=[b0,b1,.row 8 (X.map reAV) 0,b3]) (i:=2) (n:=i) (x:=R) (t:=true) (rs:=X) (z:=0) rfl (zero_le _) hXl (by omega);simp only[set_cons_succ,List.set_cons_zero]at a1;simp +contextual -implicitDefEqProofs (disch:=omega) only[Tryz.f54,dd54,go_sem,simprocAttr,mu54,↓AE,↓AC,↓AB,↓AA,hk',hlt,hih,a1,AK,AJ,AP];generalize X++[R]=X2;exact(by first|rfl|(refine AN rfl (by rfl) (by rfl) (by rfl) ?_ ?_<;>simp[AV.underL,AV.under,MB.under,AD,AI,AG,AF,AL,AM,-map_take,AH]))
 ·intro _;rw[take_length];have hXl:(kids.map (drv x)).length=kids.length:=by simp
  generalize kids.map (drv x)=X at *;have h90:=fun b0 b1=>c90 3 X nothR (i:=2) (H:=[b0,b1,.row 8 (X.map reAV) 0]) (H1:=[b0,b1,.row 8 (X.map reAV) X.length]) (by
   rw[Az (z:=0) rfl (by simp) (AH X)];simp[mark,getRow])
  rw[hXl]at h90;simp +contextual -implicitDefEqProofs (disch:=omega) only[Tryz.f54,dd54,go_sem,simprocAttr,evAppend,map_append,mu54,↓AE,↓AC,↓AB,↓AA,h90,d91,AK,AJ,AP];exact fzEq (AU _) rfl
def catA (x:Int):List Re->Nat->List Re
 | k::ks,i+1=>joinR 2 (drv x k::ks) emptyR::catA x ks i
 | _,_=>[]
theorem N1 (x:Int) (l:List Re):catA x l 0=[]:=by cases l<;>rfl
theorem Hf (x:Int):∀(l:List Re) (i:Nat),i<=l.length->(catA x l i).length=i
 | [],0,_=>rfl
 | [],i+1,h=>by simp at h
 | k::l,0,_=>rfl
 | k::l,i+1,h=>by simp[catA,Hf x l i (by simpa using h)]
theorem Fb {x:Int}:∀ {l:List Re}{i:Nat}{k:Re},l[i]?=some k->catA x l (i+1)=catA x l i++[joinR 2 (drv x k::l.drop (i+1)) emptyR]
 | [],i,k,h=>by simp at h
 | y::l,0,k,h=>by
   simp at h;subst h;cases l<;>rfl
 | y::l,i+1,k,h=>by
   have:=Fb (x:=x) (l:=l) (i:=i) (by simpa using h);simp only[catA,List.drop_succ_cons,cons_append]at this |-;rw[this]
theorem Fc {x:Int}:∀ {l:List Re}{i:Nat},i<=l.length->(∀ k∈l.take i,nullG k=true)->catD x l=catA x l i++catD x (l.drop i)
 | [],0,_,_=>rfl
 | [],i+1,h,_=>by simp at h
 | y::l,0,_,_=>by cases l<;>rfl
 | y::l,i+1,h,hn=>by
   have h1:=hn y (by simp);have:=Fc (x:=x) (l:=l) (i:=i) (by simpa using h) fun k hk=>hn k (by simp[hk]);rw[catD,if_pos h1,this];rfl
theorem N3 {x:Int}{l:List Re}{i:Nat}{k:Re} (h:l[i]?=some k) (hn:∀ q∈l.take i,nullG q=true) (hk:nullG k=false):catD x l=catA x l (i+1):=by
 have hlt:=(List.getElem?_eq_some_iff.1 h).1;rw[Fc (by omega) hn,Fb h];have e:l.drop i=k::l.drop (i+1):=by
  rw[List.drop_eq_getElem_cons hlt];rw[getElem?_eq_getElem hlt]at h;rw[Option.some.inj h]
 rw[e,catD,if_neg (by simp[hk])]
theorem PW {x:Int}{l:List Re} (hn:∀ q∈l,nullG q=true):catD x l=catA x l l.length:=by
 rw[Fc (i:=l.length) (le_refl _) (by rw[take_length];exact hn),List.drop_length];simp[catD]
theorem Qo (kids:List Re) (x:Int) (hl:Re.wtL kids<=1000000000) (ih:∀ k∈kids,∀ H,call Pg pol1 54 [reAV k,I x] H=some (reAV (drv x k),H)) (hnu:∀ k∈kids,∀ H,call Pg pol1 21 [reAV k] H=some (.bool (nullG k),H)) (H:List MB):call Pg pol1 54 [reAV (.mk 2 [] kids 0 0 0 0 false),I x] H=some (reAV (drv x (.mk 2 [] kids 0 0 0 0 false)),H):=by
 have hkl:=Re.wtL_len kids;have e1:drv x (.mk 2 [] kids 0 0 0 0 false)=joinR 3 (catD x kids) nothR:=by simp[drv]
 rw[e1];refine AR Tryz.func54 rfl rfl rfl rfl rfl rfl (fun _=>rfl) (by simp[AV.plain,AV.plainL,AO]) (AU _) ?_ H;rw[show reAV (.mk 2 [] kids 0 0 0 0 false)=.agg (nodeL 2 [] kids 0 0 0 0 false) from congrArg AV.agg Ab];simp +contextual -implicitDefEqProofs (disch:=omega) only[Tryz.f54,dd54,go_sem,simprocAttr,evAppend,map_append,mu54,↓AE,↓AC,↓AB,↓AA];refine AY (M:=(mskOf (pol1.mask 54) (pol1.gc 54) (pol1.acts 54) 0 18)) (by rfl) kids.length (fun i=>(⟨113,[(55,I i),(54,I kids.length),(53,.sl false (kids.map reAV)),(8,.ms 2 8 i 0 i),(4,.rf 1 1 0 0),(2,.rf 0 1 0 0),(1,I x)],[.row 8 [.agg (nodeL 2 [] kids 0 0 0 0 false)] 0,.row 8 [zeR] 0,.row 8 ((catA x kids i).map reAV) 0]⟩:St)) (fun i=>∀ q∈kids.take i,nullG q=true) ?_ ?_ (by simp) _ (by rw[N1];exact(by first|rfl|(refine AN rfl (by rfl) (by rfl) (by rfl) ?_ ?_<;>simp[AV.underL,AV.under,MB.under,AD,AI,AG,AF,AL,AM,-map_take,AH])))
 ·intro i hi hinv;obtain⟨k,hk⟩:∃ k,kids[i]?=some k:=⟨_,getElem?_eq_getElem hi⟩;have hk':=At hk;have hlt:(i:Int)<(kids.length:Int):=by omega
  have hAl:=Hf x kids i (by omega);have hAs:=Fb (x:=x) hk;have hih:=ih k (mem_of_getElem? hk);have hnk:=hnu k (mem_of_getElem? hk);have hw:IntKind.i64.wrap ((i:Int)+1)=((i+1:Nat):Int):=EA (by omega);have hdl:(kids.drop (i+1)).length=kids.length-(i+1):=by simp
  have hle:((i+1:Nat):Int)<=(kids.length:Int):=by omega
  have hdr:((kids.map reAV).take kids.length).drop (i+1)=(kids.drop (i+1)).map reAV:=by rw[take_of_length_le (by simp),List.map_drop]
  have h8:((kids.map reAV).all fun y=>decide (y.cells.length=8))=true:=by
   rw[List.all_eq_true];intro y hy;obtain⟨r,_,rfl⟩:=mem_map.1 hy;simp only[AV.cells,AK,decide_true]
  simp only[AV.cells]at h8;have hpd:=AH (kids.drop (i+1));have hAX:∀ q∈kids.take i,nullG q=true:=hinv;have hstop:nullG k=false->catD x kids=catA x kids (i+1):=fun h=>N3 hk hinv h;have hgo:nullG k=true->∀ q∈kids.take (i+1),nullG q=true:=fun h q hq=>by
   rw[AZ hk]at hq;rcases List.mem_append.1 hq with g|g
   ·exact hinv q g
   ·rw[mem_singleton.1 g];exact h
  rw[hAs]at hstop |-;generalize kids.drop (i+1)=D at *;generalize catA x kids i=X at *;generalize drv x k=R at *;have a1:=fun(b0 b1 b2 b3:MB)=>EZ (H:=[b0,b1,b2,b3,.row 8 ([R].map reAV) 0]) (i:=4) (n:=1) (xs:=D) (t:=false) (rs:=[R]) (z:=0) rfl (zero_le _) rfl (by omega);simp only[set_cons_succ,List.set_cons_zero,map_cons,map_nil]at a1;have c90p:=fun(b0 b1 b2 b3:MB)=>c90 2 ([R]++D) emptyR (i:=4) (H:=[b0,b1,b2,b3,.row 8 (([R]++D).map reAV) 0]) (H1:=[b0,b1,b2,b3,.row 8 (([R]++D).map reAV) ([R]++D).length]) (by
   rw[Az (z:=0) rfl (by simp) (AH _)];simp[mark,getRow])
  have hPl:([R]++D).length=1+D.length:=by simp;omega
  rw[hPl]at c90p;rw[show R::D=[R]++D from rfl]at hstop |-;generalize [R]++D=P0 at *;generalize joinR 2 P0 emptyR=J at *;have a2:=fun(b0 b1 b3 b4:MB)=>BY (H:=[b0,b1,.row 8 (X.map reAV) 0,b3,b4]) (i:=2) (n:=i) (x:=J) (t:=true) (rs:=X) (z:=0) rfl (zero_le _) hAl (by omega);simp only[set_cons_succ,List.set_cons_zero]at a2;cases hn:nullG k with
  | true=>
    rw[hn]at hnk;have hg2:=hgo hn;simp +contextual -implicitDefEqProofs (disch:=omega) only[Tryz.f54,dd54,go_sem,simprocAttr,mu54,↓AE,↓AC,↓AB,↓AA,hk',hlt,hih,hw,hle,hdr,h8,a1,c90p,a2,d82,hnk,AK,AJ,AP];repeat' (first|intro _|apply And.intro|(unfold dOk;kernel_rfl)|exact St.beq_refl _|exact AQ|(show altO _ _ _ _=true;kernel_rfl)|(show (_||_)=true;kernel_rfl)|(show (_&&_)=true;kernel_rfl))
    ·rename_i q hq;exact hg2 q hq
    ·generalize X++[J]=X2;exact(by first|rfl|(refine AN rfl (by rfl) (by rfl) (by rfl) ?_ ?_<;>simp[AV.underL,AV.under,MB.under,AD,AI,AG,AF,AL,AM,-map_take,AH]))
  | false=>
    rw[hn]at hnk;rw[hstop hn];have hX2l:(X++[J]).length=i+1:=by simp[hAl]
    generalize X++[J]=X2 at *;have h90:=fun b0 b1 b3 b4=>c90 3 X2 nothR (i:=2) (H:=[b0,b1,.row 8 (X2.map reAV) 0,b3,b4]) (H1:=[b0,b1,.row 8 (X2.map reAV) X2.length,b3,b4]) (by
     rw[Az (z:=0) rfl (by simp) (AH _)];simp[mark,getRow])
    rw[hX2l]at h90;simp +contextual -implicitDefEqProofs (disch:=omega) only[Tryz.f54,dd54,go_sem,simprocAttr,mu54,↓AE,↓AC,↓AB,↓AA,hk',hlt,hih,hw,hle,hdr,h8,a1,c90p,a2,d82,d91,hnk,h90,AK,AJ,AP];repeat' (first|intro _|apply And.intro|(unfold dOk;kernel_rfl)|exact St.beq_refl _|exact AQ|(show altO _ _ _ _=true;kernel_rfl)|(show (_||_)=true;kernel_rfl)|(show (_&&_)=true;kernel_rfl))
    exact fzEq (AU _) rfl
 ·intro hinv;rw[take_length]at hinv;rw[PW hinv];have hAl:=Hf x kids kids.length (le_refl _);generalize catA x kids kids.length=X at *;have h90:=fun b0 b1=>c90 3 X nothR (i:=2) (H:=[b0,b1,.row 8 (X.map reAV) 0]) (H1:=[b0,b1,.row 8 (X.map reAV) X.length]) (by
   rw[Az (z:=0) rfl (by simp) (AH X)];simp[mark,getRow])
  rw[hAl]at h90;simp +contextual -implicitDefEqProofs (disch:=omega) only[Tryz.f54,dd54,go_sem,simprocAttr,evAppend,map_append,mu54,↓AE,↓AC,↓AB,↓AA,h90,d91,AK,AJ,AP];exact fzEq (AU _) rfl
theorem LM {caps top op:Int}{set:List (Int×Int)}{kids:List Re}{mn mx md n:Int}{neg:Bool} (h:wholeG caps top (.mk op set kids mn mx md n neg)=true):∀ k∈kids,wholeG caps top k=true:=(DY h).1
theorem d54 (caps top x:Int):∀(N:Nat) (t:Re),t.wt<=N->t.wt<=1000000->OkD t->wholeG caps top t=true->∀ H,call Pg pol1 54 [reAV t,I x] H=some (reAV (drv x t),H):=by
 intro N
 induction N with
 | zero=>intro t h;have:=t.wt_pos;omega
 | succ N ihN=>
   intro t hN hw hok hwh;have h2:=Re.wt_sub t;have hsub:∀ k∈t.sub,OkD k/\wholeG caps top k=true/\k.wt<=Re.wtL t.sub:=fun k hk=>by
    obtain⟨op,set,kids,mn,mx,md,n,neg⟩:=t;exact⟨hok.kids k hk,LM hwh k hk,Re.wtL_mem hk⟩
   have ih:∀ k∈t.sub,∀ H,call Pg pol1 54 [reAV k,I x] H=some (reAV (drv x k),H):=fun k hk=>by
    obtain⟨a,b,c⟩:=hsub k hk;exact ihN k (by omega) (by omega) a b
   have hnu:∀ k∈t.sub,∀ H,call Pg pol1 21 [reAV k] H=some (.bool (nullG k),H):=fun k hk H=>by
    obtain⟨a,b,c⟩:=hsub k hk;exact f105 k (by omega) caps top b H
   cases hok with
   | empty=>exact Np x
   | set s hs=>exact Qm s hs x
   | cat kids h=>exact Qo kids x (by simp only[Re.sub]at h2;omega) ih hnu
   | alt kids h=>exact Qq kids x (by simp only[Re.sub]at h2;omega) ih
   | rep k mn mx md h h1 h3=>exact Qn k mn mx md x h1 h3 (ih k (by simp[Re.sub]))
   | cap k n h=>exact Qp k n x (ih k (by simp[Re.sub]))
end
end Go.Ev
