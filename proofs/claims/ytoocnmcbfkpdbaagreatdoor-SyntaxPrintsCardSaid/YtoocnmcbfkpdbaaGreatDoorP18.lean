/- What functions of the program compute; no further conditions. -/
import Derived.Test.YtoocnmcbfkpdbaaGreatDoorP17
set_option linter.unusedVariables false
set_option linter.unusedSimpArgs false
open List (all_append append_nil drop_zero length_map map_append map_cons map_nil take_of_length_le)
open Go.Proofs Go.RowKit Go.IntWalk
set_option maxHeartbeats 8000000
set_option maxRecDepth 100000
namespace Go.Ev
attribute [local go_sem] evBin BA BG bndO bnd evEq eqCells not_false_eq_true not_true_eq_false Ak Array.size_empty List.length_append tySzE List.head?_drop Nat.mul_one Al Az Ae Am An Go.IntWalk.i64_quo Go.IntWalk.rem_in Ap
section
theorem Eh {j:List AV->List MB->Option (List AV×List MB)} (ys:List AV):∀(xs:List AV) (H:List MB),fzL j (xs++ys) H=(match fzL j xs H with
  | some (a,H1)=>(match fzL j ys H1 with
    | some (b,H2)=>some (a++b,H2)
    | none=>none)
  | none=>none)
 | [],H=>by
   simp only[List.nil_append,fzL];cases fzL j ys H with
   | none=>rfl
   | some q=>rfl
 | x::xs,H=>by
   simp only[List.cons_append,fzL];cases fzA j x H with
   | none=>rfl
   | some q=>
     simp only[Eh ys xs q.2];cases fzL j xs q.2 with
     | none=>rfl
     | some q2=>
       simp only[];cases fzL j ys q2.2 with
       | none=>rfl
       | some q3=>rfl
theorem Fn {H:List MB}{i n z:Nat}{els:List AV}{q:List (Int×Int)}{t:Bool} (hi:getRow1 H i=some (2,els,z)) (hn:els.length=n) (hz:z<=n) (hr:n+q.length<=4000000000) :
  evAppend Pg H 23 23 (.ms i 2 n 0 n) (.sl t (q.map spanAV))=some (.ms i 2 (n+q.length) 0 (n+q.length),H.set i (.row 2 (els++q.map spanAV) z)):=by
 have hs:srcElems Pg H 52 (.sl t (q.map spanAV))=some (q.map spanAV):=rfl;have hall:((q.map spanAV).all fun y=>decide (y.cells.length=2)&&y.cells.all AV.ok)=true:=by
  rw[List.all_eq_true];intro x hx;obtain⟨y,_,rfl⟩:=List.mem_map.1 hx;rfl
 rw[BV (e:=52) (by kernel_rfl) (by kernel_rfl) (k:=2) (by kernel_rfl) (by_:=16) (by kernel_rfl) (ze:=.agg [I 0,I 0]) (by kernel_rfl) rfl (by omega) hs hall hi hn hz (Ap (by rw[length_map];exact hr) (by omega)),length_map]
theorem K3 (a b c d e f:Int) {j:Nat} (h:j<6):∃ v,([I a,I b,I c,I d,I e,I f]:List AV)[j]?=some (I v):=by
 rcases j with _|_|_|_|_|_|j
 all_goals first|exact⟨_,rfl⟩|omega
theorem JZ (a b c d e:Int) {j:Nat} (h:j<5):∃ v,([I a,I b,I c,I d,I e]:List AV)[j]?=some (I v):=by
 rcases j with _|_|_|_|_|j
 all_goals first|exact⟨_,rfl⟩|omega
theorem K4 (a b c d:Int) {j:Nat} (h:j<4):∃ v,([I a,I b,I c,I d]:List AV)[j]?=some (I v):=by
 rcases j with _|_|_|_|j
 all_goals first|exact⟨_,rfl⟩|omega
theorem I9 (re:Re) (hre:re.wt<=1000000) (q:List Int) (hq:q.length<=1000000) (b0 b1 b2:MB) (op mn mx md n:Int) (neg:Bool) (S:List (Int×Int)) (K:List Re) (els:List AV) (sn kt ko kl:Nat) (hS:S.length=sn) (he:els.length=kt) (hk:ko+kl<=kt)
  (hf:∀ H,fzL (fzJ 5) ((els.drop ko).take kl) H=some (K.map reAV,H)) :
  call Pg pol1 36 [.agg (reC re),pathAV q,.agg [I op,.ms 3 2 sn 0 sn,.ms 4 8 kt ko kl,I mn,I mx,I md,I n,.bool neg]] [b0,b1,b2,.row 2 (S.map spanAV) 0,.row 8 els 0] =
   some (.tup [.agg (reC (putG q re (.mk op S K mn mx md n neg)).1),I (putG q re (.mk op S K mn mx md n neg)).2],[b0,b1,b2,.row 2 (S.map spanAV) sn,.row 8 els (ko+kl)]):=by
 have h1:∀ b4,fzA (fzJ 6) (.ms 3 2 sn 0 sn) [b0,b1,b2,.row 2 (S.map spanAV) 0,b4]=some (.sl false (S.map spanAV),[b0,b1,b2,.row 2 (S.map spanAV) sn,b4]):=fun b4=>by
  rw[EA (n:=5) (z:=0) (k:=2) (els:=S.map spanAV) rfl (by rw[length_map];exact hS) (AE S)];simp[mark,getRow]
 have h2:∀ b3,fzA (fzJ 6) (.ms 4 8 kt ko kl) [b0,b1,b2,b3,.row 8 els 0]=some (.sl false (K.map reAV),[b0,b1,b2,b3,.row 8 els (ko+kl)]):=fun b3=>by
  have:=HZ (n:=5) (k:=8) (tot:=kt) (off:=ko) (len:=kl) (ys:=K.map reAV) (H:=[b0,b1,b2,b3,.row 8 els 0]) (id:=4) (H':=mark [b0,b1,b2,b3,.row 8 els 0] 4 (ko+kl)) rfl he hk (hf _);rw[this];simp[mark,getRow]
 have hby:∀ i,pol1.byref 36 i=false:=fun i=>rfl;have hz1:∀ H,fz (.agg (reC re)) H=some (.agg (reC re),H):=fun H=>Ao H (Aw re);have hz2:∀ H,fz (pathAV q) H=some (pathAV q,H):=fun H=>Ao H (by simp[AV.plain,AF]);have hz3:fz (.agg [I op,.ms 3 2 sn 0 sn,.ms 4 8 kt ko kl,I mn,I mx,I md,I n,.bool neg]) [b0,b1,b2,.row 2 (S.map spanAV) 0,.row 8 els 0]=some (reAV (.mk op S K mn mx md n neg),[b0,b1,b2,.row 2 (S.map spanAV) sn,.row 8 els (ko+kl)]):=by
  rw[show reAV (.mk op S K mn mx md n neg)=.agg (nodeL op S K mn mx md n neg) from congrArg AV.agg Ag];simp only[fz,EB,fzL,h1,h2,F3];rfl
 have hfr:frzArgs pol1 36 0 [.agg (reC re),pathAV q,.agg [I op,.ms 3 2 sn 0 sn,.ms 4 8 kt ko kl,I mn,I mx,I md,I n,.bool neg]] [b0,b1,b2,.row 2 (S.map spanAV) 0,.row 8 els 0] =
   some ([.agg (reC re),pathAV q,reAV (.mk op S K mn mx md n neg)],[b0,b1,b2,.row 2 (S.map spanAV) sn,.row 8 els (ko+kl)]):=by
  simp only[frzArgs,hby,Bool.false_eq_true,if_false,hz1,hz2,hz3]
 rw[Dh rfl hfr (by simp[AV.plainL,AV.plain,AF,Aw])];exact s36 q re _ hq hre _
theorem s10 (p:Pat) (hw:p.re.wt<=2100) (at_ how by_:Int) (hat:In64 at_) (hhow:In64 how) (hby:In64 by_):∃ P:Pat,P.re.wt<=1000000/\∀ H,call Pg pol1 10 [patAV p,I at_,I how,I by_] H=some (patAV P,H):=by
 obtain⟨re,caps,runes⟩:=p;simp only at hw
 suffices h:∃ r,(∃ P:Pat,P.re.wt<=1000000/\r=patAV P)/\∀ H,call Pg pol1 10 [patAV ⟨re,caps,runes⟩,I at_,I how,I by_] H=some (r,H) by
  obtain⟨r,⟨P,h1,rfl⟩,h2⟩:=h;exact⟨P,h1,h2⟩
 have hl8:=AO re;have hdr:∀ l,(reC re++l).drop 8=l:=fun l=>by rw[List.drop_append_of_le_length (by omega),AS];rfl
 have htk8:∀ r l,List.take 8 (reC r++l)=reC r:=fun r l=>by
  have:=AO r;rw[List.take_append_of_le_length (by omega)];exact take_of_length_le (by omega)
 have hdr8:∀ r l,List.drop 8 (reC r++l)=l:=fun r l=>by
  have:=AO r;rw[List.drop_append_of_le_length (by omega),AS];rfl
 have ht10:∀ r (a b:AV),List.take 10 (reC r++[a,b])=reC r++[a,b]:=fun r a b=>take_of_length_le (by simp[AO]);have hp1:List.take 8 (patC ⟨re,caps,runes⟩)=reC re:=htk8 re _;have hp2:List.drop 9 (patC ⟨re,caps,runes⟩)=[.bool runes]:=by
  show List.drop 9 (reC re++[I caps,.bool runes])=_;rw[show (9:Nat)=8+1 from rfl,<- List.drop_drop,hdr8];rfl
 have hp3:(patC ⟨re,caps,runes⟩)[9]?=some (.bool runes):=by
  show (reC re++[I caps,.bool runes])[9]?=_;rw[List.getElem?_append_right (by omega),hl8];rfl
 have hp4:List.take 9 (patC ⟨re,caps,runes⟩)=reC re++[I caps]:=by
  show List.take 9 (reC re++[I caps,.bool runes])=_;rw[List.take_append,hl8,take_of_length_le (by omega)];rfl
 have hp5:List.drop 10 (patC ⟨re,caps,runes⟩)=[]:=List.drop_of_length_le (by simp[AO]);have hlen10:∀ r,(reC r).length+(0+1+1)=10:=fun r=>by rw[AO]
 have h45:=s34 re.wt re (Nat.le_refl _) (by omega);have hsz:=DB re;have hs1:=re.size_wt;have hs0:=re.size_pos;have hd1:=re.depth_size;have hdeep:=Cb re;generalize pathsG re=PS at *;have har:=Bm (n:=at_) (m:=(PS.length:Int)) (by omega);have h12a:=f12 at_ PS.length hat (by omega);generalize aroundI at_ PS.length=a at *;obtain⟨an,rfl⟩:∃ an:Nat,a=an:=⟨a.toNat,by omega⟩;obtain⟨q,hq⟩:∃ q,PS[an]?=some q:=⟨_,List.getElem?_eq_getElem (by omega)⟩;have hql:=hdeep q (List.mem_of_getElem? hq);have h46:=s35 q re (by omega) (by omega);have hxw:=Js q re;generalize atG q re=X at *;obtain⟨⟨op,set,kids,mn,mx,md,n,neg⟩,e⟩:=X;simp only at h46 hxw
 replace h46:∀ H,call Pg pol1 35 [reAV re,pathAV q] H=some (.tup [.agg (nodeL op set kids mn mx md n neg),I e],H):=fun H=>by
  rw[h46 H,show reAV (.mk op set kids mn mx md n neg)=.agg (nodeL op set kids mn mx md n neg) from congrArg AV.agg Ag]
 have hxw':1+set.length+Re.wtL kids<=re.wt:=by simpa [Re.wt] using hxw
 have hkl:=Re.wtL_len kids;have hrh:=Bm (n:=how) (m:=12) (by omega);have h12h:=f12 how 12 hhow (by omega);have h12c:=f12 by_ 4 hby (by omega);have h12d:=f12 by_ 5 hby (by omega);have h12e:=f12 by_ 6 hby (by omega);have hr4:=Bm (n:=by_) (m:=4) (by omega);have hr5:=Bm (n:=by_) (m:=5) (by omega);have hr6:=Bm (n:=by_) (m:=6) (by omega);generalize aroundI how 12=hw12 at *;generalize aroundI by_ 4=v4 at *;generalize aroundI by_ 5=v5 at *;generalize aroundI by_ 6=v6 at *;obtain⟨j4,rfl⟩:∃ j:Nat,v4=j:=⟨v4.toNat,by omega⟩;obtain⟨j5,rfl⟩:∃ j:Nat,v5=j:=⟨v5.toNat,by omega⟩;obtain⟨j6,rfl⟩:∃ j:Nat,v6=j:=⟨v6.toNat,by omega⟩;have hap1:∀ b0 b1 b2,evAppend Pg [b0,b1,b2,.row 2 [] 0] 23 23 (.ms 3 2 0 0 0) (.sl false (set.map spanAV))=some (.ms 3 2 set.length 0 set.length,[b0,b1,b2,.row 2 (set.map spanAV) 0]):=fun b0 b1 b2=>by
  have:=Fn (H:=[b0,b1,b2,.row 2 [] 0]) (i:=3) (n:=0) (z:=0) (els:=[]) (q:=set) (t:=false) rfl rfl (by omega) (by omega);rw[Nat.zero_add]at this;exact this
 have hap2:∀ b0 b1 b2 b3,evAppend Pg [b0,b1,b2,b3,.row 8 [] 0] 24 24 (.ms 4 8 0 0 0) (.sl false (kids.map reAV))=some (.ms 4 8 kids.length 0 kids.length,[b0,b1,b2,b3,.row 8 (kids.map reAV) 0]):=fun b0 b1 b2 b3=>by
  have:=GG (H:=[b0,b1,b2,b3,.row 8 [] 0]) (i:=4) (n:=0) (z:=0) (els:=[]) (q:=kids) (t:=false) rfl rfl (by omega) (by omega);rw[Nat.zero_add]at this;exact this
 have hkf:∀ H,fzL (fzJ 5) (((kids.map reAV).drop 0).take kids.length) H=some (kids.map reAV,H):=fun H=>by
  rw[drop_zero,take_of_length_le (by simp)];exact BC _ _ _ (AK kids)
 have hput:=fun b0 b1 b2 op mn mx md n neg S sn hS=>I9 re (by omega) q (by omega) b0 b1 b2 op mn mx md n neg S kids (kids.map reAV) sn kids.length 0 kids.length hS (by simp) (by omega) hkf;simp only[Nat.zero_add]at hput;have hputw:∀ op S K mn mx md n neg,1+S.length+Re.wtL K<=100000->(putG q re (.mk op S K mn mx md n neg)).1.wt<=1000000:=fun op S K mn mx md n neg h=>by
  have:=Hu q re (.mk op S K mn mx md n neg);simp only[Re.wt]at this;omega
 have fin:∀(y:Re) (c:Int) (ru:Bool) (H:List MB),y.wt<=1000000->∃ r,(∃ P:Pat,P.re.wt<=1000000/\r=patAV P)/\∃ H',fz (.agg (reC y++[I c,.bool ru])) H=some (r,H'):=fun y c ru H hy=>
  ⟨patAV ⟨y,c,ru⟩,⟨⟨y,c,ru⟩,hy,rfl⟩,_,Ao _ (Aa ⟨y,c,ru⟩)⟩
 refine If Tryz.func10 rfl rfl rfl rfl rfl rfl (fun _=>rfl) (by simp[AV.plainL,AV.plain];exact Aa _) (by rintro r ⟨P,_,rfl⟩;exact Aa P) ?_;have hcase:hw12=0∨hw12=1∨hw12=2∨hw12=3∨hw12=4∨hw12=5∨hw12=6∨hw12=7∨hw12=8∨hw12=9∨hw12=10∨hw12=11:=by omega
 rcases hcase with rfl|rfl|rfl|rfl|rfl|rfl|rfl|rfl|rfl|rfl|rfl|rfl
 ·obtain⟨v,hv⟩:=K3 by_ (-1) 12 2 9 4 (j:=j6) (by omega);have hp:=fun b0 b1 b2=>hput b0 b1 b2 v mn mx md n neg set set.length rfl;simp +contextual -implicitDefEqProofs (disch:=omega) only[Tryz.f10,dd10,go_sem,simprocAttr,map_append,mu10,↓AD,↓AC,↓AB,↓AA,hq,h45,h46,h12a,h12h,h12c,h12d,h12e,hap1,hap2,htk8,hdr8,ht10,hlen10,Ay,Ax,Ai,A6,A9,A7,A8,all_append,AO,AU,AP,AS,append_nil,hv,hp];repeat' (first|intro _|apply And.intro|(unfold dOk;kernel_rfl)|exact St.beq_refl _|exact AI|(show altO _ _ _ _=true;kernel_rfl)|(show (_||_)=true;kernel_rfl)|(show (_&&_)=true;kernel_rfl))
  exact fin _ caps runes _ (hputw _ set kids _ _ _ _ _ (by omega))
 ·have hp:=fun b0 b1 b2=>hput b0 b1 b2 op mn mx md n neg (set++[(by_,by_)]) (set.length+1) (by simp);have hap3:∀ b0 b1 b2 b4,evAppend Pg [b0,b1,b2,.row 2 (set.map spanAV) 0,b4] 23 23 (.ms 3 2 set.length 0 set.length) (.sl true [.agg [I by_,I by_]])=some (.ms 3 2 (set.length+1) 0 (set.length+1),[b0,b1,b2,.row 2 ((set++[(by_,by_)]).map spanAV) 0,b4]):=fun b0 b1 b2 b4=>by
   have:=Fn (H:=[b0,b1,b2,.row 2 (set.map spanAV) 0,b4]) (i:=3) (n:=set.length) (z:=0) (els:=set.map spanAV) (q:=[(by_,by_)]) (t:=true) rfl (by simp) (by omega) (by simp;omega);rw[map_append];exact this
  simp +contextual -implicitDefEqProofs (disch:=omega) only[Tryz.f10,dd10,go_sem,simprocAttr,mu10,↓AD,↓AC,↓AB,↓AA,hq,h45,h46,h12a,h12h,h12c,h12d,h12e,hap1,hap2,htk8,hdr8,ht10,hlen10,Ay,Ax,Ai,A6,A9,A7,A8,all_append,AO,AU,AP,AS,append_nil,hap3,hp];repeat' (first|intro _|apply And.intro|(unfold dOk;kernel_rfl)|exact St.beq_refl _|exact AI|(show altO _ _ _ _=true;kernel_rfl)|(show (_||_)=true;kernel_rfl)|(show (_&&_)=true;kernel_rfl))
  exact fin _ caps runes _ (hputw _ (set++[(by_,by_)]) kids _ _ _ _ _ (by simp[Re.wtL,Re.wt];omega))
 ·cases set with
  | nil=>
    have hp:=fun b0 b1 b2=>hput b0 b1 b2 op mn mx md n neg [] 0 rfl;simp only[map_nil,List.length_nil]at hap1 hp;simp +contextual -implicitDefEqProofs (disch:=omega) only[Tryz.f10,dd10,go_sem,simprocAttr,map_append,mu10,↓AD,↓AC,↓AB,↓AA,hq,h45,h46,h12a,h12h,h12c,h12d,h12e,hap1,hap2,htk8,hdr8,ht10,hlen10,Ay,Ax,Ai,A6,A9,A7,A8,all_append,AO,AU,AP,AS,append_nil,hp];repeat' (first|intro _|apply And.intro|(unfold dOk;kernel_rfl)|exact St.beq_refl _|exact AI|(show altO _ _ _ _=true;kernel_rfl)|(show (_||_)=true;kernel_rfl)|(show (_&&_)=true;kernel_rfl))
    exact fin _ caps runes _ (hputw _ [] kids _ _ _ _ _ (by simp[Re.wtL,Re.wt];omega))
  | cons s0 set=>
    obtain⟨v,hv⟩:=JZ by_ 255 256 1114111 1114112 (j:=j5) (by omega);obtain⟨lo,hi⟩:=s0;have hp:=fun b0 b1 b2=>hput b0 b1 b2 op mn mx md n neg ((lo,v)::set) (set.length+1) (by simp);simp only[map_cons,List.length_cons]at hap1 hp hxw';simp +contextual -implicitDefEqProofs (disch:=omega) only[Tryz.f10,dd10,go_sem,simprocAttr,map_append,mu10,↓AD,↓AC,↓AB,↓AA,hq,h45,h46,h12a,h12h,h12c,h12d,h12e,hap1,hap2,htk8,hdr8,ht10,hlen10,Ay,Ax,Ai,A6,A9,A7,A8,all_append,AO,AU,AP,AS,append_nil,hv,hp];repeat' (first|intro _|apply And.intro|(unfold dOk;kernel_rfl)|exact St.beq_refl _|exact AI|(show altO _ _ _ _=true;kernel_rfl)|(show (_||_)=true;kernel_rfl)|(show (_&&_)=true;kernel_rfl))
    exact fin _ caps runes _ (hputw _ ((lo,v)::set) kids _ _ _ _ _ (by simp[Re.wtL,Re.wt];omega))
 ·obtain⟨v,hv⟩:=K4 by_ 32 33 (-1) (j:=j4) (by omega);have hp:=fun b0 b1 b2=>hput b0 b1 b2 op v mx md n neg set set.length rfl;simp +contextual -implicitDefEqProofs (disch:=omega) only[Tryz.f10,dd10,go_sem,simprocAttr,map_append,mu10,↓AD,↓AC,↓AB,↓AA,hq,h45,h46,h12a,h12h,h12c,h12d,h12e,hap1,hap2,htk8,hdr8,ht10,hlen10,Ay,Ax,Ai,A6,A9,A7,A8,all_append,AO,AU,AP,AS,append_nil,hv,hp];repeat' (first|intro _|apply And.intro|(unfold dOk;kernel_rfl)|exact St.beq_refl _|exact AI|(show altO _ _ _ _=true;kernel_rfl)|(show (_||_)=true;kernel_rfl)|(show (_&&_)=true;kernel_rfl))
  exact fin _ caps runes _ (hputw _ set kids _ _ _ _ _ (by omega))
 ·obtain⟨v,hv⟩:=K3 by_ 32 33 (-1) (-2) 0 (j:=j6) (by omega);have hp:=fun b0 b1 b2=>hput b0 b1 b2 op mn v md n neg set set.length rfl;simp +contextual -implicitDefEqProofs (disch:=omega) only[Tryz.f10,dd10,go_sem,simprocAttr,map_append,mu10,↓AD,↓AC,↓AB,↓AA,hq,h45,h46,h12a,h12h,h12c,h12d,h12e,hap1,hap2,htk8,hdr8,ht10,hlen10,Ay,Ax,Ai,A6,A9,A7,A8,all_append,AO,AU,AP,AS,append_nil,hv,hp];repeat' (first|intro _|apply And.intro|(unfold dOk;kernel_rfl)|exact St.beq_refl _|exact AI|(show altO _ _ _ _=true;kernel_rfl)|(show (_||_)=true;kernel_rfl)|(show (_&&_)=true;kernel_rfl))
  exact fin _ caps runes _ (hputw _ set kids _ _ _ _ _ (by omega))
 ·obtain⟨v,hv⟩:=K4 by_ 2 3 (-1) (j:=j4) (by omega);have hp:=fun b0 b1 b2=>hput b0 b1 b2 op mn mx v n neg set set.length rfl;simp +contextual -implicitDefEqProofs (disch:=omega) only[Tryz.f10,dd10,go_sem,simprocAttr,map_append,mu10,↓AD,↓AC,↓AB,↓AA,hq,h45,h46,h12a,h12h,h12c,h12d,h12e,hap1,hap2,htk8,hdr8,ht10,hlen10,Ay,Ax,Ai,A6,A9,A7,A8,all_append,AO,AU,AP,AS,append_nil,hv,hp];repeat' (first|intro _|apply And.intro|(unfold dOk;kernel_rfl)|exact St.beq_refl _|exact AI|(show altO _ _ _ _=true;kernel_rfl)|(show (_||_)=true;kernel_rfl)|(show (_&&_)=true;kernel_rfl))
  exact fin _ caps runes _ (hputw _ set kids _ _ _ _ _ (by omega))
 ·obtain⟨v,hv⟩:=JZ by_ 0 1 5 6 (j:=j5) (by omega);have hp:=fun b0 b1 b2=>hput b0 b1 b2 op mn mx md v neg set set.length rfl;simp +contextual -implicitDefEqProofs (disch:=omega) only[Tryz.f10,dd10,go_sem,simprocAttr,map_append,mu10,↓AD,↓AC,↓AB,↓AA,hq,h45,h46,h12a,h12h,h12c,h12d,h12e,hap1,hap2,htk8,hdr8,ht10,hlen10,Ay,Ax,Ai,A6,A9,A7,A8,all_append,AO,AU,AP,AS,append_nil,hv,hp];repeat' (first|intro _|apply And.intro|(unfold dOk;kernel_rfl)|exact St.beq_refl _|exact AI|(show altO _ _ _ _=true;kernel_rfl)|(show (_||_)=true;kernel_rfl)|(show (_&&_)=true;kernel_rfl))
  exact fin _ caps runes _ (hputw _ set kids _ _ _ _ _ (by omega))
 ·have hp:=fun b0 b1 b2=>hput b0 b1 b2 op mn mx md n (!neg) set set.length rfl;simp +contextual -implicitDefEqProofs (disch:=omega) only[Tryz.f10,dd10,go_sem,simprocAttr,map_append,mu10,↓AD,↓AC,↓AB,↓AA,hq,h45,h46,h12a,h12h,h12c,h12d,h12e,hap1,hap2,htk8,hdr8,ht10,hlen10,Ay,Ax,Ai,A6,A9,A7,A8,all_append,AO,AU,AP,AS,append_nil,hp];repeat' (first|intro _|apply And.intro|(unfold dOk;kernel_rfl)|exact St.beq_refl _|exact AI|(show altO _ _ _ _=true;kernel_rfl)|(show (_||_)=true;kernel_rfl)|(show (_&&_)=true;kernel_rfl))
  exact fin _ caps runes _ (hputw _ set kids _ _ _ _ _ (by omega))
 ·have hzf:∀ H,fzL (fzJ 5) (((kids.map reAV++[AV.agg [I 0,.sl true [],.sl true [],I 0,I 0,I 0,I 0,.bool false]]).drop 0).take (kids.length+1)) H=some ((kids++[zeroRe]).map reAV,H):=fun H=>by
   rw[drop_zero,take_of_length_le (by simp),Eh,BC _ _ _ (AK kids),map_append];rfl
  have hp:=fun b0 b1 b2=>I9 re (by omega) q (by omega) b0 b1 b2 op mn mx md n neg set (kids++[zeroRe]) (kids.map reAV++[.agg [I 0,.sl true [],.sl true [],I 0,I 0,I 0,I 0,.bool false]]) set.length (kids.length+1) 0 (kids.length+1) rfl (by simp) (by omega) hzf;simp only[Nat.zero_add]at hp;have hap3:∀ b0 b1 b2 b3,evAppend Pg [b0,b1,b2,b3,.row 8 (kids.map reAV) 0] 24 24 (.ms 4 8 kids.length 0 kids.length) (.sl true [.agg [I 0,.sl true [],.sl true [],I 0,I 0,I 0,I 0,.bool false]])=some (.ms 4 8 (kids.length+1) 0 (kids.length+1),[b0,b1,b2,b3,.row 8 (kids.map reAV++[.agg [I 0,.sl true [],.sl true [],I 0,I 0,I 0,I 0,.bool false]]) 0]):=fun b0 b1 b2 b3=>
   GH (H:=[b0,b1,b2,b3,.row 8 (kids.map reAV) 0]) (i:=4) (n:=kids.length) (z:=0) (els:=kids.map reAV) (t:=true) rfl (by simp) rfl (by omega) (by omega)
  simp +contextual -implicitDefEqProofs (disch:=omega) only[Tryz.f10,dd10,go_sem,simprocAttr,map_append,mu10,↓AD,↓AC,↓AB,↓AA,hq,h45,h46,h12a,h12h,h12c,h12d,h12e,hap1,hap2,htk8,hdr8,ht10,hlen10,Ay,Ax,Ai,A6,A9,A7,A8,all_append,AO,AU,AP,AS,append_nil,hap3,hp];repeat' (first|intro _|apply And.intro|(unfold dOk;kernel_rfl)|exact St.beq_refl _|exact AI|(show altO _ _ _ _=true;kernel_rfl)|(show (_||_)=true;kernel_rfl)|(show (_&&_)=true;kernel_rfl))
  exact fin _ caps runes _ (hputw _ set (kids++[zeroRe]) _ _ _ _ _ (by rw[Re.wtL_append];simp[Re.wtL,Re.wt];omega))
 ·cases kids with
  | nil=>
    have hp:=fun b0 b1 b2=>hput b0 b1 b2 op mn mx md n neg set set.length rfl;simp only[List.length_nil,map_nil]at hp hap2;simp +contextual -implicitDefEqProofs (disch:=omega) only[Tryz.f10,dd10,go_sem,simprocAttr,map_append,mu10,↓AD,↓AC,↓AB,↓AA,hq,h45,h46,h12a,h12h,h12c,h12d,h12e,hap1,hap2,htk8,hdr8,ht10,hlen10,Ay,Ax,Ai,A6,A9,A7,A8,all_append,AO,AU,AP,AS,append_nil,hp];repeat' (first|intro _|apply And.intro|(unfold dOk;kernel_rfl)|exact St.beq_refl _|exact AI|(show altO _ _ _ _=true;kernel_rfl)|(show (_||_)=true;kernel_rfl)|(show (_&&_)=true;kernel_rfl))
    exact fin _ caps runes _ (hputw _ set [] _ _ _ _ _ (by simp[Re.wtL,Re.wt];omega))
  | cons k0 kids=>
    have hzf:∀ H,fzL (fzJ 5) ((((k0::kids).map reAV).drop 1).take kids.length) H=some (kids.map reAV,H):=fun H=>by
     rw[map_cons,List.drop_succ_cons,drop_zero,take_of_length_le (by simp)];exact BC _ _ _ (AK kids)
    have hp:=fun b0 b1 b2=>I9 re (by omega) q (by omega) b0 b1 b2 op mn mx md n neg set kids ((k0::kids).map reAV) set.length (kids.length+1) 1 kids.length rfl (by simp) (by omega) hzf;simp only[map_cons,List.length_cons]at hp hap2;simp +contextual -implicitDefEqProofs (disch:=omega) only[Tryz.f10,dd10,go_sem,simprocAttr,map_append,mu10,↓AD,↓AC,↓AB,↓AA,hq,h45,h46,h12a,h12h,h12c,h12d,h12e,hap1,hap2,htk8,hdr8,ht10,hlen10,Ay,Ax,Ai,A6,A9,A7,A8,all_append,AO,AU,AP,AS,append_nil,hp,Nat.add_sub_cancel];repeat' (first|intro _|apply And.intro|(unfold dOk;kernel_rfl)|exact St.beq_refl _|exact AI|(show altO _ _ _ _=true;kernel_rfl)|(show (_||_)=true;kernel_rfl)|(show (_&&_)=true;kernel_rfl))
    exact fin _ caps runes _ (hputw _ set kids _ _ _ _ _ (by simp[Re.wtL]at hxw';omega))
 ·obtain⟨v,hv⟩:=JZ by_ 0 9 10 (-1) (j:=j5) (by omega);have hp:=fun b0 b1 b2=>hput b0 b1 b2 op mn mx md n neg set set.length rfl;simp +contextual -implicitDefEqProofs (disch:=omega) only[Tryz.f10,dd10,go_sem,simprocAttr,map_append,mu10,↓AD,↓AC,↓AB,↓AA,hp1,hp2,hp4,hp5,List.append_assoc,hq,h45,h46,h12a,h12h,h12c,h12d,h12e,hap1,hap2,htk8,hdr8,ht10,hlen10,Ay,Ax,Ai,A6,A9,A7,A8,all_append,AO,AU,AP,AS,append_nil,hv,hp];repeat' (first|intro _|apply And.intro|(unfold dOk;kernel_rfl)|exact St.beq_refl _|exact AI|(show altO _ _ _ _=true;kernel_rfl)|(show (_||_)=true;kernel_rfl)|(show (_&&_)=true;kernel_rfl))
  exact fin _ v runes _ (hputw _ set kids _ _ _ _ _ (by omega))
 ·have hp:=fun b0 b1 b2=>hput b0 b1 b2 op mn mx md n neg set set.length rfl;simp +contextual -implicitDefEqProofs (disch:=omega) only[Tryz.f10,dd10,go_sem,simprocAttr,map_append,mu10,↓AD,↓AC,↓AB,↓AA,hq,h45,h46,h12a,h12h,h12c,h12d,h12e,hap1,hap2,htk8,hdr8,ht10,hlen10,Ay,Ax,Ai,A6,A9,A7,A8,all_append,AO,AU,AP,AS,append_nil,hp,hp1,hp2,hp3,hp4,hp5,List.append_assoc];repeat' (first|intro _|apply And.intro|(unfold dOk;kernel_rfl)|exact St.beq_refl _|exact AI|(show altO _ _ _ _=true;kernel_rfl)|(show (_||_)=true;kernel_rfl)|(show (_&&_)=true;kernel_rfl))
  exact fin _ caps (!runes) _ (hputw _ set kids _ _ _ _ _ (by omega))
end
end Go.Ev
namespace Go.Ev
open Go.Proofs Go.RowKit
theorem d13 (H:List MB):call Pg pol1 13 [] H=some (.bool true,H):=Bv (n:=60) 60 13 _ _ _ (by kernel_rfl)
end Go.Ev
namespace Go.Ev
attribute [local go_sem] evBin BA BG bndO bnd evEq eqCells not_false_eq_true not_true_eq_false Ak Array.size_empty List.length_append tySzE List.head?_drop Nat.mul_one Al Az Ae Am An Go.IntWalk.i64_quo Go.IntWalk.rem_in Ap
section
attribute [local go_sem] evAppend AV.cells map_append
theorem law3 (l:List Int) (hl:∀ x∈l,In64 x) (n:Int) (hn:In64 n) (at_:Int) (hat:In64 at_) (how:Int) (hhow:In64 how) (by_:Int) (hby:In64 by_) (H:List MB) :
  call Pg pol1 3 [.sl false (l.map I),I n,I at_,I how,I by_] H=some (.bool true,H):=by
 have h13:=d13;obtain⟨P1,w1,h9⟩:=p9 l hl n hn;obtain⟨P,hP,h10⟩:=s10 P1 w1 at_ how by_ hat hhow hby
 have w1':P1.re.wt<=1000000:=by omega
 have facts:∀ p:Pat,∃ c:List AV,c=patC p/\c.length=10/\List.take 10 c=c/\c.all AV.ok=true/\AV.plainL c=true:=fun p=>⟨patC p,rfl,by simp[AO],take_of_length_le (by simp[AO]),by simp[AU,AV.ok],Aa p⟩;obtain⟨c1,k1,l1,t1,o1,p1⟩:=facts P1;obtain⟨c,k0,l0,t0,o0,p0⟩:=facts P
 replace h9:∀ H,call Pg pol1 9 [.sl false (l.map I),I n] H=some (.agg c1,H):=fun H=>by rw[k1];exact h9 H
 replace h10:∀ H,call Pg pol1 10 [.agg c1,I at_,I how,I by_] H=some (.agg c,H):=fun H=>by rw[k0,k1];exact h10 H
 refine AQ Tryz.func3 rfl rfl rfl rfl rfl rfl (fun _=>rfl) (by simp[AV.plain,AV.plainL,AF]) rfl ?_ H;simp +contextual -implicitDefEqProofs (disch:=omega) only[Tryz.f3,dd3,go_sem,simprocAttr,mu3,↓AD,↓AC,↓AB,↓AA,h9,h10,l1,t1,o1,l0,t0,o0];repeat' (first|intro _|apply And.intro|(unfold dOk;kernel_rfl)|exact St.beq_refl _|exact AI|(show altO _ _ _ _=true;kernel_rfl)|(show (_||_)=true;kernel_rfl)|(show (_&&_)=true;kernel_rfl))
 refine Af (M:=(mskOf (pol1.mask 3) (pol1.gc 3) (pol1.acts 3) 0 4)) rfl 2 (fun i=>(⟨57,[(13,I i),(12,.sl true [.agg c1,.agg c])],[.row 10 [.agg c1] 0]⟩:St)) (fun _=>True) ?_ ?_ trivial _ ?_
 ·intro i hi _;obtain⟨x,cx,kx,lx,tx,ox,hx,hxw⟩:∃(x:Pat) (cx:List AV),cx=patC x/\cx.length=10/\List.take 10 cx=cx/\cx.all AV.ok=true/\[AV.agg c1,.agg c][i]?=some (.agg cx)/\x.re.wt<=1000000:=by
   have:i=0∨i=1:=by omega
   rcases this with rfl|rfl
   ·exact⟨P1,c1,k1,l1,t1,o1,rfl,w1'⟩
   ·exact⟨P,c,k0,l0,t0,o0,rfl,hP⟩
  have h11:=p11 x hxw;have h12:=t12 x hxw;generalize printP x=C at *;obtain⟨g,e⟩:=C;simp only at h11 h12
  replace h11:∀ H,call Pg pol1 11 [.agg cx] H=some (.tup [T g,I e],H):=fun H=>by rw[kx];exact h11 H
  replace h12:∀ H,call Pg pol1 12 [.agg cx] H=some (.tup [T g,I e],H):=fun H=>by rw[kx];exact h12 H
  have hbe:((strB g).toList==(strB g).toList)=true:=by simp
  simp +contextual -implicitDefEqProofs (disch:=omega) only[Tryz.f3,dd3,go_sem,simprocAttr,mu3,↓AD,↓AC,↓AB,↓AA,hx,lx,tx,ox,h11,h12,evStrOp,hbe];rfl
 ·intro _;simp +contextual -implicitDefEqProofs (disch:=omega) only[Tryz.f3,dd3,go_sem,simprocAttr,mu3,↓AD,↓AC,↓AB,↓AA,h13];exact⟨_,rfl⟩
 ·exact(by first|rfl|(simp[keepT,AV.underL,AV.under,MB.under,AG,AJ,AH,AF,AE,AL,AM,-List.map_take,-List.map_replicate,-List.map_set,p1,p0];done))
end
end Go.Ev
