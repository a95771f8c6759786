/- What functions of the program compute; no further conditions. -/
import Derived.Test.YtkolcijbdendhaaGreatW16
set_option linter.unusedVariables false
set_option linter.unusedSimpArgs false
open List (all_eq_true append_nil getElem?_eq_getElem getElem?_set_self length_append length_map map_append map_take mem_map mem_of_getElem? take_length take_of_length_le)
open Nat (le_refl zero_le)
open Go.Proofs Go.RowKit Go.IntWalk
set_option maxHeartbeats 8000000
set_option maxRecDepth 100000
namespace Go.Ev
attribute [local go_sem] evBin AV.cells Ax BB bndO bnd evEq eqCells not_false_eq_true not_true_eq_false toList_some Array.size_empty tySzE List.head?_drop Nat.mul_one Ak At Ag Al Am Ad
section
theorem sf68 {H:List MB}{id n:Nat}{O:Spans}{p:Int×Int} (hr:H[id]?=some (.row 2 (O.map spanAV) 0)) (hn:O.length=n) (h0:0<n) (hl:n<=1000000000) (hO:∀ q∈O,q.2<=1114111) (hp:0<=p.1/\p.1<=p.2/\p.2<=1114111) (hq:∀ q∈O,0<=q.2) :
  call Pg pol1 51 [.ms id 2 n 0 n,.agg [I p.1,I p.2]] H=some (.ms id 2 (addI O p).length 0 (addI O p).length,H.set id (.row 2 ((addI O p).map spanAV) 0)++[.row 2 [spanAV p] 0]):=by
 have hlt:=(List.getElem?_eq_some_iff.1 hr).1;have fr:frzArgs pol1 51 0 [.ms id 2 n 0 n,.agg [I p.1,I p.2]] H=some ([.ms id 2 n 0 n,.agg [I p.1,I p.2]],H):=AS _ _ _ rfl;refine AX (pol:=pol1) Tryz.func51 rfl rfl rfl rfl fr ?_;have rp:∀ H1 r H,retPol pol1 51 H1 r H=some (r,H):=fun H1 r H=>rfl;rcases List.eq_nil_or_concat O with rfl|⟨O',q,rfl⟩
 ·simp at hn;omega
 ·rw[List.concat_eq_append]at *;have hgq:=hO q (by simp);have hgq0:=hq q (by simp);obtain rfl:n=O'.length+1:=by simpa using hn.symm
  have hg1:∀ x:MB,(H++[x])[id]?=some (.row 2 ((O'++[q]).map spanAV) 0):=fun x=>by rw[List.getElem?_append_left hlt];exact hr
  have hs1:∀ x y:MB,(H++[x]).set id y=H.set id y++[x]:=fun x y=>List.set_append_left _ _ hlt;have hgl:=fun x:MB=>Bs H x;rw[CJ];have hget:((O'++[q]).map spanAV)[O'.length]?=some (spanAV q):=by simp
  have hlen:((O'++[q]).map spanAV).length=O'.length+1:=by simp
  by_cases hm:p.1<=q.2+1
  ·rw[if_pos hm];have hmx:(if p.2 > q.2 then p.2 else q.2)=max q.2 p.2:=by split<;>omega
   have hst:((O'++[q]).map spanAV).set O'.length (.agg [I q.1,I (max q.2 p.2)])=(O'++[(q.1,max q.2 p.2)]).map spanAV:=by simp[List.set_append]
   have hlen2:(O'++[(q.1,max q.2 p.2)]).length=O'.length+1:=by simp
   generalize hE:(O'++[q]).map spanAV=E at *;simp +contextual (disch:=omega) only[Tryz.f51,dd51,go_sem,simprocAttr,evAppend,length_append,map_append,mu51,↓AD,↓AC,↓AB,↓AA,hg1,hs1,hgl,hget,hlen,evMax,hmx];repeat' (first|intro _|apply And.intro|(unfold dOk;kernel_rfl)|exact St.beq_refl _|exact AQ|(show altO _ _ _ _=true;kernel_rfl)|(show (_||_)=true;kernel_rfl)|(show (_&&_)=true;kernel_rfl))
   rw[hst,rp];simp
  ·rw[if_neg hm];have a1:=fun(x:MB) (t:Bool)=>MA (H:=H++[x]) (i:=id) (p:=p) (t:=t) (by unfold getRow;rw[hg1]) (zero_le _) (show (O'++[q]).length=O'.length+1 by simp) (by omega);simp only[hs1]at a1;have hlen2:(O'++[q]++[p]).length=O'.length+1+1:=by simp
   generalize hE:(O'++[q]).map spanAV=E at *;simp +contextual (disch:=omega) only[Tryz.f51,dd51,go_sem,simprocAttr,length_append,map_append,mu51,↓AD,↓AC,↓AB,↓AA,hg1,hs1,hgl,hget,hlen,a1];repeat' (first|intro _|apply And.intro|(unfold dOk;kernel_rfl)|exact St.beq_refl _|exact AQ|(show altO _ _ _ _=true;kernel_rfl)|(show (_||_)=true;kernel_rfl)|(show (_&&_)=true;kernel_rfl))
   rw[rp]
theorem R6 (H:List MB) (p:Int×Int) :
  call Pg pol1 51 [.sl true [],.agg [I p.1,I p.2]] H=some (.ms (H.length+1) 2 1 0 1,H++[.row 2 [spanAV p] 0]++[.row 2 [spanAV p] 0]):=by
 have fr:frzArgs pol1 51 0 [.sl true [],.agg [I p.1,I p.2]] H=some ([.sl true [],.agg [I p.1,I p.2]],H):=AS _ _ _ rfl;refine AX (pol:=pol1) Tryz.func51 rfl rfl rfl rfl fr ?_;have rp:∀ H1 r H,retPol pol1 51 H1 r H=some (r,H):=fun H1 r H=>rfl;have hgl:=fun x:MB=>Bs H x;simp +contextual (disch:=omega) only[Tryz.f51,dd51,go_sem,simprocAttr,evAppend,length_append,map_append,mu51,↓AD,↓AC,↓AB,↓AA,hgl];repeat' (first|intro _|apply And.intro|(unfold dOk;kernel_rfl)|exact St.beq_refl _|exact AQ|(show altO _ _ _ _=true;kernel_rfl)|(show (_||_)=true;kernel_rfl)|(show (_&&_)=true;kernel_rfl))
 rw[rp]
theorem PO {H:List MB}{i n z:Nat}{rs:List (Int×Int)}{p:Int×Int}{t:Bool} (hi:getRow H i=some (2,rs.map el2,z)) (hz:z<=n) (hn:rs.length=n) (hr:n+1<=4000000000) :
  evAppend Pg H 87 87 (.ms i 2 n 0 n) (.sl t [.agg [I p.1,I p.2]])=some (.ms i 2 (n+1) 0 (n+1),H.set i (.row 2 ((rs++[p]).map el2) z)):=by
 have hs:srcElems Pg H 93 (.sl t [.agg [I p.1,I p.2]])=some [.agg [I p.1,I p.2]]:=rfl;rw[Ah (e:=93) (by kernel_rfl) (by kernel_rfl) (k:=2) (by kernel_rfl) (by_:=16) (by kernel_rfl) (ze:=.agg [I 0,I 0]) (by kernel_rfl) rfl (by omega) hs (by simp[AV.cells,AV.ok]) hi (by rw[length_map];exact hn) hz (Ad (by simp;omega) (by omega))];rw[map_append];rfl
theorem Bq (l:List (Int×Int)):AV.plainL (l.map el2)=true:=by
 induction l with
 | nil=>rfl
 | cons a l ih=>simp[AV.plainL,ih];rfl
theorem HH (top:Int) (s:Spans):∀(L:List Spans) (i:Nat),endsP top i (L++[s])=endsP top i L++endS top (i+L.length) s
 | [],i=>by simp[endsP]
 | t::L,i=>by simp[endsP,HH top s L (i+1),Nat.add_comm,Nat.add_left_comm]
theorem Ls {top:Int}{L:List Spans}{i:Nat}{s:Spans} (h:L[i]?=some s):endsP top 0 (L.take (i+1))=endsP top 0 (L.take i)++endS top i s:=by
 have hlt:=(List.getElem?_eq_some_iff.1 h).1;rw[List.take_add_one,h,Option.toList_some,HH,Nat.zero_add,List.length_take_of_le (Nat.le_of_lt hlt)]
theorem NX {top:Int}{i k:Nat}{s:Spans}{p:Int×Int} (h:s[k]?=some p):endS top i (s.take (k+1))=endS top i (s.take k)++((if p.1<=top then [(p.1,(i:Int))] else [])++(if p.2+1<=top then [(p.2+1,(i:Int))] else [])):=by
 rw[List.take_add_one,h];simp[endS]
theorem HF {top:Int}{L:List Spans} (htp:top<=1114111) (hs:∀ s∈L,SetV s):∀ x∈endsP top 0 L,Small x:=fun x hx=>by
 obtain⟨_,s,hs',p,hp,h1,h2⟩:=Dw hx;have:=(hs s hs').good p hp;unfold Small;omega
theorem sf67 (L:List Spans) (top:Int) (h0:0<=top) (htp:top<=1114111) (hs:∀ s∈L,SetV s) (hl:L.length<=8192) (hsl:∀ s∈L,s.length<=64) (H:List MB) :
  call Pg pol1 50 [.sl false (L.map setAV),I top] H=some (.sl false ((sortE (endsP top 0 L)).map el2),H):=by
 have hpl:=Ac L;refine AR Tryz.func50 rfl rfl rfl rfl rfl rfl (fun _=>rfl) (by simp[AV.plain,AV.plainL,hpl]) (by simp[AV.plain,Bq]) ?_ H;simp +contextual (disch:=omega) only[Tryz.f50,dd50,go_sem,simprocAttr,evAppend,length_append,map_append,mu50,↓AD,↓AC,↓AB,↓AA];refine AY (M:=(mskOf (pol1.mask 50) (pol1.gc 50) (pol1.acts 50) 0 3)) rfl L.length (fun i=>(⟨52,[(12,I i),(11,I L.length),(10,.sl false (L.map setAV)),(5,.ms 0 2 (endsP top 0 (L.take i)).length 0 (endsP top 0 (L.take i)).length),(1,I top)],[.row 2 ((endsP top 0 (L.take i)).map el2) 0]⟩:St)) (fun i=>True) ?_ ?_ trivial _ (by first|rfl|(refine AP rfl (by rfl) (by rfl) (by rfl) ?_ ?_<;>simp[AV.underL,AV.under,MB.under,AE,AK,AG,AF,AL,AM,-map_take,Ac,Bq]))
 ·intro i hi _;obtain⟨s,hsi⟩:∃ s,L[i]?=some s:=⟨_,getElem?_eq_getElem hi⟩;have hsi':(L.map setAV)[i]?=some (setAV s):=by simp[hsi]
  have hm:=mem_of_getElem? hsi;have hv:=hs s hm;have hsl1:=hsl s hm;have hst:=Ls (top:=top) hsi;have hln:=Dx (top:=top) (L:=L.take i) (i:=0) (fun s hs=>hsl s (List.mem_of_mem_take hs));have l1:=List.length_take_le i L;generalize endsP top 0 (L.take i)=l at *;simp +contextual (disch:=omega) only[Tryz.f50,dd50,go_sem,simprocAttr,evAppend,length_append,map_append,mu50,↓AD,↓AC,↓AB,↓AA,hsi'];refine AY (M:=(mskOf (pol1.mask 50) (pol1.gc 50) (pol1.acts 50) 0 6)) rfl s.length (fun k=>(⟨52,[(19,I k),(18,I s.length),(17,.sl false (s.map spanAV)),(12,I i),(11,I L.length),(10,.sl false (L.map setAV)),(6,I i),(5,.ms 0 2 (l++endS top i (s.take k)).length 0 (l++endS top i (s.take k)).length),(1,I top)],[.row 2 ((l++endS top i (s.take k)).map el2) 0]⟩:St)) (fun i=>True) ?_ ?_ trivial _ ?_
  ·intro k hk _;obtain⟨p,hp⟩:∃ p,s[k]?=some p:=⟨_,getElem?_eq_getElem hk⟩;have hp':(s.map spanAV)[k]?=some (spanAV p):=by simp[hp]
   have hg:=hv.good p (mem_of_getElem? hp);have hst2:=NX (top:=top) (i:=i) hp;have hln2:=Kl top i (s.take k);have l3:=List.length_take_le k s;have hw:IntKind.i64.wrap (p.2+1)=p.2+1:=by rw[i64_in];omega
   have hlen3:(l++endS top i (s.take k)).length<=4000000:=by rw[length_append];omega
   have hst3:l++endS top i (s.take (k+1))=(l++endS top i (s.take k))++((if p.1<=top then [(p.1,(i:Int))] else [])++(if p.2+1<=top then [(p.2+1,(i:Int))] else [])):=by rw[hst2,List.append_assoc]
   generalize l++endS top i (s.take (k+1))=l2 at *;generalize l++endS top i (s.take k)=l1 at *;have a1:=fun(x:MB) (t:Bool)=>PO (H:=[MB.row 2 (l1.map el2) 0,x]) (i:=0) (p:=(p.1,(i:Int))) (t:=t) rfl (zero_le _) rfl (by omega);have a2:=fun(x:MB) (t:Bool)=>PO (H:=[MB.row 2 (l1.map el2) 0,x]) (i:=0) (p:=(p.2+1,(i:Int))) (t:=t) rfl (zero_le _) rfl (by omega);have a3:=fun(x:MB) (t:Bool)=>PO (H:=[MB.row 2 ((l1++[(p.1,(i:Int))]).map el2) 0,x]) (i:=0) (n:=l1.length+1) (p:=(p.2+1,(i:Int))) (t:=t) rfl (zero_le _) (by simp) (by omega);simp only[List.set_cons_zero]at a1 a2 a3;by_cases h1:p.1<=top
   ·by_cases h2:p.2+1<=top
    ·rw[if_pos h1,if_pos h2]at hst3;have e1:l2=l1++[(p.1,(i:Int))]++[(p.2+1,(i:Int))]:=by rw[hst3];simp
     have e2:l2.length=l1.length+1+1:=by rw[e1];simp
     rw[<- e1]at a3;rw[e2];simp +contextual (disch:=omega) only[Tryz.f50,dd50,go_sem,simprocAttr,mu50,↓AD,↓AC,↓AB,↓AA,hp',hw,a1,a3];exact(by first|rfl|(refine AP rfl (by rfl) (by rfl) (by rfl) ?_ ?_<;>simp[AV.underL,AV.under,MB.under,AE,AK,AG,AF,AL,AM,-map_take,Ac,Bq]))
    ·rw[if_pos h1,if_neg h2,append_nil]at hst3;have e2:l2.length=l1.length+1:=by rw[hst3];simp
     rw[<- hst3]at a1;rw[e2];simp +contextual (disch:=omega) only[Tryz.f50,dd50,go_sem,simprocAttr,mu50,↓AD,↓AC,↓AB,↓AA,hp',hw,a1];exact(by first|rfl|(refine AP rfl (by rfl) (by rfl) (by rfl) ?_ ?_<;>simp[AV.underL,AV.under,MB.under,AE,AK,AG,AF,AL,AM,-map_take,Ac,Bq]))
   ·rw[if_neg h1,if_neg (by omega),append_nil,append_nil]at hst3;have h2:¬ p.2+1<=top:=by omega
    rw[hst3];simp +contextual (disch:=omega) only[Tryz.f50,dd50,go_sem,simprocAttr,mu50,↓AD,↓AC,↓AB,↓AA,hp',hw];exact(by first|rfl|(refine AP rfl (by rfl) (by rfl) (by rfl) ?_ ?_<;>simp[AV.underL,AV.under,MB.under,AE,AK,AG,AF,AL,AM,-map_take,Ac,Bq]))
  ·intro _;rw[take_length,<- hst];simp +contextual (disch:=omega) only[Tryz.f50,dd50,go_sem,simprocAttr,mu50,↓AD,↓AC,↓AB,↓AA];exact(by first|rfl|(refine AP rfl (by rfl) (by rfl) (by rfl) ?_ ?_<;>simp[AV.underL,AV.under,MB.under,AE,AK,AG,AF,AL,AM,-map_take,Ac,Bq]))
  ·rw[List.take_zero,show endS top i []=[] from rfl,append_nil];exact(by first|rfl|(refine AP rfl (by rfl) (by rfl) (by rfl) ?_ ?_<;>simp[AV.underL,AV.under,MB.under,AE,AK,AG,AF,AL,AM,-map_take,Ac,Bq]))
 ·intro _;rw[take_length];have hln:=Dx (top:=top) (L:=L) (i:=0) hsl;have hsm:=HF htp hs;have hse:=DG hsm;generalize endsP top 0 L=l at *;obtain⟨H',h1,h2⟩:=LN hsm (n:=l.length) rfl (by omega) (H:=[.row 2 (l.map el2) 0]) (id:=0) rfl;have h102:call Pg pol1 76 [.ms 0 2 l.length 0 l.length,.clo 77 []] [.row 2 (l.map el2) 0]=some (.tup [],H'):=by
   rw[BP];unfold evStep;rw[if_neg (show ¬ pol1.pure 76=true by decide)];exact h1
  simp +contextual (disch:=omega) only[Tryz.f50,dd50,go_sem,simprocAttr,mu50,↓AD,↓AC,↓AB,↓AA,h102];exact⟨_,Ay h2 (by rw[length_map];exact hse) (Bq _)⟩
end
section
attribute [local go_sem] length_append map_append
theorem Rw (p:Int×Int) (hg:goodS p) (H:List MB):call Pg pol1 75 [.agg [I p.1,I p.2]] H=some (.bool true,H):=by
 obtain⟨h1,h2,h3⟩:=hg;refine AR Tryz.func75 rfl rfl rfl rfl rfl rfl (fun _=>rfl) (by simp[AV.plain,AV.plainL]) (by simp[AV.plain]) ?_ H;simp +contextual (disch:=omega) only[Tryz.f75,dd75,go_sem,simprocAttr,evAppend,mu75,↓AD,↓AC,↓AB,↓AA,h1,h2,h3];exact fzEq rfl rfl
theorem f168 (O:List (Int×Int)) (hl:O.length<=1000000000) (H:List MB):call Pg pol1 130 [.sl false (O.map spanAV)] H=some (if 64<O.length then .tup [.sl false [],I 4] else .tup [.sl false (O.map spanAV),I 0],H):=by
 have hpl:=AF O;by_cases c:64<O.length
 ·rw[if_pos c];refine AR Tryz.func130 rfl rfl rfl rfl rfl rfl (fun _=>rfl) (by simp[AV.plain,AV.plainL,hpl]) (by simp[AV.plain,AV.plainL]) ?_ H;simp +contextual (disch:=omega) only[Tryz.f130,RH,go_sem,simprocAttr,evAppend,RA,↓AD,↓AC,↓AB,↓AA];exact⟨_,rfl⟩
 ·rw[if_neg c];refine AR Tryz.func130 rfl rfl rfl rfl rfl rfl (fun _=>rfl) (by simp[AV.plain,AV.plainL,hpl]) (by simp[AV.plain,AV.plainL,hpl]) ?_ H;simp +contextual (disch:=omega) only[Tryz.f130,RH,go_sem,simprocAttr,evAppend,RA,↓AD,↓AC,↓AB,↓AA];exact fzEq (by simp[AV.plain,AV.plainL,hpl]) rfl
theorem RG (b:MB) (O:List (Int×Int)) (m:Nat) (hm:O.length=m) (hl:m<=1000000000) :
  call Pg pol1 130 [.ms 1 2 m 0 m] [b,.row 2 (O.map spanAV) 0]=some (if 64<O.length then .tup [.sl false [],I 4] else .tup [.sl false (O.map spanAV),I 0],[b,.row 2 (O.map spanAV) m]):=by
 have hz:=Ay (id:=1) (k:=2) (tot:=m) (z:=0) (H:=[b,.row 2 (O.map spanAV) 0]) (els:=O.map spanAV) rfl (by rw[length_map];exact hm) (AF O);have hm2:mark [b,.row 2 (O.map spanAV) 0] 1 m=[b,.row 2 (O.map spanAV) m]:=by simp[mark,getRow]
 rw[hm2]at hz;have hby:pol1.byref 130 0=false:=rfl;rw[A6 (P:=Pg) (pol:=pol1) (f:=130) (l:=[.sl false (O.map spanAV)]) (H1:=[b,.row 2 (O.map spanAV) m]) rfl (by simp only[frzArgs,hby,Bool.false_eq_true,if_false,hz]) (by simp[AV.plainL,AV.plain,AF])];exact f168 O (by omega) _
theorem f90e {H:List MB}{id:Nat}{p:Int×Int} (hr:H[id]?=some (.row 2 [] 0)) :
  call Pg pol1 51 [.ms id 2 0 0 0,.agg [I p.1,I p.2]] H=some (.ms id 2 1 0 1,H.set id (.row 2 [spanAV p] 0)++[.row 2 [spanAV p] 0]):=by
 have hlt:=(List.getElem?_eq_some_iff.1 hr).1;have fr:frzArgs pol1 51 0 [.ms id 2 0 0 0,.agg [I p.1,I p.2]] H=some ([.ms id 2 0 0 0,.agg [I p.1,I p.2]],H):=AS _ _ _ rfl;refine AX (pol:=pol1) Tryz.func51 rfl rfl rfl rfl fr ?_;have rp:∀ H1 r H,retPol pol1 51 H1 r H=some (r,H):=fun H1 r H=>rfl;have hg1:∀ x:MB,(H++[x])[id]?=some (.row 2 [] 0):=fun x=>by rw[List.getElem?_append_left hlt];exact hr
 have hs1:∀ x y:MB,(H++[x]).set id y=H.set id y++[x]:=fun x y=>List.set_append_left _ _ hlt;have hgl:=fun x:MB=>Bs H x;have a1:=fun(x:MB) (t:Bool)=>MA (H:=H++[x]) (i:=id) (n:=0) (rs:=[]) (p:=p) (t:=t) (by unfold getRow;rw[hg1];rfl) (zero_le _) rfl (by omega);simp only[hs1]at a1;simp +contextual (disch:=omega) only[Tryz.f51,dd51,go_sem,simprocAttr,mu51,↓AD,↓AC,↓AB,↓AA,hg1,hs1,hgl,a1];repeat' (first|intro _|apply And.intro|(unfold dOk;kernel_rfl)|exact St.beq_refl _|exact AQ|(show altO _ _ _ _=true;kernel_rfl)|(show (_||_)=true;kernel_rfl)|(show (_&&_)=true;kernel_rfl))
 rw[rp]
theorem Mx {g:Nat}{xs:List (Int×Int)} (h:∀ x∈xs,Small x) {n:Nat} (hn:xs.length=n) (h0:0<n) (hl:n<=4000000000) {H:List MB}{id:Nat} (hr:getRow H id=some (2,xs.map el2,0)) :
  sort2Ext Sml g srtE [.ms id 2 n 0 n,.clo g []] H=some (.tup [],H.set id (.row 2 ((sortE xs).map el2) 0)):=by
 subst hn;have hu:=Sml.unL_map xs (smlL xs) (Ez h);have hlen:(smlL xs).length=xs.length:=by have:=congrArg List.length (EZ h);simpa using this
 simp only[sort2Ext];rw[if_neg (by rintro⟨h,_⟩;omega)];simp only[hr,hu];rw[if_pos ⟨trivial,hlen.symm,hlen.symm,by omega,by omega⟩];unfold sortE;rw[List.map_map];rfl
theorem c156 (l:List (Int×Int)) (h0:0<l.length) (hl:l.length<=1000000000):call Pg pol1 78 [.sl false (l.map spanAV)] []=some (.ms 0 2 l.length 0 l.length,[.row 2 (l.map spanAV) 0]):=by
 cases l with
 | nil=>simp at h0
 | cons x l=>
   rw[BP];unfold evStep;have ha:(((x::l).map spanAV).all fun y=>decide (y.cells.length=2)&&y.cells.all AV.ok)=true:=by
    rw[all_eq_true];intro y hy;obtain⟨i,_,rfl⟩:=mem_map.1 hy;rfl
   have hx:cloneExt 2 16 [.sl false ((x::l).map spanAV)] []=some (.ms 0 2 (x::l).length 0 (x::l).length,[.row 2 ((x::l).map spanAV) 0]):=by
    simp only[cloneExt,elemsOf];rw[if_pos ⟨ha,Ad (by rw[length_map];omega) (by omega),AF _⟩];simp
   rw[if_neg (show ¬ pol1.pure 78=true by decide)];exact hx
theorem f115 (s:List (Int×Int)) (hg:∀ p∈s,goodS p) (h0:0<s.length) (hl:s.length<=400000000) (H:List MB) :
  call Pg pol1 110 [.sl false (s.map spanAV)] H=some (if 64<(normL s).length then .tup [.sl false [],I 4] else .tup [.sl false ((normL s).map spanAV),I 0],H):=by
 have hsm:=G2 hg;have hperm:=DF hsm;have hsorted:=DE s;have hok:=Kb hsorted (fun p hp=>hg p (hperm.mem_iff.1 hp));have hSl:(sortE s).length=s.length:=hperm.length_eq;have hSg:∀ p∈sortE s,goodS p:=fun p hp=>hg p (hperm.mem_iff.1 hp);have h166:∀(n:Nat),s.length=n->call Pg pol1 128 [.ms 0 2 n 0 n,.clo 129 []] [.row 2 (s.map spanAV) 0]=some (.tup [],[.row 2 ((sortE s).map spanAV) 0]):=fun n hn=>by
  rw[BP];unfold evStep;rw[if_neg (show ¬ pol1.pure 128=true by decide)];exact Mx (g:=129) hsm hn (by omega) (by omega) (H:=[.row 2 (s.map el2) 0]) (id:=0) rfl
 have h156:=c156 s h0 (by omega);have hrp:AV.plain (if 64<(normL s).length then .tup [.sl false [],I 4] else .tup [.sl false ((normL s).map spanAV),I 0])=true:=by split<;>simp[AV.plain,AV.plainL,AF]
 refine AR Tryz.func110 rfl rfl rfl rfl rfl rfl (fun _=>rfl) (by simp[AV.plain,AV.plainL,AF]) hrp ?_ H;have h166n:=h166 s.length rfl;simp +contextual (disch:=omega) only[Tryz.f110,Et,go_sem,simprocAttr,evAppend,Ej,↓AD,↓AC,↓AB,↓AA];refine AY (M:=(mskOf (pol1.mask 110) (pol1.gc 110) (pol1.acts 110) 0 2)) rfl s.length (fun i=>(⟨38,[(12,I i),(11,I s.length),(10,.sl false (s.map spanAV)),(0,.sl false (s.map spanAV))],[]⟩:St)) (fun i=>True) ?_ ?_ trivial _ (by first|rfl|(refine AP rfl (by rfl) (by rfl) (by rfl) ?_ ?_<;>simp[AV.underL,AV.under,MB.under,AE,AK,AG,AF,AL,AM,-map_take]))
 ·intro i hi _;obtain⟨p,hp⟩:∃ p,s[i]?=some p:=⟨_,getElem?_eq_getElem hi⟩;have hp':(s.map spanAV)[i]?=some (spanAV p):=by simp[hp]
  have h136:=Rw p (hg p (mem_of_getElem? hp));simp +contextual (disch:=omega) only[Tryz.f110,Et,go_sem,simprocAttr,evAppend,Ej,↓AD,↓AC,↓AB,↓AA,hp',h136,spanAV];exact(by first|rfl|(refine AP rfl (by rfl) (by rfl) (by rfl) ?_ ?_<;>simp[AV.underL,AV.under,MB.under,AE,AK,AG,AF,AL,AM,-map_take]))
 ·intro _;unfold normL;generalize sortE s=S at *;simp +contextual (disch:=omega) only[Tryz.f110,Et,go_sem,simprocAttr,evAppend,Ej,↓AD,↓AC,↓AB,↓AA,h156,h166n];refine AY (M:=(mskOf (pol1.mask 110) (pol1.gc 110) (pol1.acts 110) 0 11)) rfl s.length (fun i=>(⟨38,[(26,I i),(25,I s.length),(24,.ms 0 2 s.length 0 s.length),(7,.ms 1 2 (foldI (S.take i)).length 0 (foldI (S.take i)).length)],[.row 2 (S.map spanAV) 0,.row 2 ((foldI (S.take i)).map spanAV) 0]⟩:St)) (fun i=>True) ?_ ?_ trivial _ ?_
  ·intro i hi _;obtain⟨p,hp⟩:∃ p,S[i]?=some p:=⟨_,getElem?_eq_getElem (by omega)⟩;have hp':(S.map spanAV)[i]?=some (spanAV p):=by simp[hp]
   have hgp:=hSg p (mem_of_getElem? hp);have hoi:=hok i (by omega);have hol:=hoi.len;rw[List.length_take]at hol;rw[Lk hp];have hO:=hoi.good;generalize foldI (S.take i)=O at *;obtain⟨g1,g2,g3⟩:=hgp;have h90:∀ b c:MB,call Pg pol1 51 [.ms 1 2 O.length 0 O.length,.agg [I p.1,I p.2]] [b,.row 2 (O.map spanAV) 0,c]=some (.ms 1 2 (addI O p).length 0 (addI O p).length,[b,.row 2 ((addI O p).map spanAV) 0,c,.row 2 [spanAV p] 0]):=fun b c=>by
    rcases Nat.eq_zero_or_pos O.length with h|h
    ·have:O=[]:=List.length_eq_zero_iff.1 h;subst this;exact f90e (H:=[b,.row 2 [] 0,c]) rfl
    ·exact sf68 (H:=[b,.row 2 (O.map spanAV) 0,c]) rfl rfl h (by omega) (fun q hq=>(hO q hq).2.2) ⟨g1,g2,g3⟩ (fun q hq=>by have:=hO q hq;unfold goodS at this;omega)
   generalize addI O p=O2 at *;simp +contextual (disch:=omega) only[Tryz.f110,Et,go_sem,simprocAttr,evAppend,Ej,↓AD,↓AC,↓AB,↓AA,hp',h90,hSl,spanAV];exact(by first|rfl|(refine AP rfl (by rfl) (by rfl) (by rfl) ?_ ?_<;>simp[AV.underL,AV.under,MB.under,AE,AK,AG,AF,AL,AM,-map_take]))
  ·intro _;rw[take_of_length_le (by omega)];have hoi:=(hok S.length (le_refl _)).len;rw[take_length]at hoi;have h168:=fun b=>RG b (foldI S) _ rfl (by omega);by_cases c:64<(foldI S).length
   ·rw[if_pos c]at h168 |-;simp +contextual (disch:=omega) only[Tryz.f110,Et,go_sem,simprocAttr,evAppend,Ej,↓AD,↓AC,↓AB,↓AA,h168];exact fzEq rfl rfl
   ·rw[if_neg c]at h168 |-;simp +contextual (disch:=omega) only[Tryz.f110,Et,go_sem,simprocAttr,evAppend,Ej,↓AD,↓AC,↓AB,↓AA,h168];exact fzEq (by simp[AV.plain,AV.plainL,AF]) rfl
  ·exact(by first|rfl|(refine AP rfl (by rfl) (by rfl) (by rfl) ?_ ?_<;>simp[AV.underL,AV.under,MB.under,AE,AK,AG,AF,AL,AM,-map_take]))
end
section
attribute [local go_sem] length_append
section
variable {l:Spans}
theorem JX (hg:∀ p∈l,goodS p):∀ p∈l,0<=p.1/\p.1<=p.2:=fun p hp=>⟨(hg p hp).1,(hg p hp).2.1⟩
def endsL (l:Spans):List Int:=putS 1114111 [0] l
theorem HI (hg:∀ p∈l,goodS p):EndsOk 1114111 (endsL l):=(DJ (Iu (by omega)) (JX hg)).1
theorem NW (hg:∀ p∈l,goodS p):(endsL l).length<=1+2*l.length:=(DJ (Iu (by omega)) (JX hg)).2.1
theorem Is (hg:∀ p∈l,goodS p) {p:Int×Int} (hp:p∈l) {x:Int} (hx:x=p.1∨x=p.2+1) (ht:x<=1114111):x∈endsL l:=((DJ (Iu (by omega)) (JX hg)).2.2 x).2 (.inr ⟨p,hp,hx,ht⟩)
theorem If (hg:∀ p∈l,goodS p) {k:Nat}{x:Int} (hxt:x<=1114111) (h1:lastP (endsL l) 1114111 k<=x) (h2:x<lastP (endsL l) 1114111 (k+1)):hasSpan l x=hasSpan l (lastP (endsL l) 1114111 k):=by
 have hE:=HI hg;rw[Bool.eq_iff_iff,Bj,Bj];constructor
 ·rintro⟨p,hp,a1,a2⟩;refine⟨p,hp,?_,by omega⟩;rcases Int.lt_or_le (lastP (endsL l) 1114111 k) p.1 with g|g
  ·have:=Kj hE (Is hg hp (.inl rfl) (by omega)) g;omega
  ·exact g
 ·rintro⟨p,hp,a1,a2⟩;refine⟨p,hp,by omega,?_⟩;rcases Int.lt_or_le p.2 x with g|g
  ·have:=Kj hE (Is hg hp (.inr rfl) (by omega)) (show lastP (endsL l) 1114111 k<p.2+1 by omega);omega
  ·exact g
theorem Gj {pc:Nat->Int×Int}{b b':Nat->Bool}:∀ {n:Nat},(∀ k,k<n->b k=b' k)->ofL pc b n=ofL pc b' n
 | 0,_=>rfl
 | n+1,h=>by
   simp only[ofL];rw[h n (by omega),Gj fun k hk=>h k (by omega)]
theorem Oa (hg:∀ p∈l,goodS p):ofL (pieceA (endsL l) 1114111) (fun k=>((endsL l).map (hasSpan l)).getD k false) (endsL l).length=normL l:=by
 have hE:=HI hg;have hb:∀ k,k<(endsL l).length->((endsL l).map (hasSpan l)).getD k false=decide ([hasSpan l (lastP (endsL l) 1114111 k)]=[true]):=fun k hk=>by
  have e:=getElem?_eq_getElem hk;rw[BM e];simp[List.getD_eq_getElem?_getD,e]
 rw[Gj hb,ML (pieceA (endsL l) 1114111) (fun k=>[hasSpan l (lastP (endsL l) 1114111 k)]) [true]];have hso:=Me hE (Int.le_refl _) (fun k=>[hasSpan l (lastP (endsL l) 1114111 k)]) [true] (endsL l).length (le_refl _);obtain⟨n1,n2,_⟩:=Cc hg;refine E5 (Dr hso.sep fun p hp=>(hso.good p hp).2.1) (Dr n1.sep fun p hp=>(n1.good p hp).2.1) fun x=>?_;rw[hso.has x,n2 x,Bj];constructor
 ·rintro⟨p,hp,a1,a2⟩;obtain⟨k,hk,hck,rfl⟩:=Ds.1 hp;have hst:=hE.step (k:=k) (by omega);simp only[pieceA]at a1 a2;have hck:hasSpan l (lastP (endsL l) 1114111 k)=true:=by simpa using hck
  rw[If hg (by omega) a1 (by omega)];exact hck
 ·intro hx;obtain⟨p,hp,b1,b2⟩:=Bj.1 hx;have hgp:=hg p hp;unfold goodS at hgp;obtain⟨k,hk,a1,a2⟩:=OU hE (x:=x) ⟨by omega,by omega⟩;refine⟨pieceA (endsL l) 1114111 k,Ds.2 ⟨k,by omega,?_,rfl⟩,a1,by simp only[pieceA];omega⟩;rw[<- If hg (by omega) a1 a2,hx]
end
theorem SO (l:Spans) (hg:∀ p∈l,goodS p) (hl:l.length<=450000000) (H:List MB):call Pg pol1 65 [.sl false [setAV l],I 1114111] H=some (.sl false ((endsL l).map I),H):=by
 have hpl:AV.plainL [setAV l]=true:=by simp[AV.plainL,AV.plain,AF]
 refine AR Tryz.func65 rfl rfl rfl rfl rfl rfl (fun _=>rfl) (by simp[AV.plain,AV.plainL,AF]) (by simp[AV.plain,AG]) ?_ H;simp +contextual (disch:=omega) only[Tryz.f65,dd65,go_sem,simprocAttr,evAppend,map_append,mu65,↓AD,↓AC,↓AB,↓AA];refine Cp (σ:=EK) (M:=(mskOf (pol1.mask 65) (pol1.gc 65) (pol1.acts 65) 0 3)) rfl (fun x=>(⟨48,[(6,I x.i),(5,.sl x.t ((if x.i=0 then [0] else endsL l).map I)),(1,I 1114111),(0,.sl false [setAV l])],[]⟩:St)) (fun x=>x.i<=1) (fun x=>1-x.i) ⟨0,true⟩ ?_ (zero_le _) _ (by first|rfl|(refine AP rfl (by rfl) (by rfl) (by rfl) ?_ ?_<;>simp[AV.underL,AV.under,MB.under,AE,AK,AG,AF,AL,AM,-map_take]));rintro⟨i,t⟩ hi;simp only at hi |-;rcases(by omega:i=0∨i=1) with rfl|rfl
 ·rw[if_pos rfl];simp +contextual (disch:=omega) only[Tryz.f65,dd65,go_sem,simprocAttr,evAppend,map_append,mu65,↓AD,↓AC,↓AB,↓AA];refine Cp (σ:=EK) (M:=(mskOf (pol1.mask 65) (pol1.gc 65) (pol1.acts 65) 0 6)) rfl (fun x=>(⟨48,[(7,I x.i),(6,I 0),(5,.sl x.t ((putS 1114111 [0] (l.take x.i)).map I)),(1,I 1114111),(0,.sl false [setAV l])],[]⟩:St)) (fun x=>x.i<=l.length) (fun x=>l.length-x.i) ⟨0,t⟩ ?_ (zero_le _) _ (by first|rfl|(refine AP rfl (by rfl) (by rfl) (by rfl) ?_ ?_<;>simp[AV.underL,AV.under,MB.under,AE,AK,AG,AF,AL,AM,-map_take]));rintro⟨k,t⟩ hk;simp only at hk |-;obtain⟨e1,l2,_⟩:=DJ (s:=l.take k) (Iu (top:=1114111) (by omega)) (fun p hp=>JX hg p (List.mem_of_mem_take hp));have l3:=List.length_take_le k l;by_cases hkl:k<l.length
  ·obtain⟨p,hp⟩:∃ p,l[k]?=some p:=⟨_,getElem?_eq_getElem hkl⟩;have hp':(l.map spanAV)[k]?=some (spanAV p):=by simp[hp]
   have hgp:=hg p (mem_of_getElem? hp);unfold goodS at hgp;simp only[List.length_cons,List.length_nil]at l2;have l4:=Ga (putS 1114111 [0] (l.take k)) p.1 1114111;have h1:=RT t (putS 1114111 [0] (l.take k)) p.1 1114111 e1.sorted (by omega);have h2:=Q9 (putL (putS 1114111 [0] (l.take k)) p.1 1114111) (p.2+1) 1114111 (e1.put hgp.1).sorted (by omega);have hw:IntKind.i64.wrap (p.2+1)=p.2+1:=by rw[i64_in];omega
   have hst:=M5 (top:=1114111) (l:=[0]) hp;have hkl2:(k:Int)<(l.length:Int):=by omega
   simp +contextual (disch:=omega) only[Tryz.f65,dd65,go_sem,simprocAttr,evAppend,map_append,mu65,↓AD,↓AC,↓AB,↓AA,hp',h1,h2,hw,hkl2];exact⟨⟨k+1,false⟩,hkl,by show l.length-(k+1)<l.length-k;omega,by simp only[hst];exact(by first|rfl|(refine AP rfl (by rfl) (by rfl) (by rfl) ?_ ?_<;>simp[AV.underL,AV.under,MB.under,AE,AK,AG,AF,AL,AM,-map_take]))⟩
  ·obtain rfl:k=l.length:=by omega
   rw[take_length];have hkl2:¬ (l.length:Int)<(l.length:Int):=by omega
   simp +contextual (disch:=omega) only[Tryz.f65,dd65,go_sem,simprocAttr,evAppend,map_append,mu65,↓AD,↓AC,↓AB,↓AA,hkl2];exact⟨⟨1,t⟩,le_refl _,by show 1-1<1-0;omega,by simp only[show ¬ (1:Nat)=0 by omega,if_false];exact(by first|rfl|(refine AP rfl (by rfl) (by rfl) (by rfl) ?_ ?_<;>simp[AV.underL,AV.under,MB.under,AE,AK,AG,AF,AL,AM,-map_take]))⟩
 ·rw[if_neg (by omega)];simp +contextual (disch:=omega) only[Tryz.f65,dd65,go_sem,simprocAttr,evAppend,map_append,mu65,↓AD,↓AC,↓AB,↓AA];exact⟨_,E8 (AG _) _⟩
def normR (l:Spans):AV:=if 64<(normL l).length then .tup [.sl false [],I 4] else .tup [.sl false ((normL l).map spanAV),I 0]
theorem f128 (l:Spans) (hg:∀ p∈l,goodS p) (hl:l.length<=400000000) (H:List MB):call Pg pol1 97 [.sl false (l.map spanAV)] H=some (normR l,H):=by
 have hEl:=NW hg;have h120:=SO l hg (by omega);have c120:=fun H:List MB=>A6 (P:=Pg) (pol:=pol1) (f:=65) (args:=[.sl true [setAV l],I 1114111]) (l:=[.sl false [setAV l],I 1114111]) (H:=H) (H1:=H) rfl (by
  have hz:fz (.sl true [setAV l]) H=some (.sl false [setAV l],H):=E8 (by simp[AV.plainL,AV.plain,AF]) H;simp only[frzArgs,show pol1.byref 65 0=false from rfl,show pol1.byref 65 (0+1)=false from rfl,Bool.false_eq_true,if_false,hz,Ab H (show AV.plain (I 1114111)=true from rfl)]) (by simp[AV.plainL,AV.plain,AF])
 simp only[h120]at c120;have h122:=sf74 (HI hg) (Int.le_refl _) ((endsL l).map (hasSpan l)) (by simp) (by omega);rw[Oa hg]at h122;have h136:=fun(p:Int×Int) (hp:p∈l)=>f136 p.1 p.2;have hdec:∀ p∈l,decide (0<=p.1/\p.1<=p.2/\p.2<=1114111)=true:=fun p hp=>decide_eq_true (hg p hp);have h175:=fun x=>RE l x (by omega);have hpn:AV.plain (normR l)=true:=by unfold normR;split<;>simp[AV.plain,AV.plainL,AF]
 refine AR Tryz.func97 rfl rfl rfl rfl rfl rfl (fun _=>rfl) (by simp[AV.plain,AV.plainL,AF]) hpn ?_ H;generalize endsL l=E at *;simp +contextual (disch:=omega) only[Tryz.f97,dd97,go_sem,simprocAttr,evAppend,map_append,mu97,↓AD,↓AC,↓AB,↓AA];refine AY (M:=(mskOf (pol1.mask 97) (pol1.gc 97) (pol1.acts 97) 0 2)) rfl l.length (fun i=>(⟨45,[(4,I i),(0,.sl false (l.map spanAV))],[]⟩:St)) (fun i=>True) ?_ ?_ trivial _ (by first|rfl|(refine AP rfl (by rfl) (by rfl) (by rfl) ?_ ?_<;>simp[AV.underL,AV.under,MB.under,AE,AK,AG,AF,AL,AM,-map_take,AF]))
 ·intro i hi _;obtain⟨p,hp⟩:∃ p,l[i]?=some p:=⟨_,getElem?_eq_getElem hi⟩;have hp':(l.map spanAV)[i]?=some (spanAV p):=by simp[hp]
  have h173:=h136 p (mem_of_getElem? hp);rw[hdec p (mem_of_getElem? hp)]at h173;simp +contextual (disch:=omega) only[Tryz.f97,dd97,go_sem,simprocAttr,evAppend,map_append,mu97,↓AD,↓AC,↓AB,↓AA,hp',h173,spanAV];exact(by first|rfl|(refine AP rfl (by rfl) (by rfl) (by rfl) ?_ ?_<;>simp[AV.underL,AV.under,MB.under,AE,AK,AG,AF,AL,AM,-map_take,AF]))
 ·intro _;simp +contextual (disch:=omega) only[Tryz.f97,dd97,go_sem,simprocAttr,evAppend,map_append,mu97,↓AD,↓AC,↓AB,↓AA,c120];refine AY (M:=(mskOf (pol1.mask 97) (pol1.gc 97) (pol1.acts 97) 0 10)) rfl E.length (fun i=>(⟨45,[(8,I i),(7,.ms 0 1 i 0 i),(6,.sl false (E.map I)),(0,.sl false (l.map spanAV))],[.row 1 (((E.take i).map (hasSpan l)).map AV.bool) 0]⟩:St)) (fun i=>True) ?_ ?_ trivial _ (by first|rfl|(refine AP rfl (by rfl) (by rfl) (by rfl) ?_ ?_<;>simp[AV.underL,AV.under,MB.under,AE,AK,AG,AF,AL,AM,-map_take,AF,AG]))
  ·intro i hi _;obtain⟨x,hx⟩:∃ x,E[i]?=some x:=⟨_,getElem?_eq_getElem hi⟩;have hx':(E.map I)[i]?=some (I x):=by simp[hx]
   have hX:=h175 x;have hst:(E.take (i+1)).map (hasSpan l)=(E.take i).map (hasSpan l)++[hasSpan l x]:=by rw[AW hx,map_append];rfl
   have hXl:((E.take i).map (hasSpan l)).length=i:=by rw[length_map,List.length_take];omega
   rw[hst];generalize (E.take i).map (hasSpan l)=X at *;generalize hasSpan l x=v at *;have a1:=fun(t:Bool)=>RL (H:=[.row 1 (X.map AV.bool) 0]) (i:=0) (n:=i) (x:=v) (t:=t) rfl (zero_le _) hXl (by omega);simp only[List.set_cons_zero]at a1;simp +contextual (disch:=omega) only[Tryz.f97,dd97,go_sem,simprocAttr,mu97,↓AD,↓AC,↓AB,↓AA,hx',hX,a1];generalize X++[v]=X2;exact(by first|rfl|(refine AP rfl (by rfl) (by rfl) (by rfl) ?_ ?_<;>simp[AV.underL,AV.under,MB.under,AE,AK,AG,AF,AL,AM,-map_take,AF,AG,BK]))
  ·intro _;rw[take_length];have hXl:(E.map (hasSpan l)).length=E.length:=by simp
   have hz:fz (.ms 0 1 E.length 0 E.length) [.row 1 ((E.map (hasSpan l)).map AV.bool) 0]=some (.sl false ((E.map (hasSpan l)).map AV.bool),[.row 1 ((E.map (hasSpan l)).map AV.bool) E.length]):=by
    rw[Ay (z:=0) rfl (by simp) (BK _)];simp[mark,getRow]
   generalize E.map (hasSpan l)=X at *;have c122:=(A6 (P:=Pg) (pol:=pol1) (f:=67) (args:=[.sl false (E.map I),.ms 0 1 E.length 0 E.length,I 1114111]) (l:=[.sl false (E.map I),.sl false (X.map AV.bool),I 1114111]) (H:=[.row 1 (X.map AV.bool) 0]) (H1:=[.row 1 (X.map AV.bool) E.length]) rfl (by
    simp only[frzArgs,show pol1.byref 67 0=false from rfl,show pol1.byref 67 (0+1)=false from rfl,show pol1.byref 67 (0+1+1)=false from rfl,Bool.false_eq_true,if_false,hz,Ab _ (show AV.plain (I 1114111)=true from rfl),E8 (AG E)]) (by simp[AV.plainL,AV.plain,AG,BK])).trans (h122 _)
   have hN:normR l=(if 64<(normL l).length then AV.tup [.sl false [],I 4] else AV.tup [.sl false ((normL l).map spanAV),I 0]):=rfl;rw[<- hN]at c122;unfold normR at c122 hpn |-;split at c122
   ·rename_i h64;rw[if_pos h64];simp +contextual (disch:=omega) only[Tryz.f97,dd97,go_sem,simprocAttr,evAppend,map_append,mu97,↓AD,↓AC,↓AB,↓AA,c122];exact fzEq rfl rfl
   ·rename_i h64;rw[if_neg h64];generalize normL l=O at *;simp +contextual (disch:=omega) only[Tryz.f97,dd97,go_sem,simprocAttr,evAppend,map_append,mu97,↓AD,↓AC,↓AB,↓AA,c122];exact fzEq (by simp[AV.plain,AV.plainL,AF]) rfl
end
section
attribute [local go_sem] evAppend length_append map_append
def idxR (p:Re->Bool) (l:List Re):Int:=if l.findIdx p<l.length then(l.findIdx p:Int) else -1
theorem J8 {f:Nat}{r:AV}{H:List MB} (hk:pol1.keep f=false) (ho:pol1.own f=false) (h:AV.plain r=true):retPol pol1 f H r H=some (r,H):=
 An hk ho h (by have:=BY H.length [] H;simpa using this) (take_length)
theorem d103 (t:Bool) (g:Nat) (p:Re->Bool) (l:List Re) (hl:l.length<=1000000000) (hy:g≠yldF) (hg:∀ r∈l,∀ H,call Pg pol1 g [reAV r] H=some (.bool (p r),H)) (H:List MB) :
  call Pg pol1 103 [.sl t (l.map reAV),.clo g []] H=some (I (idxR p l),H):=by
 have hfr:frzArgs pol1 103 0 [.sl t (l.map reAV),.clo g []] H=some ([.sl t (l.map reAV),.clo g []],H):=rfl;have rp:=fun r:Int=>J8 (f:=103) (H:=H) rfl rfl (show AV.plain (I r)=true from rfl);refine AX (pol:=pol1) Tryz.func103 rfl rfl rfl rfl hfr ?_;simp +contextual (disch:=omega) only[Tryz.f103,Fw,go_sem,simprocAttr,Fl,↓AD,↓AC,↓AB,↓AA];have hfi:l.findIdx p<=l.length:=List.findIdx_le_length;refine AY (M:=(mskOf (pol1.mask 103) (pol1.gc 103) (pol1.acts 103) 0 2)) (by rfl) l.length (fun i=>(⟨19,[(8,I i),(7,I l.length),(1,.clo g []),(0,.sl t (l.map reAV))],H⟩:St)) (fun i=>i<=l.findIdx p) ?_ ?_ (zero_le _) _ (by rfl)
 ·intro i hi hinv;obtain⟨r,hr⟩:∃ r,l[i]?=some r:=⟨_,getElem?_eq_getElem hi⟩;have hr':=As hr;have hgr:=hg r (mem_of_getElem? hr);have hlt:(i:Int)<(l.length:Int):=by omega
  cases hp:p r with
  | true=>
    have e:l.findIdx p=i:=by
     rcases Nat.lt_or_eq_of_le hinv with h|h
     ·have:=List.not_of_lt_findIdx h;have h2:l[i]=r:=by rw[getElem?_eq_getElem hi]at hr;exact Option.some.inj hr
      rw[h2]at this;rw[hp]at this;cases this
     ·exact h.symm
    rw[hp]at hgr;have e2:idxR p l=(i:Int):=by unfold idxR;rw[e,if_pos hi]
    rw[e2];simp +contextual (disch:=omega) only[Tryz.f103,Fw,go_sem,simprocAttr,Fl,↓AD,↓AC,↓AB,↓AA,hr',hgr,hlt,hy,AI,AJ];exact rp _
  | false=>
    rw[hp]at hgr;have hinv2:i+1<=l.findIdx p:=by
     rcases Nat.lt_or_eq_of_le hinv with h|h
     ·exact h
     ·exfalso;have h1:l.findIdx p<l.length:=by omega
      have:=List.findIdx_getElem (xs:=l) (p:=p) (w:=h1);have h2:l[l.findIdx p]=r:=by
       rw[getElem?_eq_getElem hi]at hr;have:=Option.some.inj hr;simp only[<- h];exact this
      rw[h2,hp]at this;cases this
    simp +contextual (disch:=omega) only[Tryz.f103,Fw,go_sem,simprocAttr,Fl,↓AD,↓AC,↓AB,↓AA,hr',hgr,hlt,hy,AI,AJ]
    first|exact⟨hinv2,by rfl⟩|rfl
 ·intro hinv;have e2:idxR p l = -1:=by unfold idxR;rw[if_neg (by omega)]
  rw[e2];simp +contextual (disch:=omega) only[Tryz.f103,Fw,go_sem,simprocAttr,Fl,↓AD,↓AC,↓AB,↓AA];exact rp _
theorem KV (p:Re->Bool) (l:List Re):decide (0<=idxR p l)=l.any p:=by
 unfold idxR;by_cases h:l.findIdx p<l.length
 ·rw[if_pos h];have:=List.findIdx_getElem (xs:=l) (p:=p) (w:=h);have h2:l.any p=true:=List.any_eq_true.2 ⟨_,List.getElem_mem h,this⟩;rw[h2];simp
 ·rw[if_neg h];have h2:l.any p=false:=by
   rw[List.any_eq_false];intro x hx hp;exact h (List.findIdx_lt_length_of_exists ⟨x,hx,hp⟩)
  rw[h2];rfl
theorem d73 (g:Nat) (p:Re->Bool) (l:List Re) (hl:l.length<=1000000000) (hy:g≠yldF) (hg:∀ r∈l,∀ H,call Pg pol1 g [reAV r] H=some (.bool (p r),H)) (H:List MB) :
  call Pg pol1 73 [.sl false (l.map reAV),.clo g []] H=some (.bool (l.any p),H):=by
 have hpl:=AH l;have h103:=fun t=>d103 t g p l hl hy hg;refine AR Tryz.func73 rfl rfl rfl rfl rfl rfl (fun _=>rfl) (by simp only[AV.plainL,AV.plain,hpl];rfl) rfl ?_ H;rw[<- KV];generalize idxR p l=k at *;by_cases h0:0<=k
 ·rw[decide_eq_true h0];simp +contextual (disch:=omega) only[Tryz.f73,dd73,go_sem,simprocAttr,mu73,↓AD,↓AC,↓AB,↓AA,h103,h0];exact fzEq rfl rfl
 ·rw[decide_eq_false h0];simp +contextual (disch:=omega) only[Tryz.f73,dd73,go_sem,simprocAttr,mu73,↓AD,↓AC,↓AB,↓AA,h103,h0];exact fzEq rfl rfl
mutual
def regG:Re->Bool
 | .mk op set kids mn mx md n neg=>(decide (op=0∨op=1∨op=2∨op=3∨op=5)||(decide (op=4)&&!decide (md=2)))&&regL kids
def regL:List Re->Bool
 | []=>true
 | k::ks=>regG k&&regL ks
end
theorem GV:∀ l:List Re,regL l = !(l.any fun k=>!regG k)
 | []=>rfl
 | k::ks=>by rw[regL,GV ks];simp[Bool.not_or]
theorem d47:∀(N:Nat) (r:Re),r.wt<=N->r.wt<=1000000000->∀ H,call Pg pol1 47 [reAV r] H=some (.bool (regG r),H)
 | 0,r,h,_=>by have:=r.wt_pos;omega
 | N+1,.mk op set kids mn mx md n neg,h,hw=>fun H=>by
   have hk:∀ k∈kids,∀ H,call Pg pol1 74 [reAV k] H=some (.bool (!regG k),H):=fun k hk H=>by
    have hle:=Re.wtL_mem hk;simp only[Re.wt]at h hw;have h47:=d47 N k (by omega) (by omega);have hpl:=AO k;have hl8:=AI k;refine AR Tryz.func74 rfl rfl rfl rfl rfl rfl (fun _=>rfl) (by simp only[AV.plainL,AV.plain,hpl];rfl) rfl ?_ H;generalize regG k=v at *;simp +contextual (disch:=omega) only[Tryz.f74,dd74,go_sem,simprocAttr,mu74,↓AD,↓AC,↓AB,↓AA,h47,AI,AN,AJ];exact⟨_,rfl⟩
   have hpl:AV.plain (reAV (.mk op set kids mn mx md n neg))=true:=AO _;have h73:=d73 74 (fun k=>!regG k) kids (by simp only[Re.wt]at hw;have:=Re.wtL_len kids;omega) (by decide) hk;refine AR Tryz.func47 rfl rfl rfl rfl rfl rfl (fun _=>rfl) (by simp only[AV.plainL,hpl];rfl) rfl ?_ H;rw[regG,GV];generalize (kids.any fun k=>!regG k)=v at *;rw[show reAV (.mk op set kids mn mx md n neg)=.agg (nodeL op set kids mn mx md n neg) from by rw[reAV,Aa]];obtain⟨b,hb⟩:∃ b,((decide (op=0∨op=1∨op=2∨op=3∨op=5)||(decide (op=4)&&!decide (md=2)))&&!v)=b:=⟨_,rfl⟩;rw[hb];by_cases c0:op=0
   ·subst c0;obtain rfl:(!v)=b:=by rw[<- hb];simp
    simp +contextual (disch:=omega) only[Tryz.f47,dd47,go_sem,simprocAttr,mu47,↓AD,↓AC,↓AB,↓AA,h73];exact⟨_,rfl⟩
   by_cases c1:op=1
   ·subst c1;obtain rfl:(!v)=b:=by rw[<- hb];simp
    simp +contextual (disch:=omega) only[Tryz.f47,dd47,go_sem,simprocAttr,mu47,↓AD,↓AC,↓AB,↓AA,h73];exact⟨_,rfl⟩
   by_cases c2:op=2
   ·subst c2;obtain rfl:(!v)=b:=by rw[<- hb];simp
    simp +contextual (disch:=omega) only[Tryz.f47,dd47,go_sem,simprocAttr,mu47,↓AD,↓AC,↓AB,↓AA,h73];exact⟨_,rfl⟩
   by_cases c3:op=3
   ·subst c3;obtain rfl:(!v)=b:=by rw[<- hb];simp
    simp +contextual (disch:=omega) only[Tryz.f47,dd47,go_sem,simprocAttr,mu47,↓AD,↓AC,↓AB,↓AA,h73];exact⟨_,rfl⟩
   by_cases c5:op=5
   ·subst c5;obtain rfl:(!v)=b:=by rw[<- hb];simp
    simp +contextual (disch:=omega) only[Tryz.f47,dd47,go_sem,simprocAttr,mu47,↓AD,↓AC,↓AB,↓AA,h73];exact⟨_,rfl⟩
   by_cases c4:op=4
   ·subst c4;by_cases cm:md=2
    ·subst cm;obtain rfl:false=b:=by rw[<- hb];simp
     simp +contextual (disch:=omega) only[Tryz.f47,dd47,go_sem,simprocAttr,mu47,↓AD,↓AC,↓AB,↓AA,h73];exact⟨_,rfl⟩
    ·obtain rfl:(!v)=b:=by rw[<- hb];simp[cm]
     simp +contextual (disch:=omega) only[Tryz.f47,dd47,go_sem,simprocAttr,mu47,↓AD,↓AC,↓AB,↓AA,h73,cm];exact⟨_,rfl⟩
   ·obtain rfl:false=b:=by rw[<- hb];simp[c0,c1,c2,c3,c4,c5]
    simp +contextual (disch:=omega) only[Tryz.f47,dd47,go_sem,simprocAttr,mu47,↓AD,↓AC,↓AB,↓AA,h73,c0,c1,c2,c3,c4,c5];exact⟨_,rfl⟩
end
section
attribute [local go_sem] length_append
theorem AT (r:Re):AV.plain (reAV r)=true:=AO r
theorem d82 (H:List MB):call Pg pol1 82 [] H=some (reAV emptyR,H):=by
 refine AR Tryz.func82 rfl rfl rfl rfl rfl rfl (fun _=>rfl) rfl rfl ?_ H;simp +contextual (disch:=omega) only[Tryz.f82,dd82,go_sem,simprocAttr,evAppend,map_append,mu82,↓AD,↓AC,↓AB,↓AA];exact⟨_,rfl⟩
theorem d91 (H:List MB):call Pg pol1 91 [] H=some (reAV nothR,H):=by
 refine AR Tryz.func91 rfl rfl rfl rfl rfl rfl (fun _=>rfl) rfl rfl ?_ H;simp +contextual (disch:=omega) only[Tryz.f91,dd91,go_sem,simprocAttr,evAppend,map_append,mu91,↓AD,↓AC,↓AB,↓AA];exact⟨_,rfl⟩
theorem d108 (r:Re) (H:List MB):call Pg pol1 108 [reAV r] H=some (.bool (decide (r.op=0)),H):=by
 obtain⟨op,set,kids,mn,mx,md,n,neg⟩:=r;rw[show reAV (.mk op set kids mn mx md n neg)=.agg (nodeL op set kids mn mx md n neg) from congrArg AV.agg Aa];refine AR Tryz.func108 rfl rfl rfl rfl rfl rfl (fun _=>rfl) (by simp[AV.plain,AV.plainL,AF,AH]) rfl ?_ H;rw[show (Re.mk op set kids mn mx md n neg).op=op from rfl];by_cases h:op=0
 ·subst h;simp +contextual (disch:=omega) only[Tryz.f108,RJ,go_sem,simprocAttr,evAppend,map_append,RC,↓AD,↓AC,↓AB,↓AA];exact⟨_,rfl⟩
 ·rw[decide_eq_false h];simp +contextual (disch:=omega) only[Tryz.f108,RJ,go_sem,simprocAttr,evAppend,map_append,RC,↓AD,↓AC,↓AB,↓AA,h];exact⟨_,rfl⟩
theorem d109 (r:Re) (H:List MB):call Pg pol1 109 [reAV r] H=some (.bool (isNoth r),H):=by
 obtain⟨op,set,kids,mn,mx,md,n,neg⟩:=r;rw[show reAV (.mk op set kids mn mx md n neg)=.agg (nodeL op set kids mn mx md n neg) from congrArg AV.agg Aa];refine AR Tryz.func109 rfl rfl rfl rfl rfl rfl (fun _=>rfl) (by simp[AV.plain,AV.plainL,AF,AH]) rfl ?_ H;rw[show isNoth (Re.mk op set kids mn mx md n neg)=(decide (op=1)&&decide (set.length=0)) from rfl];by_cases h:op=1
 ·subst h;by_cases g:set.length=0
  ·obtain rfl:=List.length_eq_zero_iff.1 g;simp +contextual (disch:=omega) only[Tryz.f109,PH,go_sem,simprocAttr,evAppend,map_append,Oo,↓AD,↓AC,↓AB,↓AA];exact⟨_,rfl⟩
  ·rw[decide_eq_false g];have g2:¬ (set.length:Int)=0:=by omega
   simp +contextual (disch:=omega) only[Tryz.f109,PH,go_sem,simprocAttr,evAppend,map_append,Oo,↓AD,↓AC,↓AB,↓AA,g2];exact⟨_,rfl⟩
 ·rw[decide_eq_false h];simp +contextual (disch:=omega) only[Tryz.f109,PH,go_sem,simprocAttr,evAppend,map_append,Oo,↓AD,↓AC,↓AB,↓AA,h];exact⟨_,rfl⟩
theorem d63 (r:Re) (H:List MB):call Pg pol1 63 [reAV r] H=some (.bool (isNoth r),H):=by
 obtain⟨op,set,kids,mn,mx,md,n,neg⟩:=r;rw[show reAV (.mk op set kids mn mx md n neg)=.agg (nodeL op set kids mn mx md n neg) from congrArg AV.agg Aa];refine AR Tryz.func63 rfl rfl rfl rfl rfl rfl (fun _=>rfl) (by simp[AV.plain,AV.plainL,AF,AH]) rfl ?_ H;rw[show isNoth (Re.mk op set kids mn mx md n neg)=(decide (op=1)&&decide (set.length=0)) from rfl];by_cases h:op=1
 ·subst h;by_cases g:set.length=0
  ·obtain rfl:=List.length_eq_zero_iff.1 g;simp +contextual (disch:=omega) only[Tryz.f63,dd63,go_sem,simprocAttr,evAppend,map_append,mu63,↓AD,↓AC,↓AB,↓AA];exact⟨_,rfl⟩
  ·rw[decide_eq_false g];have g2:¬ (set.length:Int)=0:=by omega
   simp +contextual (disch:=omega) only[Tryz.f63,dd63,go_sem,simprocAttr,evAppend,map_append,mu63,↓AD,↓AC,↓AB,↓AA,g2];exact⟨_,rfl⟩
 ·rw[decide_eq_false h];simp +contextual (disch:=omega) only[Tryz.f63,dd63,go_sem,simprocAttr,evAppend,map_append,mu63,↓AD,↓AC,↓AB,↓AA,h];exact⟨_,rfl⟩
theorem d87 (b:Bool) (H:List MB):call Pg pol1 87 [.bool b] H=some (I (neg01 b),H):=by
 refine AR Tryz.func87 rfl rfl rfl rfl rfl rfl (fun _=>rfl) rfl rfl ?_ H;cases b
 ·simp +contextual (disch:=omega) only[Tryz.f87,dd87,go_sem,simprocAttr,evAppend,map_append,mu87,↓AD,↓AC,↓AB,↓AA,neg01];exact⟨_,rfl⟩
 ·simp +contextual (disch:=omega) only[Tryz.f87,dd87,go_sem,simprocAttr,evAppend,map_append,mu87,↓AD,↓AC,↓AB,↓AA,neg01];exact⟨_,rfl⟩
theorem Ij {op a b c d:Int}{l:List Re}{g t u:Bool}{H:List MB}:∃ H',fz (.agg [I op,.sl t [],.sl u (l.map reAV),I a,I b,I c,I d,.bool g]) H=some (.agg [I op,.sl false [],.sl false (l.map reAV),I a,I b,I c,I d,.bool g],H'):=
 ⟨H,by
   have h:=AH l;simp only[fz,fzA,fzL,fzJ,A7 _ _ _ h,Option.bind_some,Option.map_some]⟩
abbrev zeR:AV:=.agg [I 0,.sl true [],.sl true [],I 0,I 0,I 0,I 0,.bool false]
theorem d90 (op:Int) (l:List Re) (z:Re) (H:List MB):call Pg pol1 90 [I op,.sl false (l.map reAV),reAV z] H=some (reAV (joinR op l z),H):=by
 have hz:=AO z;have hk:=AH l;have h8:=AI z;have h8t:=AJ z;have h8o:=AN z;refine AR Tryz.func90 rfl rfl rfl rfl rfl rfl (fun _=>rfl) (by simp[AV.plain,AV.plainL,AH,AO]) (AT _) ?_ H;rcases l with _|⟨x,_|⟨y,l⟩⟩
 ·rw[show joinR op [] z=z from rfl];simp +contextual (disch:=omega) only[Tryz.f90,dd90,go_sem,simprocAttr,evAppend,map_append,mu90,↓AD,↓AC,↓AB,↓AA,h8,h8t,h8o];exact fzEq (AT _) rfl
 ·rw[show joinR op [x] z=x from rfl];have x8:=AI x;have x8t:=AJ x;have x8o:=AN x;simp +contextual (disch:=omega) only[Tryz.f90,dd90,go_sem,simprocAttr,evAppend,map_append,mu90,↓AD,↓AC,↓AB,↓AA,h8,h8t,h8o,x8,x8t,x8o];exact fzEq (AT _) rfl
 ·have hl:(x::y::l).length=l.length+2:=rfl;have e:reAV (joinR op (x::y::l) z)=.agg [I op,.sl false [],.sl false ((x::y::l).map reAV),I 0,I 0,I 0,I 0,.bool false]:=congrArg AV.agg Aa;rw[e];generalize (x::y::l)=L at *;have a0:¬ (L.length:Int)=0:=by omega
  have a1:¬ (L.length:Int)=1:=by omega
  simp +contextual (disch:=omega) only[Tryz.f90,dd90,go_sem,simprocAttr,evAppend,map_append,mu90,↓AD,↓AC,↓AB,↓AA,h8,h8t,h8o,a0,a1];exact Ij
theorem d95 (op:Int) (l:List Re) (z:Re) (H:List MB):call Pg pol1 95 [I op,.sl false (l.map reAV),reAV z] H=some (reAV (joinR op l z),H):=by
 have hz:=AO z;have hk:=AH l;have h8:=AI z;have h8t:=AJ z;have h8o:=AN z;refine AR Tryz.func95 rfl rfl rfl rfl rfl rfl (fun _=>rfl) (by simp[AV.plain,AV.plainL,AH,AO]) (AT _) ?_ H;rcases l with _|⟨x,_|⟨y,l⟩⟩
 ·rw[show joinR op [] z=z from rfl];simp +contextual (disch:=omega) only[Tryz.f95,dd95,go_sem,simprocAttr,evAppend,map_append,mu95,↓AD,↓AC,↓AB,↓AA,h8,h8t,h8o];exact fzEq (AT _) rfl
 ·rw[show joinR op [x] z=x from rfl];have x8:=AI x;have x8t:=AJ x;have x8o:=AN x;simp +contextual (disch:=omega) only[Tryz.f95,dd95,go_sem,simprocAttr,evAppend,map_append,mu95,↓AD,↓AC,↓AB,↓AA,h8,h8t,h8o,x8,x8t,x8o];exact fzEq (AT _) rfl
 ·have hl:(x::y::l).length=l.length+2:=rfl;have e:reAV (joinR op (x::y::l) z)=.agg [I op,.sl false [],.sl false ((x::y::l).map reAV),I 0,I 0,I 0,I 0,.bool false]:=congrArg AV.agg Aa;rw[e];generalize (x::y::l)=L at *;have a0:¬ (L.length:Int)=0:=by omega
  have a1:¬ (L.length:Int)=1:=by omega
  simp +contextual (disch:=omega) only[Tryz.f95,dd95,go_sem,simprocAttr,evAppend,map_append,mu95,↓AD,↓AC,↓AB,↓AA,h8,h8t,h8o,a0,a1];exact Ij
theorem RU (l:List Re):(l.map reAV).all (fun y=>decide (y.cells.length=8)&&y.cells.all AV.ok)=true:=by
 rw[all_eq_true];intro y hy;obtain⟨r,_,rfl⟩:=mem_map.1 hy;simp only[AV.cells,AI,AN,decide_true,Bool.and_self]
theorem EN {H:List MB}{i n z:Nat}{rs xs:List Re}{t:Bool} (hi:getRow H i=some (8,rs.map reAV,z)) (hz:z<=n) (hn:rs.length=n) (hr:n+xs.length<=4000000000) :
  evAppend Pg H 24 24 (.ms i 8 n 0 n) (.sl t (xs.map reAV))=some (.ms i 8 (n+xs.length) 0 (n+xs.length),H.set i (.row 8 ((rs++xs).map reAV) z)):=by
 have hs:srcElems Pg H 26 (.sl t (xs.map reAV))=some (xs.map reAV):=rfl;rw[Ah (e:=26) (by kernel_rfl) (by kernel_rfl) (k:=8) (by kernel_rfl) (by_:=96) (by kernel_rfl) (ze:=zeR) (by kernel_rfl) rfl (by omega) hs (RU xs) hi (by rw[length_map];exact hn) hz (Ad (by simp;omega) (by omega))];rw[map_append,length_map]
theorem Bc {H:List MB}{i n z:Nat}{rs:List Re}{x:Re}{t:Bool} (hi:getRow H i=some (8,rs.map reAV,z)) (hz:z<=n) (hn:rs.length=n) (hr:n+1<=4000000000) :
  evAppend Pg H 24 24 (.ms i 8 n 0 n) (.sl t [reAV x])=some (.ms i 8 (n+1) 0 (n+1),H.set i (.row 8 ((rs++[x]).map reAV) z)):=
 EN (xs:=[x]) hi hz hn hr
theorem d107 (op:Int) (l:List Re) (hw:Re.wtL l<=1000000000) (H:List MB) :
  call Pg pol1 107 [.sl false (l.map reAV),I op] H=some (.ms H.length 8 (flatR op l).length 0 (flatR op l).length,H++[.row 8 ((flatR op l).map reAV) 0]):=by
 have hll:=Re.wtL_len l;have hfl:∀ i,(flatR op (l.take i)).length<=1000000000:=fun i=>by
  have h1:=Re.wtL_len (flatR op (l.take i));have h2:=B4 op (l.take i);have h3:Re.wtL (l.take i)<=Re.wtL l:=by
   conv=>rhs;rw[<- List.take_append_drop i l,Re.wtL_app]
   omega
  omega
 refine Nw (k:=8) (els:=(flatR op l).map reAV) Tryz.func107 rfl rfl rfl rfl (fun _=>rfl) (by simp[AV.plain,AV.plainL,AH]) (AH _) ?_ H;simp +contextual (disch:=omega) only[Tryz.f107,Mc,go_sem,simprocAttr,evAppend,map_append,MO,↓AD,↓AC,↓AB,↓AA];refine AY (M:=(mskOf (pol1.mask 107) (pol1.gc 107) (pol1.acts 107) 0 3)) (by rfl) l.length (fun i=>(⟨28,[(10,I i),(9,I l.length),(8,.sl false (l.map reAV)),(5,.ms 0 8 (flatR op (l.take i)).length 0 (flatR op (l.take i)).length),(1,I op)],[.row 8 ((flatR op (l.take i)).map reAV) 0]⟩:St)) (fun _=>True) ?_ ?_ trivial _ (by first|rfl|(refine AP rfl (by rfl) (by rfl) (by rfl) ?_ ?_<;>simp[AV.underL,AV.under,MB.under,AE,AK,AG,AF,AL,AM,-map_take,AH]))
 ·intro i hi _;obtain⟨k,hk⟩:∃ k,l[i]?=some k:=⟨_,getElem?_eq_getElem hi⟩;have hlt:(i:Int)<(l.length:Int):=by omega
  have hk':=As hk;have hb:=hfl i;have hb2:=hfl (i+1);have hst:=Ll (op:=op) hk;rw[hst]at hb2 |-;obtain⟨kop,set,kids,mn,mx,md,n,neg⟩:=k;rw[show (Re.mk kop set kids mn mx md n neg).op=kop from rfl,show (Re.mk kop set kids mn mx md n neg).sub=kids from rfl]at hb2 |-;have e8:reAV (.mk kop set kids mn mx md n neg)=.agg (nodeL kop set kids mn mx md n neg):=congrArg AV.agg Aa;generalize hX:flatR op (l.take i)=X at *;by_cases hop:kop=op
  ·rw[if_pos hop]at hb2 |-;rw[length_append]at hb2;have a1:=fun K=>EN (H:=.row 8 (X.map reAV) 0::K) (i:=0) (n:=X.length) (xs:=kids) (t:=false) (rs:=X) rfl (zero_le _) rfl (by omega);simp only[List.set_cons_zero]at a1;rw[e8]at hk';simp +contextual (disch:=omega) only[Tryz.f107,Mc,go_sem,simprocAttr,MO,↓AD,↓AC,↓AB,↓AA,hk',hlt,hop,a1];generalize X++kids=X2 at *;rw[<- length_append];generalize (X++kids).length=N2 at *;exact(by first|rfl|(refine AP rfl (by rfl) (by rfl) (by rfl) ?_ ?_<;>simp[AV.underL,AV.under,MB.under,AE,AK,AG,AF,AL,AM,-map_take,AH]))
  ·rw[if_neg hop]at hb2 |-;rw[length_append]at hb2;have a1:=fun K=>Bc (H:=.row 8 (X.map reAV) 0::K) (i:=0) (n:=X.length) (x:=.mk kop set kids mn mx md n neg) (t:=true) (rs:=X) rfl (zero_le _) rfl (by simp at hb2;omega);simp only[List.set_cons_zero,e8]at a1;rw[e8]at hk';simp +contextual (disch:=omega) only[Tryz.f107,Mc,go_sem,simprocAttr,MO,↓AD,↓AC,↓AB,↓AA,hk',hlt,hop,a1];generalize X++[Re.mk kop set kids mn mx md n neg]=X2 at *;generalize X.length+1=N2 at *;exact(by first|rfl|(refine AP rfl (by rfl) (by rfl) (by rfl) ?_ ?_<;>simp[AV.underL,AV.under,MB.under,AE,AK,AG,AF,AL,AM,-map_take,AH]))
 ·intro _;rw[take_length];generalize flatR op l=X at *;have hp:=AH X;have hro:retPol pol1 107 [] (.ms 0 8 X.length 0 X.length) [.row 8 (X.map reAV) 0]=some (.ms 0 8 X.length 0 X.length,[.row 8 (X.map reAV) 0]):=
   LU (z:=0) rfl rfl rfl (by simp) (NN _ hp) rfl hp (by simp)
  simp +contextual (disch:=omega) only[Tryz.f107,Mc,go_sem,simprocAttr,evAppend,map_append,MO,↓AD,↓AC,↓AB,↓AA,hro]
end
section
attribute [local go_sem] evAppend length_append map_append
def plB (b:MB):Prop:=∀ n,MB.under n b=true
def HP (H:List MB):Prop:=∀ b∈H,plB b
theorem HP.all {H:List MB} (h:HP H) (n:Nat):H.all (MB.under n)=true:=all_eq_true.2 fun b hb=>h b hb n
theorem AZ {k z:Nat}{e:List AV} (he:AV.plainL e=true):plB (.row k e z):=fun n=>AE n e he
theorem HP.set {H:List MB} (h:HP H) {i k z:Nat}{e:List AV} (he:AV.plainL e=true):HP (H.set i (.row k e z)):=fun b hb=>by
 rcases List.mem_or_eq_of_mem_set hb with g|rfl
 ·exact h b g
 ·exact AZ he
theorem HP.push {H:List MB} (h:HP H) {b:MB} (hb:plB b):HP (H++[b]):=fun c hc=>by
 rcases List.mem_append.1 hc with g|g
 ·exact h c g
 ·rw[List.mem_singleton.1 g];exact hb
theorem HP.nil:HP []:=fun b hb=>by cases hb
theorem HP.cons {H:List MB} (h:HP H) {b:MB} (hb:plB b):HP (b::H):=fun c hc=>by
 rcases List.mem_cons.1 hc with rfl|g
 ·exact hb
 ·exact h c g
theorem Sc (g:Nat) (p:Re->Bool) (l:List Re) {H:List MB}{id n z:Nat} (hr:H[id]?=some (.row 8 (l.map reAV) z)) (hn:l.length=n) (hl:n<=1000000000) (hy:g≠yldF) (hg:∀ r∈l,∀ H,call Pg pol1 g [reAV r] H=some (.bool (p r),H)) :
  call Pg pol1 103 [.ms id 8 n 0 n,.clo g []] H=some (I (idxR p l),H):=by
 subst hn;have hfr:frzArgs pol1 103 0 [.ms id 8 l.length 0 l.length,.clo g []] H=some ([.ms id 8 l.length 0 l.length,.clo g []],H):=rfl;have rp:=fun r:Int=>J8 (f:=103) (H:=H) rfl rfl (show AV.plain (I r)=true from rfl);refine AX (pol:=pol1) Tryz.func103 rfl rfl rfl rfl hfr ?_;have hlen:(l.map reAV).length=l.length:=by simp
 obtain⟨E,hE⟩:∃ E,l.map reAV=E:=⟨_,rfl⟩;rw[hE]at hr hlen;simp +contextual (disch:=omega) only[Tryz.f103,Fw,go_sem,simprocAttr,Fl,↓AD,↓AC,↓AB,↓AA];have hfi:l.findIdx p<=l.length:=List.findIdx_le_length;refine AY (M:=(mskOf (pol1.mask 103) (pol1.gc 103) (pol1.acts 103) 0 2)) (by rfl) l.length (fun i=>(⟨19,[(8,I i),(7,I l.length),(1,.clo g []),(0,.ms id 8 l.length 0 l.length)],H⟩:St)) (fun i=>i<=l.findIdx p) ?_ ?_ (zero_le _) _ (by rfl)
 ·intro i hi hinv;obtain⟨r,hri⟩:∃ r,l[i]?=some r:=⟨_,getElem?_eq_getElem hi⟩;have hr':=As hri;rw[hE]at hr';have hgr:=hg r (mem_of_getElem? hri);have hlt:(i:Int)<(l.length:Int):=by omega
  cases hp:p r with
  | true=>
    have e:l.findIdx p=i:=by
     rcases Nat.lt_or_eq_of_le hinv with h|h
     ·have:=List.not_of_lt_findIdx h;have h2:l[i]=r:=by rw[getElem?_eq_getElem hi]at hri;exact Option.some.inj hri
      rw[h2]at this;rw[hp]at this;cases this
     ·exact h.symm
    rw[hp]at hgr;have e2:idxR p l=(i:Int):=by unfold idxR;rw[e,if_pos hi]
    rw[e2];simp +contextual (disch:=omega) only[Tryz.f103,Fw,go_sem,simprocAttr,Fl,↓AD,↓AC,↓AB,↓AA,hr,hr',hgr,hlt,hy,AI,AJ,AN,hlen];exact rp _
  | false=>
    rw[hp]at hgr;have hinv2:i+1<=l.findIdx p:=by
     rcases Nat.lt_or_eq_of_le hinv with h|h
     ·exact h
     ·exfalso;have h1:l.findIdx p<l.length:=by omega
      have:=List.findIdx_getElem (xs:=l) (p:=p) (w:=h1);have h2:l[l.findIdx p]=r:=by
       rw[getElem?_eq_getElem hi]at hri;have:=Option.some.inj hri;simp only[<- h];exact this
      rw[h2,hp]at this;cases this
    simp +contextual (disch:=omega) only[Tryz.f103,Fw,go_sem,simprocAttr,Fl,↓AD,↓AC,↓AB,↓AA,hr,hr',hgr,hlt,hy,AI,AJ,AN,hlen]
    first|exact⟨hinv2,by rfl⟩|rfl
 ·intro hinv;have e2:idxR p l = -1:=by unfold idxR;rw[if_neg (by omega)]
  rw[e2];simp +contextual (disch:=omega) only[Tryz.f103,Fw,go_sem,simprocAttr,Fl,↓AD,↓AC,↓AB,↓AA,hr];exact rp _
def keepR (l:List Re):List Re:=l.filter fun r=>!decide (r.op=0)
def zerosR (k:Nat):List AV:=List.replicate k zeR
theorem NK {p:Re->Bool}{l:List Re} (h:idxR p l = -1):l.filter (fun r=>!p r)=l:=by
 rw[List.filter_eq_self];intro a ha;have h2:=KV p l;rw[h]at h2;have h3:l.any p=false:=by rw[<- h2];rfl
 rw[List.any_eq_false]at h3;have:=h3 a ha;simp only[Bool.not_eq_true]at this;rw[this];rfl
theorem NJ {p:Re->Bool}{l:List Re} (h:idxR p l≠-1):∃ k r,idxR p l=((k:Nat):Int)/\k<l.length/\l[k]?=some r/\p r=true/\(l.take (k+1)).filter (fun r=>!p r)=l.take k:=by
 unfold idxR at h |-;split at h
 ·rename_i hlt;rw[if_pos hlt];have hp:=List.findIdx_getElem (xs:=l) (p:=p) (w:=hlt);refine⟨l.findIdx p,l[l.findIdx p],rfl,hlt,getElem?_eq_getElem hlt,hp,?_⟩;rw[AW (getElem?_eq_getElem hlt),List.filter_append];have e1:(l.take (l.findIdx p)).filter (fun r=>!p r)=l.take (l.findIdx p):=by
   rw[List.filter_eq_self];intro a ha;obtain⟨i,hi,rfl⟩:=List.mem_iff_getElem.1 ha;have hi2:i<l.findIdx p:=by rw[List.length_take]at hi;omega
   have:=List.not_of_lt_findIdx hi2;rw[List.getElem_take];have:p l[i]=false:=by simpa using this
   rw[this];rfl
  rw[e1];simp[hp]
 ·exact absurd rfl h
theorem d106 (l:List Re) {H:List MB}{id n:Nat} (hr:H[id]?=some (.row 8 (l.map reAV) 0)) (hn:l.length=n) (hl:n<=1000000000) (hH:HP H) :
  ∃ Z:List AV,Z.length=n-(keepR l).length/\call Pg pol1 106 [.ms id 8 n 0 n,.clo 108 []] H=some (.ms id 8 n 0 (keepR l).length,H.set id (.row 8 ((keepR l).map reAV++Z) 0)):=by
 have hfr:frzArgs pol1 106 0 [.ms id 8 n 0 n,.clo 108 []] H=some ([.ms id 8 n 0 n,.clo 108 []],H):=rfl;have rp:∀ H1 r H,retPol pol1 106 H1 r H=some (r,H):=fun H1 r H=>rfl;have h103:=Sc 108 (fun r=>decide (r.op=0)) l hr hn hl (by decide) (fun r _ H=>d108 r H);have hid:=(List.getElem?_eq_some_iff.1 hr).1;by_cases hx:idxR (fun r=>decide (r.op=0)) l = -1
 ·have hk:keepR l=l:=NK hx;refine⟨[],by rw[hk,hn,Nat.sub_self];rfl,?_⟩;rw[hk,append_nil];subst hn;refine AX (pol:=pol1) Tryz.func106 rfl rfl rfl rfl hfr ?_;have hs:H.set id (.row 8 (l.map reAV) 0)=H:=by
   apply List.ext_getElem?;intro q;by_cases e:id=q
   ·subst e;rw[getElem?_set_self hid,hr]
   ·rw[List.getElem?_set_ne e]
  rw[hs];rw[hx]at h103;simp +contextual (disch:=omega) only[Tryz.f106,Kp,go_sem,simprocAttr,KJ,↓AD,↓AC,↓AB,↓AA,h103];exact rp _ _ _
 ·obtain⟨k,r0,e1,hk,hr0,hp0,hf⟩:=NJ hx;rw[e1]at h103;have hk1:¬ ((k:Nat):Int) = -1:=by omega
  refine⟨zerosR (n-(keepR l).length),by simp[zerosR],?_⟩;refine AX (pol:=pol1) Tryz.func106 rfl rfl rfl rfl hfr ?_;simp +contextual (disch:=omega) only[Tryz.f106,Kp,go_sem,simprocAttr,KJ,↓AD,↓AC,↓AB,↓AA,h103,hk1];have hFl:∀ j,(keepR (l.take j)).length<=j:=fun j=>by
   have h1:=List.length_filter_le (fun r:Re=>!decide (r.op=0)) (l.take j);have h2:=List.length_take_le j l;unfold keepR;omega
  have hf':keepR (l.take (k+1))=l.take k:=hf;have hkeep1:(keepR (l.take (k+1))).length=k:=by rw[hf',List.length_take];omega
  have hle:∀ s,(keepR (l.take (k+1+s))).length<=k+s:=fun s=>by
   induction s with
   | zero=>rw[Nat.add_zero,hkeep1];omega
   | succ s ih=>
     by_cases hs:k+1+s<l.length
     ·rw[show k+1+(s+1)=k+1+s+1 by omega,AW (getElem?_eq_getElem hs)];unfold keepR at ih |-;rw[List.filter_append,length_append];have:=List.length_filter_le (fun r:Re=>!decide (r.op=0)) [l[k+1+s]];simp only[List.length_cons,List.length_nil]at this;omega
     ·rw[take_of_length_le (by omega)];rw[take_of_length_le (by omega)]at ih;omega
  refine AY (M:=mskOf (pol1.mask 106) (pol1.gc 106) (pol1.acts 106) H.length 5) (by rfl) (l.length-(k+1)) (fun s=>(⟨42,[(6,I (k+1+s:Nat)),(5,I (keepR (l.take (k+1+s))).length),(1,.clo 108 []),(0,.ms id 8 n 0 n)],H.set id (.row 8 ((keepR (l.take (k+1+s))++l.drop (keepR (l.take (k+1+s))).length).map reAV) 0)⟩:St)) (fun _=>True) ?_ ?_ trivial _ ?_
  ·intro s hs _;obtain⟨r,hri⟩:∃ r,l[k+1+s]?=some r:=⟨_,getElem?_eq_getElem (by omega)⟩;have h108:=d108 r;have hle1:=hle s;have hst:keepR (l.take (k+1+(s+1)))=keepR (l.take (k+1+s))++(if r.op=0 then [] else [r]):=by
    rw[show k+1+(s+1)=k+1+s+1 by omega,AW hri];unfold keepR;rw[List.filter_append];by_cases h:r.op=0<;>simp[h]
   rw[hst];generalize hF:keepR (l.take (k+1+s))=F at *;have hget:((F++l.drop F.length).map reAV)[k+1+s]?=some (reAV r):=by
    rw[List.getElem?_map,List.getElem?_append_right (by omega),List.getElem?_drop,show F.length+(k+1+s-F.length)=k+1+s by omega,hri];rfl
   have hrow:(H.set id (.row 8 ((F++l.drop F.length).map reAV) 0))[id]?=some (.row 8 ((F++l.drop F.length).map reAV) 0):=getElem?_set_self hid;have hrow2:=fun x:MB=>show (H.set id (.row 8 ((F++l.drop F.length).map reAV) 0)++[x])[id]?=_ from(List.getElem?_append_left (by simpa using hid)).trans hrow;have hset2:=fun x y:MB=>show (H.set id (.row 8 ((F++l.drop F.length).map reAV) 0)++[x]).set id y=H.set id y++[x] by rw[List.set_append_left _ _ (by simpa using hid),List.set_set]
   have hlen:((F++l.drop F.length).map reAV).length=n:=by simp;omega
   have hlt:((k+1+s:Nat):Int)<(n:Int):=by omega
   have hFn:F.length<n:=by omega
   have hFi:((F.length:Nat):Int)<(n:Int):=by omega
   by_cases h:r.op=0
   ·rw[if_pos h,append_nil];rw[decide_eq_true h]at h108;generalize hE:(F++l.drop F.length).map reAV=E at *;simp +contextual (disch:=omega) only[Tryz.f106,Kp,go_sem,simprocAttr,KJ,↓AD,↓AC,↓AB,↓AA,hrow,hget,hlen,hlt,h108,AI,AJ,AN,Bs,IX,hrow2,hset2];subst hE;exact AP (n:=H.length) rfl rfl (by rfl) (by rw[List.take_append_of_le_length (by simp),take_of_length_le (by simp)]) (by simp[AV.underL,AV.under,hid]) ((hH.set (AH _)).all _)
   ·rw[if_neg h];rw[decide_eq_false h]at h108;obtain⟨r2,hr2⟩:∃ r2,l[F.length]?=some r2:=⟨_,getElem?_eq_getElem (by omega)⟩;have hget2:((F++l.drop F.length).map reAV)[F.length]?=some (reAV r2):=by
     rw[List.getElem?_map,List.getElem?_append_right (le_refl _),List.getElem?_drop,show F.length+(F.length-F.length)=F.length by omega,hr2];rfl
    have hd2:(reC r2).drop 8=[]:=List.drop_of_length_le (by rw[AI];omega);have hset:((F++l.drop F.length).map reAV).set F.length (reAV r)=((F++[r])++l.drop (F++[r]).length).map reAV:=by
     rw[<- List.map_set,List.set_append_right _ _ (le_refl _),Nat.sub_self];have:l.drop F.length=l[F.length]'(by omega)::l.drop (F.length+1):=List.drop_eq_getElem_cons (by omega);rw[this,List.set_cons_zero,length_append,List.append_assoc];rfl
    have hpE:=AH ((F++[r])++l.drop (F++[r]).length);generalize ((F++[r])++l.drop (F++[r]).length).map reAV=E2 at *;generalize hE:(F++l.drop F.length).map reAV=E at *;simp +contextual (disch:=omega) only[Tryz.f106,Kp,go_sem,simprocAttr,KJ,↓AD,↓AC,↓AB,↓AA,hrow,hget,hlen,hlt,h108,hFi,hFn,AI,AJ,AN,hset,Bs,IX,hrow2,hset2,hget2,hd2];exact AP (n:=H.length) rfl rfl (by rfl) (by rw[List.take_append_of_le_length (by simp),take_of_length_le (by simp)]) (by simp[AV.underL,AV.under,hid]) ((hH.set hpE).all _)
  ·intro _;have hj:k+1+(l.length-(k+1))=l.length:=by omega
   rw[hj,take_length];have hle2:(keepR l).length<=l.length:=List.length_filter_le _ _;have hmn:¬ ((l.length:Nat):Int)<(n:Int):=by omega
   have hmi:((keepR l).length:Int)<=(n:Int):=by omega
   have hrow:(H.set id (.row 8 ((keepR l++l.drop (keepR l).length).map reAV) 0))[id]?=some (.row 8 ((keepR l++l.drop (keepR l).length).map reAV) 0):=getElem?_set_self hid;have hlen:((keepR l++l.drop (keepR l).length).map reAV).length=n:=by simp;omega
   have htk:((keepR l++l.drop (keepR l).length).map reAV).take (keepR l).length=(keepR l).map reAV:=by
    rw[<- map_take,List.take_left' rfl]
   have hclr:evClear Pg (H.set id (.row 8 ((keepR l++l.drop (keepR l).length).map reAV) 0)) 24 (.ms id 8 n (keepR l).length (n-(keepR l).length))=some (H.set id (.row 8 ((keepR l).map reAV++zerosR (n-(keepR l).length)) 0)):=by
    unfold evClear;have hg:getRow (H.set id (.row 8 ((keepR l++l.drop (keepR l).length).map reAV) 0)) id=some (8,(keepR l++l.drop (keepR l).length).map reAV,0):=by unfold getRow;rw[hrow]
    have e1:tyElem Pg 24=some 26:=by kernel_rfl
    have e2:tyZero Pg 26=some zeR:=by kernel_rfl
    simp only[hg,e1,e2];rw[if_neg (by omega),if_pos ⟨⟨hlen,trivial,by omega⟩,⟨by omega,trivial,rfl⟩,rfl⟩,htk,List.set_set];rfl
   generalize (keepR l++l.drop (keepR l).length).map reAV=E at *;simp +contextual (disch:=omega) only[Tryz.f106,Kp,go_sem,simprocAttr,KJ,↓AD,↓AC,↓AB,↓AA,hrow,hlen,hmn,hmi,hclr,hle2];rw[Nat.sub_zero];exact rp _ _ _
  ·have hs:H.set id (.row 8 (l.map reAV) 0)=H:=by
    apply List.ext_getElem?;intro q;by_cases e:id=q
    ·subst e;rw[getElem?_set_self hid,hr]
    ·rw[List.getElem?_set_ne e]
   rw[Nat.add_zero,hkeep1,hf',List.take_append_drop,hs];exact AP (n:=H.length) rfl rfl (by rfl) (take_length) (by simp[AV.underL,AV.under,hid]) (hH.all _)
end
end Go.Ev
