/- What functions of the program compute; no further conditions. -/
import Derived.Test.YtkolcijbdendhaaGreatW27
import Derived.Test.YtkolcijbdendhaaGreatW25
set_option linter.unusedVariables false
set_option linter.unusedSimpArgs false
open List (all_append length_append map_append mem_of_getElem? nil_append)
open Nat (le_refl sub_self)
open Go.Proofs Go.RowKit Go.IntWalk
set_option maxHeartbeats 4000000
set_option maxRecDepth 100000
namespace Go.Ev
attribute [local go_sem] evBin AV.cells Ax BB bndO bnd evEq eqCells not_false_eq_true not_true_eq_false toList_some Array.size_empty length_append tySzE List.head?_drop Nat.mul_one Ak At Ag Al Am Ad
section
abbrev auH (b0 b1 b2 b3 b4 b5 b6 b7 b8 b9:MB) (ts:List Re) (K:List MB):List MB:=b0::b1::b2::b3::b4::b5::b6::b7::b8::b9::.mp .str (entN ts 0)::.row 2 [.agg [.ms 12 8 ts.length 0 ts.length,.mpr 10]] 0::.row 8 (ts.map reAV) 0::K
theorem LI (b0 b1 b2 b3 b4 b5 b6 b7 b8 b9:MB) (ts:List Re) (K:List MB):StH 11 12 10 ts (auH b0 b1 b2 b3 b4 b5 b6 b7 b8 b9 ts K):=⟨rfl,rfl,rfl,by decide,by decide,by decide⟩
theorem m28 (b0 b1 b2 b3 b4 b5 b6 b7 b8 b9:MB) (ts:List Re) (K:List MB) {q:Re} (hq:StT q) (hl:ts.length<=100000) (hn:ts.Nodup) :
  call Pg pol1 28 [.rf 11 1 0 0,reAV q] (auH b0 b1 b2 b3 b4 b5 b6 b7 b8 b9 ts K)=some (NV (ixT q (addT ts q)),auH b0 b1 b2 b3 b4 b5 b6 b7 b8 b9 (addT ts q) K):=by
 have hw:q.wt<=100000:=by have:=hq.wt;omega
 rcases PA q ts 0 with ⟨k,h1,h2⟩|⟨h1,h2⟩
 ·rw[Nat.zero_add]at h2;rw[Dk (mem_of_getElem? h1),Lf hn h1];exact Md (LI b0 b1 b2 b3 b4 b5 b6 b7 b8 b9 ts K) hw hq.nf h2
 ·rw[C9 h1,Lf (b:=ts.length) (C9 h1 ▸ Hh hn) (by simp)];exact GE (LI b0 b1 b2 b3 b4 b5 b6 b7 b8 b9 ts K) hw hq.nf hl h1 h2
def rowL (m:Nat) (row:List Nat):List Nat:=row++List.replicate (m-row.length) 0
theorem ON {m:Nat}{row:List Nat} (h:row.length<m):(rowL m row)[row.length]?=some 0:=by
 unfold rowL;rw[List.getElem?_append_right (le_refl _),sub_self,show m-row.length=(m-row.length-1)+1 by omega,List.replicate_succ];rfl
theorem My {C:List Spans}{j:Nat}{c:Spans} (h:C[j]?=some c) (h0:0<c.length):∃ x y:Int,(C.map setAV)[j]?=some (setAV c)/\(c.map spanAV)[0]?=some (.agg [I x,I y])/\(headX C)[j]?=some x:=by
 cases c with
 | nil=>cases h0
 | cons p l=>exact⟨p.1,p.2,by simp[h],rfl,by simp[headX,h]⟩
theorem GU {m:Nat}{row:List Nat} (h:row.length<=m):(rowL m row).length=m:=by simp[rowL];omega
theorem OM {m:Nat}{row:List Nat} (h:row.length<m) (b:Nat):((rowL m row).map NV).set row.length (NV b)=(rowL m (row++[b])).map NV:=by
 unfold rowL;rw[<- List.map_set,List.set_append_right _ _ (le_refl _),sub_self,show m-row.length=(m-(row++[b]).length)+1 by simp;omega,List.replicate_succ,List.set_cons_zero,List.append_assoc];rfl
theorem JL (x0 x1 x2 x3 x4 x5 x6 x7 x8 x9 x10 y0 y1 y2 y3 y4 y5 y6 y7 y8 y9 y10 b:MB) (K K':List MB):sameAt 11 (x0::x1::x2::x3::x4::x5::x6::x7::x8::x9::x10::b::K) (y0::y1::y2::y3::y4::y5::y6::y7::y8::y9::y10::b::K')=true:=MB.beq_refl b
theorem JK (x0 x1 x2 x3 x4 x5 x6 x7 x8 x9 x10 x11 y0 y1 y2 y3 y4 y5 y6 y7 y8 y9 y10 y11 b:MB) (K K':List MB):sameAt 12 (x0::x1::x2::x3::x4::x5::x6::x7::x8::x9::x10::x11::b::K) (y0::y1::y2::y3::y4::y5::y6::y7::y8::y9::y10::y11::b::K')=true:=MB.beq_refl b
theorem und_row {n k z:Nat}{e:List AV}:MB.under n (.row k e z)=AV.underL n e:=rfl
theorem JD {n:Nat}{q:KK}{es:List (AV×AV)}:MB.under n (.mp q es)=MB.underE n es:=rfl
theorem d9 (p:Pat) (hw:p.re.wt<=1000000) (H:List MB):call Pg pol1 9 [patAV p] H=some (autoA p,H):=by
 have h23:=d23 p hw;have h26:=d26 p;have hck:=Jp (p:=p);have hpl:=KE p
 have hA:autoA p=if chkP p≠0 then .tup [noD,I (chkP p)] else
  match splitA (setsR p.re) (endsR (setsR p.re) (topI p.runes)) (topI p.runes) with
  | none=>.tup [noD,I 4]
  | some C=>if badR p.re=true then .tup [noD,I 4] else outD C (autoF 1024 1024 (headX C) 2000 [nf p.re] [] []):=rfl
 obtain⟨c,hc⟩:∃ c:Code×Code,c=rfOf Pg 9:=⟨_,rfl⟩;have hy9:=fun {mx:Nat} (h:mx<=3000000000)=>y9 p h hc;refine AR Tryz.func9 rfl rfl rfl rfl rfl rfl (fun _=>rfl) (by simp[AV.plainL,AV.plain];exact Ai _) hpl ?_ H;rw[hA];clear hA hpl;obtain⟨re,caps,runes⟩:=p;have hl8:=AI re;have htk8:∀ l,List.take 8 (reC re++l)=reC re:=fun l=>by
  rw[List.take_append_of_le_length (by omega)];exact List.take_of_length_le (by omega)
 have htk10:List.take 10 (reC re++[I caps,.bool runes])=reC re++[I caps,.bool runes]:=List.take_of_length_le (by simp[hl8]);have hall:=AN re;have hpc:=Ai ⟨re,caps,runes⟩;simp only at hck hw h26 hpc;have h24:=d24 re;by_cases hch:chkP ⟨re,caps,runes⟩=0
 ·rw[if_neg (by simpa using hch)];obtain⟨hok,hsz,hwh⟩:=hck hch;rw[hch]at h23;have h65:=hok.wt65;have h27:=d27 re (by omega) hok;have hSl:=GR re;have hSN:=OK hok;simp +contextual -implicitDefEqProofs (disch:=omega) only[Tryz.f9,dd9,go_sem,simprocAttr,evAppend,map_append,mu9,↓AD,↓AC,↓AB,↓AA,h23,h24,hl8,htk8,htk10,hall,all_append,AI,AJ,AN];have key:=d48 _ (by omega) re (le_refl _) hok (hy9 (mx:=(setsR re).length) (by omega)) (ib:=4) (fun a=>rfl) [] (by simp);rw[nil_append]at key;refine I8 (c:=c) (mk:=some [5]) (hc.trans (by kernel_rfl)) rfl rfl rfl (by decide) key (HK rfl) ?_;have hv:∀ s∈setsR re,SetV s:=fun s hs=>⟨(hSN s hs).sep,fun p hp=>(hSN s hs).good p hp⟩;have h25:=sf34 (setsR re) (topI runes) (by unfold topI;split<;>decide) (F7 _) hv (fun s hs=>KC (hSN s hs).sep (hSN s hs).good (hSN s hs).len) (by omega) (fun s hs=>(hSN s hs).len);rw[if_neg (by omega)]at h25
  have h25':∀ b0 b1 b2 b4 b5:MB,call Pg pol1 25 [.ms 3 1 (setsR re).length 0 (setsR re).length,I (topI runes)] [b0,b1,b2,.row 1 ((setsR re).map setAV) 0,b4,b5] =
    some (splitR (splitA (setsR re) (endsR (setsR re) (topI runes)) (topI runes)),[b0,b1,b2,.row 1 ((setsR re).map setAV) (setsR re).length,b4,b5]):=fun b0 b1 b2 b4 b5=>by
   have hfz:fz (.ms 3 1 (setsR re).length 0 (setsR re).length) [b0,b1,b2,.row 1 ((setsR re).map setAV) 0,b4,b5]=some (.sl false ((setsR re).map setAV),[b0,b1,b2,.row 1 ((setsR re).map setAV) (setsR re).length,b4,b5]):=by
    rw[Ay (k:=1) (z:=0) (els:=(setsR re).map setAV) rfl (List.length_map _) (Ac _)];simp[mark,getRow]
   rw[CZ (l:=[.sl false ((setsR re).map setAV),I (topI runes)]) (H1:=[b0,b1,b2,.row 1 ((setsR re).map setAV) (setsR re).length,b4,b5]) rfl ?_ (by simp[AV.plainL,AV.plain,Ac])]
   ·exact h25 _
   ·have h1:pol1.byref 25 0=false:=rfl;have h2:pol1.byref 25 (0+1)=false:=rfl;simp only[frzArgs,h1,h2,Bool.false_eq_true,if_false,hfz,Ab _ (show AV.plain (I (topI runes))=true from rfl)]
  have hpos:=fun cls=>LM (L:=setsR re) (E:=endsR (setsR re) (topI runes)) (top:=topI runes) (cls:=cls);generalize splitA (setsR re) (endsR (setsR re) (topI runes)) (topI runes)=sp at *;clear key hy9 h25;generalize setsR re=S at *;cases sp with
  | none=>
    unfold splitR at h25';simp only;cases hbd:badR re with
    | true=>
      rw[hbd,if_pos rfl]at h27;simp +contextual -implicitDefEqProofs (disch:=omega) only[Tryz.f9,dd9,go_sem,simprocAttr,evAppend,map_append,mu9,↓AD,↓AC,↓AB,↓AA,h26,h25',h27,hl8,htk8,htk10,hall,all_append,AI,AJ,AN];exact⟨rfl,rfl,_,rfl⟩
    | false=>
      rw[hbd,if_neg (by simp)]at h27;simp +contextual -implicitDefEqProofs (disch:=omega) only[Tryz.f9,dd9,go_sem,simprocAttr,evAppend,map_append,mu9,↓AD,↓AC,↓AB,↓AA,h26,h25',h27,hl8,htk8,htk10,hall,all_append,AI,AJ,AN];exact⟨rfl,rfl,_,rfl⟩
  | some C=>
    unfold splitR at h25';simp only;cases hbd:badR re with
    | true=>
      rw[hbd,if_pos rfl]at h27;rw[if_pos rfl];simp +contextual -implicitDefEqProofs (disch:=omega) only[Tryz.f9,dd9,go_sem,simprocAttr,evAppend,map_append,mu9,↓AD,↓AC,↓AB,↓AA,h26,h25',h27,hl8,htk8,htk10,hall,all_append,AI,AJ,AN];exact⟨rfl,rfl,_,rfl⟩
    | false=>
      rw[hbd,if_neg (by simp)]at h27;rw[if_neg (by simp)];have hS0:=FX hok hsz hbd;generalize nf re=t0 at *;obtain⟨hC1,hC2⟩:=hpos C rfl;have n0:∀ b0 b1 b2 b3 b4 b5 b6 b7 b8 b9:MB,call Pg pol1 28 [.rf 11 1 0 0,reAV t0] [b0,b1,b2,b3,b4,b5,b6,b7,b8,b9,.mp .str [],.row 2 [.agg [.ms 12 8 0 0 0,.mpr 10]] 0,.row 8 [] 0]=some (I 0,auH b0 b1 b2 b3 b4 b5 b6 b7 b8 b9 [t0] []):=fun b0 b1 b2 b3 b4 b5 b6 b7 b8 b9=>
       GE (LI b0 b1 b2 b3 b4 b5 b6 b7 b8 b9 [] []) (by have:=hS0.wt;omega) hS0.nf (by simp) (by simp) rfl
      simp +contextual -implicitDefEqProofs (disch:=omega) only[Tryz.f9,dd9,go_sem,simprocAttr,evAppend,map_append,mu9,↓AD,↓AC,↓AB,↓AA,h26,h25',h27,n0,hl8,htk8,htk10,hall,all_append,AI,AJ,AN];refine⟨rfl,rfl,?_⟩;obtain⟨b0,hb0⟩:∃ b,b=MB.row 10 [.agg (reC re++[I caps,.bool runes])] 0:=⟨_,rfl⟩;have u0:∀ n,6<n->MB.under n b0=true:=fun n hn=>by rw[hb0];simp[MB.under,AV.underL,AV.under,AE _ _ hpc]
      rw[<- hb0];obtain⟨b2,hb2⟩:∃ b,b=MB.row 1 [.ms 3 1 S.length 0 S.length] 0:=⟨_,rfl⟩;have u2:∀ n,6<n->MB.under n b2=true:=fun n hn=>by rw[hb2];simp[MB.under,AV.underL,AV.under];omega
      rw[<- hb2];obtain⟨b3,hb3⟩:∃ b,b=MB.row 1 (S.map setAV) S.length:=⟨_,rfl⟩;have u3:∀ n,6<n->MB.under n b3=true:=fun n hn=>by rw[hb3];simp[MB.under,AE _ _ (Ac S)]
      rw[<- hb3];obtain⟨b4,hb4⟩:∃ b,b=MB.row 8 [reAV re] 0:=⟨_,rfl⟩;have u4:∀ n,6<n->MB.under n b4=true:=fun n hn=>by rw[hb4];simp[MB.under,AV.underL,AV.under,AE _ _ (AO re)]
      rw[<- hb4];obtain⟨b5,hb5⟩:∃ b,b=MB.lp .over 9 132 [] [28] c:=⟨_,rfl⟩;have u5:∀ n,6<n->MB.under n b5=true:=fun n hn=>by rw[hb5];rfl
      rw[<- hb5];obtain⟨b6,hb6⟩:∃ b,b=MB.row 8 [.agg (reC t0)] 0:=⟨_,rfl⟩;have u6:∀ n,6<n->MB.under n b6=true:=fun n hn=>by rw[hb6];simp[MB.under,AV.underL,AV.under,AE _ _ (AO t0)]
      rw[<- hb6];generalize hgo:autoF 1024 1024 (headX C) 2000 [t0] [] []=o
      refine Cp (σ:=List Re×List (List Nat)×List Bool) (M:=(mskOf (pol1.mask 9) (pol1.gc 9) (pol1.acts 9) 0 16)) (by rfl) (fun s=>(⟨132,[(13,I s.2.1.length),(12,.rf 11 1 0 0),(11,.rf 7 1 0 0),(7,.sl false (C.map setAV)),(2,.rf 1 1 0 0)],
        auH b0 (.row 3 [.agg [.sl true [],.sl true [],.sl true []]] 0) b2 b3 b4 b5 b6 (.row 3 [.agg [.sl false (C.map setAV),.ms 8 1 s.2.1.length 0 s.2.1.length,.ms 9 1 s.2.1.length 0 s.2.1.length]] 0) (.row 1 (s.2.1.map nsAV) 0) (.row 1 (s.2.2.map AV.bool) 0) s.1 []⟩:St))
       (fun s=>s.1.Nodup/\(∀ t∈s.1,StT t)/\s.1.length<=1024/\s.2.1.length<=s.1.length/\s.2.2.length=s.2.1.length/\autoF 1024 1024 (headX C) (2000-s.2.1.length) s.1 s.2.1 s.2.2=o) (fun s=>2000-s.2.1.length) ([t0],[],[]) ?_ ⟨by simp,by simpa using hS0,by simp,by simp,rfl,hgo⟩ _ ?_
      ·rintro⟨ts,rows,accs⟩ ⟨hnd,hst,hln,hle,hac,hau⟩;simp only at hnd hst hln hle hac hau;have hCX:(headX C).length=C.length:=by simp[headX]
       obtain⟨fu,hfu⟩:∃ k,2000-rows.length=k+1:=⟨1999-rows.length,by omega⟩;rw[hfu]at hau;unfold autoF at hau;cases hr:ts[rows.length]? with
       | none=>
         have hl:¬ (rows.length:Int)<(ts.length:Int):=by
          have:=List.getElem?_eq_none_iff.1 hr;omega
         rw[hr]at hau;simp only at hau;rw[<- hau];simp +contextual -implicitDefEqProofs (disch:=omega) only[Tryz.f9,dd9,go_sem,simprocAttr,evAppend,map_append,mu9,↓AD,↓AC,↓AB,↓AA,hl,auH];exact⟨_,QN (QO (Ab _ (by simp[AV.plain,Ac])) (Ay (z:=0) rfl (by simp) (CW _)) (Ay (z:=0) rfl (by simp[hac]) (BK _))) (Ab _ rfl)⟩
       | some r=>
         have hl:(rows.length:Int)<(ts.length:Int):=by
          have:=(List.getElem?_eq_some_iff.1 hr).1;omega
         rw[hr]at hau;simp only at hau;simp +contextual -implicitDefEqProofs (disch:=omega) only[Tryz.f9,dd9,go_sem,simprocAttr,evAppend,map_append,mu9,↓AD,↓AC,↓AB,↓AA,hl,auH]
         refine Cp (σ:=List Re×List Nat) (M:=(mskOf (pol1.mask 9) (pol1.gc 9) (pol1.acts 9) 0 20)) (by rfl) (fun s=>(⟨132,[(75,I s.2.length),(74,I C.length),(73,.sl false (C.map setAV)),(14,.ms 13 1 C.length 0 C.length),(13,I rows.length),(12,.rf 11 1 0 0),(11,.rf 7 1 0 0),(7,.sl false (C.map setAV)),(2,.rf 1 1 0 0)],
           auH b0 (.row 3 [.agg [.sl true [],.sl true [],.sl true []]] 0) b2 b3 b4 b5 b6 (.row 3 [.agg [.sl false (C.map setAV),.ms 8 1 rows.length 0 rows.length,.ms 9 1 rows.length 0 rows.length]] 0) (.row 1 (rows.map nsAV) 0) (.row 1 (accs.map AV.bool) 0) s.1 [.row 1 ((rowL C.length s.2).map NV) 0]⟩:St))
          (fun s=>s.1.Nodup/\(∀ t∈s.1,StT t)/\s.1.length<=1024/\ts.length<=s.1.length/\s.1[rows.length]?=some r/\s.2.length<=C.length/\rowD 1024 r ((headX C).take s.2.length) ts=some s) (fun s=>C.length-s.2.length) (ts,[]) ?_ ⟨hnd,hst,hln,le_refl _,hr,by simp,rfl⟩ _ ?_
         ·rintro⟨tj,row⟩ ⟨jnd,jst,jln,jle,jr,jrl,jrow⟩;simp only at jnd jst jln jle jr jrl jrow;have jget:(tj.map reAV)[rows.length]?=some (reAV r):=by simp[jr]
          have hSr:StT r:=jst r (mem_of_getElem? jr);by_cases hj:row.length<C.length
          ·have hj':(row.length:Int)<(C.length:Int):=by omega
           obtain⟨cl,hcl⟩:∃ c,C[row.length]?=some c:=⟨_,List.getElem?_eq_getElem hj⟩;obtain⟨x,y,hx1,hx2,hx3⟩:=My hcl (hC2 cl (mem_of_getElem? hcl));have h29:=d29 hSr.size hSr.nf.ok 9 1114111 (hSr.nf.whole 9) x;have hsd:=Mz (lim:=1024) (r:=r) (ts:=ts) hx3;rw[jrow]at hsd;have hclt:(0:Int)<(cl.length:Int):=by
            have:=hC2 cl (mem_of_getElem? hcl);omega
           cases hs:stepR x r with
           | none=>
             rw[hs]at h29;simp only[stepD,hs]at hsd;rw[IL hsd]at hau;simp only at hau;rw[<- hau];unfold resA at h29;have e29:=HE h29 (by simp[AV.underL,AV.under,AE _ _ (AO r)]) (by simp[AV.underL,AV.under,AE _ _ (AO emptyR)]);simp +contextual -implicitDefEqProofs (disch:=omega) only[Tryz.f9,dd9,go_sem,simprocAttr,evAppend,map_append,mu9,↓AD,↓AC,↓AB,↓AA,hj',hx1,hx2,hclt,jget,e29,JL,JK,Bool.or_true,Bool.and_self,auH,AI,AJ,AN];exact⟨rfl,rfl,_,rfl⟩
           | some q=>
             rw[hs]at h29;have hSq:=GL hSr hs;simp only[stepD,hs]at hsd;unfold resA at h29;have e29:=HE h29 (by simp[AV.underL,AV.under,AE _ _ (AO r)]) (by simp[AV.underL,AV.under,AE _ _ (AO q)]);have hget0:=ON hj;have h28:=fun b0 b1 b2 b3 b4 b5 b6 b7 b8 b9 K=>m28 b0 b1 b2 b3 b4 b5 b6 b7 b8 b9 tj K hSq (by omega) jnd;generalize ixT q (addT tj q)=b at *;generalize hTT:addT tj q=TT at *;by_cases hbig:1024<TT.length
             ·have hbig':(1024:Int)<(TT.length:Int):=by omega
              rw[if_pos hbig]at hsd;rw[IL hsd]at hau;simp only at hau;rw[<- hau];simp +contextual -implicitDefEqProofs (disch:=omega) only[Tryz.f9,dd9,go_sem,simprocAttr,evAppend,map_append,mu9,↓AD,↓AC,↓AB,↓AA,hj',hx1,hx2,hclt,jget,e29,hget0,JL,JK,Bool.or_true,Bool.and_self,h28,hbig',auH,AI,AJ,AN];exact⟨rfl,rfl,GU (by omega),_,rfl⟩
             ·have hbig':¬ (1024:Int)<(TT.length:Int):=by omega
              rw[if_neg hbig]at hsd;have hset:=OM hj b;simp +contextual -implicitDefEqProofs (disch:=omega) only[Tryz.f9,dd9,go_sem,simprocAttr,evAppend,map_append,mu9,↓AD,↓AC,↓AB,↓AA,hj',hx1,hx2,hclt,jget,e29,hget0,JL,JK,Bool.or_true,Bool.and_self,h28,hbig',hset,auH,AI,AJ,AN];refine⟨rfl,rfl,GU (by omega),(TT,row++[b]),⟨?_,fun t ht=>?_,by show TT.length<=1024;omega,?_,?_,by simp;omega,?_⟩,by simp;omega,?_⟩
              ·rw[<- hTT];exact Hh jnd
              ·rw[<- hTT]at ht;rcases PP.1 ht with ht|rfl
               ·exact jst t ht
               ·exact hSq
              ·have:=(PQ tj q).1;rw[hTT]at this;show ts.length<=TT.length;omega
              ·rw[<- hTT];exact PR jr
              ·show rowD 1024 r ((headX C).take (row++[b]).length) ts=_;rw[length_append,List.length_singleton];exact hsd
              ·rw[show row.length+1=(row++[b]).length by simp];exact AP (n:=14) rfl rfl (by rfl) (by rfl) (by simp[AV.underL,AV.under,AE _ _ (Ac C)]) (by simp[und_row,JD,AV.underL,AV.under,u0,u2,u3,u4,u5,u6,Bn,AE _ _ (Ac C),AE _ _ (CW rows),AE _ _ (BK accs),AE _ _ (AH TT),AE _ _ (Do (rowL C.length (row++[b])))])
          ·have hj':¬ (row.length:Int)<(C.length:Int):=by omega
           have hjl:row.length=C.length:=by omega
           rw[hjl]at jrow;rw[show (headX C).take C.length=headX C from List.take_of_length_le (by omega)]at jrow;rw[jrow]at hau;simp only at hau;rw[if_neg (by omega)]at hau;have hRl:=GU (m:=C.length) (row:=row) (by omega);have hRe:rowL C.length row=row:=by unfold rowL;rw[hjl,sub_self];simp
           rw[hRe]at hRl |-;have h21:=f105 r (by have:=hSr.wt;omega) 9 1114111 (hSr.nf.whole 9);have a1:=fun(b0 b1 b2 b3 b4 b5 b6 b7 b9 b10 b11 b12 b13:MB) (t:Bool)=>Sh (H:=[b0,b1,b2,b3,b4,b5,b6,b7,.row 1 (rows.map nsAV) 0,b9,b10,b11,b12,b13]) (i:=8) (n:=rows.length) (x:=.ms 13 1 C.length 0 C.length) (t:=t) rfl (Nat.zero_le _) (List.length_map _) (by omega) rfl rfl;have a2:=fun(b0 b1 b2 b3 b4 b5 b6 b7 b8 b10 b11 b12 b13:MB) (t:Bool)=>RL (H:=[b0,b1,b2,b3,b4,b5,b6,b7,b8,.row 1 (accs.map AV.bool) 0,b10,b11,b12,b13]) (i:=9) (n:=rows.length) (x:=nullG r) (t:=t) rfl (Nat.zero_le _) hac (by omega);simp only[List.set_cons_succ,List.set_cons_zero]at a1 a2;have hz:∀ b0 b1 b2 b3 b4 b5 b6 b7 b8 b9 b10 b11 b12:MB,fzs (rows.map nsAV++[.ms 13 1 C.length 0 C.length]) [b0,b1,b2,b3,b4,b5,b6,b7,b8,b9,b10,b11,b12,.row 1 (row.map NV) 0]=some (rows.map nsAV++[nsAV row],[b0,b1,b2,b3,b4,b5,b6,b7,b8,b9,b10,b11,b12,.row 1 (row.map NV) C.length]):=fun b0 b1 b2 b3 b4 b5 b6 b7 b8 b9 b10 b11 b12=>by
            refine Ka ?_ _ (CW rows);have:=RZ (id:=13) (z:=0) (H:=[b0,b1,b2,b3,b4,b5,b6,b7,b8,b9,b10,b11,b12,.row 1 (row.map NV) 0]) rfl hRl;unfold fz at this;rw[this];simp[mark,getRow]
           have hbq:=AV.beqL_refl (rows.map nsAV++[.ms 13 1 C.length 0 C.length]);simp +contextual -implicitDefEqProofs (disch:=omega) only[Tryz.f9,dd9,go_sem,simprocAttr,mu9,↓AD,↓AC,↓AB,↓AA,hj',a1,hz,hbq,jget,JL,JK,Bool.or_true,Bool.and_self,h21,a2,auH,AI,AJ,AN];have e9:rows.map nsAV++[nsAV row]=(rows++[row]).map nsAV:=by rw[map_append];rfl
           have e10:rows.length+1=(rows++[row]).length:=by simp
           refine⟨rfl,rfl,(tj,rows++[row],accs++[nullG r]),⟨jnd,jst,jln,by simp;omega,by simp[hac],?_⟩,by simp;omega,?_⟩
           ·show autoF 1024 1024 (headX C) (2000-(rows++[row]).length) tj (rows++[row]) (accs++[nullG r])=o;rw[show 2000-(rows++[row]).length=fu by simp;omega];exact hau
           ·rw[e9,e10];generalize rows++[row]=rows2;generalize accs++[nullG r]=accs2;exact AP (n:=13) rfl rfl (by rfl) (by rfl) (by simp[AV.underL,AV.under,AE _ _ (Ac C)]) (by simp[und_row,JD,AV.underL,AV.under,u0,u2,u3,u4,u5,u6,Bn,AE _ _ (Ac C),AE _ _ (CW rows2),AE _ _ (BK accs2),AE _ _ (AH tj)])
         ·rw[show List.replicate C.length (I 0)=(rowL C.length []).map NV from by simp[rowL]];exact AP (n:=14) rfl rfl (by rfl) (by rfl) (by simp[AV.underL,AV.under,AE _ _ (Ac C)]) (by simp[und_row,JD,AV.underL,AV.under,u0,u2,u3,u4,u5,u6,Bn,AE _ _ (Ac C),AE _ _ (CW rows),AE _ _ (BK accs),AE _ _ (AH ts),AE _ _ (Do (rowL C.length []))])
      ·exact AP (n:=13) rfl rfl (by rfl) (by rfl) (by simp[AV.underL,AV.under,AE _ _ (Ac C)]) (by simp[und_row,JD,AV.underL,AV.under,u0,u2,u3,u4,u5,u6,Bn,AE _ _ (Ac C),AE _ _ (AO t0)])
 ·rw[if_pos hch];simp +contextual -implicitDefEqProofs (disch:=omega) only[Tryz.f9,dd9,go_sem,simprocAttr,evAppend,map_append,mu9,↓AD,↓AC,↓AB,↓AA,h23,hch,hl8,htk8,htk10,hall,all_append];exact⟨_,rfl⟩
end
end Go.Ev
namespace Go.Ev
abbrev lvA:Re:=setR [(97,97)]
abbrev lvB:Re:=setR [(98,98)]
abbrev lvR:Re:=.mk 2 [] [.mk 4 [] [lvA] 0 (-1) 0 0 false,lvB] 0 0 0 0 false
theorem P8:chkP ⟨lvR,9,true⟩=0:=by decide
theorem P9:chkP ⟨lvR,0,false⟩=0:=by decide
theorem P6:setsR lvR=[[(97,97)],[(98,98)]]:=by simp[setsR,setsL]
theorem P7:endsR [[(97,97)],[(98,98)]] 255=[0,97,98,99]:=by decide
theorem Oq:splitA [[(97,97)],[(98,98)]] [0,97,98,99] 255=some [[(0,96),(99,255)],[(97,97)],[(98,98)]]:=by
 rw[IE]
 ·congr 1
 ·rintro(h|⟨c,hc,h⟩)
  ·revert h;decide
  ·revert h;revert c;decide
theorem RV:badR lvR=false:=by decide
theorem SI:nf lvR=lvR:=by simp[nf,nfL,formN,catR,flatR,joinR,repR,Re.op,Re.sub,isNoth,Re.set]
theorem st_a:stepR 97 lvR=some lvR:=by
 simp[stepR,drv,drvL,catD,joinR,nullG,nullAll,nullAny,nullHd,hasSpan,badR,badRL,altBad,flatR,nf,nfL,formN,catR,altR,altL,othersOf,spansOf,putAll,putR,repR,Re.op,Re.sub,isNoth,Re.set,Re.size,Re.sizeL,Re.depth,Re.depthL,CA,show max (-1:Int) 0=0 from rfl]
theorem st_b:stepR 98 lvR=some emptyR:=by
 simp[stepR,drv,drvL,catD,joinR,nullG,nullAll,nullAny,nullHd,hasSpan,badR,badRL,altBad,flatR,nf,nfL,formN,catR,altR,altL,othersOf,spansOf,putAll,putR,repR,Re.op,Re.sub,isNoth,Re.set,Re.size,Re.sizeL,Re.depth,Re.depthL,CA,show max (-1:Int) 0=0 from rfl]
theorem st_c:stepR 99 lvR=some nothR:=by
 simp[stepR,drv,drvL,catD,joinR,nullG,nullAll,nullAny,nullHd,hasSpan,badR,badRL,altBad,flatR,nf,nfL,formN,catR,altR,altL,othersOf,spansOf,putAll,putR,repR,Re.op,Re.sub,isNoth,Re.set,Re.size,Re.sizeL,Re.depth,Re.depthL,CA,show max (-1:Int) 0=0 from rfl]
theorem st_0:stepR 0 lvR=some nothR:=by
 simp[stepR,drv,drvL,catD,joinR,nullG,nullAll,nullAny,nullHd,hasSpan,badR,badRL,altBad,flatR,nf,nfL,formN,catR,altR,altL,othersOf,spansOf,putAll,putR,repR,Re.op,Re.sub,isNoth,Re.set,Re.size,Re.sizeL,Re.depth,Re.depthL,CA,show max (-1:Int) 0=0 from rfl]
theorem st_n (x:Int):stepR x nothR=some nothR:=by
 simp[stepR,drv,drvL,catD,joinR,nullG,nullAll,nullAny,nullHd,hasSpan,badR,badRL,altBad,flatR,nf,nfL,formN,catR,altR,altL,othersOf,spansOf,putAll,putR,repR,Re.op,Re.sub,isNoth,Re.set,Re.size,Re.sizeL,Re.depth,Re.depthL,CA,show max (-1:Int) 0=0 from rfl]
theorem st_e (x:Int):stepR x emptyR=some nothR:=by
 simp[stepR,drv,drvL,catD,joinR,nullG,nullAll,nullAny,nullHd,hasSpan,badR,badRL,altBad,flatR,nf,nfL,formN,catR,altR,altL,othersOf,spansOf,putAll,putR,repR,Re.op,Re.sub,isNoth,Re.set,Re.size,Re.sizeL,Re.depth,Re.depthL,CA,show max (-1:Int) 0=0 from rfl]
theorem EM {lim most f:Nat}{xs:List Int}{ts ts':List Re}{rows:List (List Nat)}{row:List Nat}{accs:List Bool}{r:Re} (h1:ts[rows.length]?=some r) (h2:rowD lim r xs ts=some (ts',row)) (h3:¬ most<ts'.length) :
  autoF lim most xs (f+1) ts rows accs=autoF lim most xs f ts' (rows++[row]) (accs++[nullG r]):=by
 simp only[autoF,h1,h2,if_neg h3]
theorem N0 {lim most f:Nat}{xs:List Int}{ts:List Re}{rows:List (List Nat)}{accs:List Bool} (h1:ts[rows.length]?=none):autoF lim most xs (f+1) ts rows accs=.ok rows accs:=by
 simp only[autoF,h1]
theorem QA:autoF 1024 1024 [0,97,98] 2000 [lvR] [] []=.ok [[1,0,2],[1,1,1],[1,1,1]] [false,false,true]:=by
 have hne1:lvR≠nothR:=by simp
 have hne2:lvR≠emptyR:=by simp
 have hne3:nothR≠emptyR:=by simp
 have a1:addT [lvR] nothR=[lvR,nothR]:=C9 (by simp);have a2:addT [lvR,nothR] lvR=[lvR,nothR]:=Dk (by simp);have a3:addT [lvR,nothR] emptyR=[lvR,nothR,emptyR]:=C9 (by simp);have a4:addT [lvR,nothR,emptyR] nothR=[lvR,nothR,emptyR]:=Dk (by simp);have i1:ixT nothR [lvR,nothR]=1:=by simp[ixT]
 have i2:ixT lvR [lvR,nothR]=0:=by simp[ixT]
 have i3:ixT emptyR [lvR,nothR,emptyR]=2:=by simp[ixT]
 have i4:ixT nothR [lvR,nothR,emptyR]=1:=by simp[ixT]
 have r1:rowD 1024 lvR [0,97,98] [lvR]=some ([lvR,nothR,emptyR],[1,0,2]):=by
  simp[rowD,stepD,st_0,st_a,st_b,a1,a2,a3,i1,i2,i3]
 have r2:rowD 1024 nothR [0,97,98] [lvR,nothR,emptyR]=some ([lvR,nothR,emptyR],[1,1,1]):=by
  simp[rowD,stepD,st_n,a4,i4]
 have r3:rowD 1024 emptyR [0,97,98] [lvR,nothR,emptyR]=some ([lvR,nothR,emptyR],[1,1,1]):=by
  simp[rowD,stepD,st_e,a4,i4]
 rw[show (2000:Nat)=1999+1 from rfl,EM rfl r1 (by simp),show (1999:Nat)=1998+1 from rfl,EM rfl r2 (by simp),show (1998:Nat)=1997+1 from rfl,EM rfl r3 (by simp),show (1997:Nat)=1996+1 from rfl,N0 rfl];simp[nullG,nullAll,nullAny,nullHd]
end Go.Ev
namespace Go.Ev
attribute [local go_sem] evBin AV.cells Ax BB bndO bnd evEq eqCells not_false_eq_true not_true_eq_false toList_some Array.size_empty length_append tySzE List.head?_drop Nat.mul_one Ak At Ag Al Am Ad
section
attribute [local go_sem] evAppend map_append
theorem Ot:autoA ⟨lvR,0,false⟩=.tup [autD [[(0,96),(99,255)],[(97,97)],[(98,98)]] [[1,0,2],[1,1,1],[1,1,1]] [false,false,true],I 0]:=by
 unfold autoA;rw[if_neg (by rw[P9];simp)];simp only[P6,show topI false=255 from rfl,P7,Oq];rw[if_neg (by rw[RV];simp),SI];show outD _ (autoF 1024 1024 [0,97,98] 2000 [lvR] [] [])=_;rw[QA];rfl
abbrev z14:List AV:=[I 2,.sl true [],.sl true [.agg [I 4,.sl true [],.sl true [reAV (setR [(97,97)])],I 0,I (-1),I 0,I 0,.bool false],reAV (setR [(98,98)])],I 0,I 0,I 0,I 0,.bool false]
theorem fz14 (H:List MB):fz (.agg z14) H=some (reAV lvR,H):=rfl
theorem SM (H:List MB):fz (.agg (z14++[I 0,.bool false])) H=some (patAV ⟨lvR,0,false⟩,H):=rfl
theorem c14a {f:Nat}{x v:AV} (hp:pol1.pure f=true) (hx:AV.plain x=true) (hb:pol1.byref f 0=false) (hb1:pol1.byref f 1=false) (h:∀ H,call Pg pol1 f [reAV lvR,x] H=some (v,H)) (H:List MB):call Pg pol1 f [.agg z14,x] H=some (v,H):=by
 rw[CZ (l:=[reAV lvR,x]) (H1:=H) hp ?_ (by simp[AV.plainL,AV.plain,AO,hx])]
 ·exact h H
 ·have h2:pol1.byref f (0+1)=false:=hb1;simp only[frzArgs,hb,h2,Bool.false_eq_true,if_false,fz14,Ab _ hx]
theorem c14b {f:Nat}{x v:AV} (hp:pol1.pure f=true) (hx:AV.plain x=true) (hb:pol1.byref f 0=false) (hb1:pol1.byref f 1=false) (h:∀ H,call Pg pol1 f [x,reAV lvR] H=some (v,H)) (H:List MB):call Pg pol1 f [x,.agg z14] H=some (v,H):=by
 rw[CZ (l:=[x,reAV lvR]) (H1:=H) hp ?_ (by simp[AV.plainL,AV.plain,AO,hx])]
 ·exact h H
 ·have h2:pol1.byref f (0+1)=false:=hb1;simp only[frzArgs,hb,h2,Bool.false_eq_true,if_false,fz14,Ab _ hx]
theorem c14p {v:AV} (h:∀ H,call Pg pol1 9 [patAV ⟨lvR,0,false⟩] H=some (v,H)) (H:List MB):call Pg pol1 9 [.agg (z14++[I 0,.bool false])] H=some (v,H):=by
 rw[CZ (l:=[patAV ⟨lvR,0,false⟩]) (H1:=H) rfl ?_ (by simp only[AV.plainL,Bool.and_true];exact Ai _)]
 ·exact h H
 ·have hb:pol1.byref 9 0=false:=rfl;simp only[frzArgs,hb,Bool.false_eq_true,if_false,SM]
theorem d14 (H:List MB):call Pg pol1 14 [] H=some (.bool true,H):=by
 have h38a:=d38 97;have h38b:=d38 98;have h20a:=d20 lvR 97 (by decide);have h20b:=d20 lvR 98 (by decide);have h20c:=d20 lvR 99 (by decide);simp only[P8,ne_eq,not_true_eq_false,if_false,st_a,st_b,st_c,resA]at h20a h20b h20c;rw[if_neg (by decide)]at h20a h20b h20c;have h9:=d9 ⟨lvR,0,false⟩ (by decide);rw[Ot]at h9;have h36:=d36 _ lvR lvR (le_refl _) (by decide) (by decide);have h13:=d13 [1,0,2] [1,0,2] (by decide) (by decide);have k1:=c14a rfl rfl rfl rfl h20a;have k2:=c14a rfl rfl rfl rfl h20b;have k3:=c14a rfl rfl rfl rfl h20c;have k4:=c14p h9;have k5:=c14b rfl (AT lvR) rfl rfl h36;simp only[z14,List.cons_append,nil_append]at k1 k2 k3 k4 k5;simp only[autD,List.map_cons,List.map_nil]at k4;rw[C8]at k5;have e0:(reC emptyR).head?=some (I 0):=rfl;have n0:(reC nothR).head?=some (I 1):=rfl;have n1:(reC nothR)[1]?=some (.sl false []):=rfl;have k6:∀ H,call Pg pol1 13 [nsAV [1,0,2],.sl true [I 1,I 0,I 2]] H=some (.bool true,H):=fun H=>by
  rw[CZ (l:=[.sl false [I 1,I 0,I 2],.sl false [I 1,I 0,I 2]]) (H1:=H) rfl ?_ rfl]
  ·exact(h13 H).trans (by simp)
  ·rfl
 refine AR Tryz.func14 rfl rfl rfl rfl rfl rfl (fun _=>rfl) rfl rfl ?_ H;simp +contextual -implicitDefEqProofs (disch:=omega) only[Tryz.f14,dd14,go_sem,simprocAttr,mu14,↓AD,↓AC,↓AB,↓AA,h38a,h38b,k1,k2,k3,k4,k5,k6,e0,n0,n1,AI,AJ,AN,t8R,d9R,t9R,d10R,length_append,List.append_assoc,List.cons_append,nil_append];exact⟨_,rfl⟩
end
end Go.Ev
namespace Go.Ev
theorem Ow (l:List Int) (hl:∀ x∈l,In64 x) (m:List Int) (hm:∀ x∈m,In64 x) (uses:Int) (hu:In64 uses) (raw:List Int) (hr:∀ x∈raw,In64 x) (H:List MB) :
 call Pg pol1 4 [.sl false (l.map I),.sl false (m.map I),I uses,.sl false (raw.map I)] H=some (.bool true,H):=law4 d14 l m raw uses hl hm hu hr H
end Go.Ev
