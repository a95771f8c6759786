/- What functions of the program compute; no further conditions. -/
import Derived.Test.YtkolcijbdendhaaGreatF25
set_option linter.unusedVariables false
set_option linter.unusedSimpArgs false
open List (all_append append_nil length_map length_nil map_append mem_of_getElem?)
open Nat (le_refl le_trans sub_self zero_le)
open Go.Proofs Go.RowKit Go.IntWalk
set_option maxHeartbeats 8000000
set_option maxRecDepth 100000
namespace Go.Ev
attribute [local go_sem] evBin AV.cells Ax A8 bndO bnd evEq eqCells not_false_eq_true not_true_eq_false toList_some Array.size_empty List.length_append tySzE List.head?_drop Nat.mul_one Aj Aq Ag Ak Al Ae
section
abbrev auH (b0 b1 b2 b3 b4 b5 b6 b7 b8 b9:MB) (ts:List Re) (K:List MB):List MB:=b0::b1::b2::b3::b4::b5::b6::b7::b8::b9::.mp .str (entN ts 0)::.row 2 [.agg [.ms 12 8 ts.length 0 ts.length,.mpr 10]] 0::.row 8 (ts.map reAV) 0::K
theorem LW (b0 b1 b2 b3 b4 b5 b6 b7 b8 b9:MB) (ts:List Re) (K:List MB):StH 11 12 10 ts (auH b0 b1 b2 b3 b4 b5 b6 b7 b8 b9 ts K):=⟨rfl,rfl,rfl,by decide,by decide,by decide⟩
theorem m28 (b0 b1 b2 b3 b4 b5 b6 b7 b8 b9:MB) (ts:List Re) (K:List MB) {q:Re} (hq:StT q) (hl:ts.length<=100000) (hn:ts.Nodup) :
  call Pg pol1 28 [.rf 11 1 0 0,reAV q] (auH b0 b1 b2 b3 b4 b5 b6 b7 b8 b9 ts K)=some (NV (ixT q (addT ts q)),auH b0 b1 b2 b3 b4 b5 b6 b7 b8 b9 (addT ts q) K):=by
 have hw:q.wt<=100000:=by have:=hq.wt;omega
 rcases RU q ts 0 with ⟨k,h1,h2⟩|⟨h1,h2⟩
 ·rw[Nat.zero_add]at h2;rw[DI (mem_of_getElem? h1),G5 hn h1];exact Q1 (LW b0 b1 b2 b3 b4 b5 b6 b7 b8 b9 ts K) hw hq.nf h2
 ·rw[Cp h1,G5 (b:=ts.length) (Cp h1 ▸ Ea hn) (by simp)];exact Mo (LW b0 b1 b2 b3 b4 b5 b6 b7 b8 b9 ts K) hw hq.nf hl h1 h2
def rowL (m:Nat) (row:List Nat):List Nat:=row++List.replicate (m-row.length) 0
theorem OZ {m:Nat}{row:List Nat} (h:row.length<m):(rowL m row)[row.length]?=some 0:=by
 unfold rowL;rw[List.getElem?_append_right (le_refl _),sub_self,show m-row.length=(m-row.length-1)+1 by omega,List.replicate_succ];rfl
theorem IS {C:List Spans}{j:Nat}{c:Spans} (h:C[j]?=some c) (h0:0<c.length):∃ x y:Int,(C.map setAV)[j]?=some (setAV c)/\(c.map spanAV)[0]?=some (.agg [I x,I y])/\(headX C)[j]?=some x:=by
 cases c with
 | nil=>cases h0
 | cons p l=>exact⟨p.1,p.2,by simp[h],rfl,by simp[headX,h]⟩
theorem Ga {m:Nat}{row:List Nat} (h:row.length<=m):(rowL m row).length=m:=by simp[rowL];omega
theorem OY {m:Nat}{row:List Nat} (h:row.length<m) (b:Nat):((rowL m row).map NV).set row.length (NV b)=(rowL m (row++[b])).map NV:=by
 unfold rowL;rw[<- List.map_set,List.set_append_right _ _ (le_refl _),sub_self,show m-row.length=(m-(row++[b]).length)+1 by simp;omega,List.replicate_succ,List.set_cons_zero,List.append_assoc];rfl
theorem JY (x0 x1 x2 x3 x4 x5 x6 x7 x8 x9 x10 y0 y1 y2 y3 y4 y5 y6 y7 y8 y9 y10 b:MB) (K K':List MB):sameAt 11 (x0::x1::x2::x3::x4::x5::x6::x7::x8::x9::x10::b::K) (y0::y1::y2::y3::y4::y5::y6::y7::y8::y9::y10::b::K')=true:=MB.beq_refl b
theorem JX (x0 x1 x2 x3 x4 x5 x6 x7 x8 x9 x10 x11 y0 y1 y2 y3 y4 y5 y6 y7 y8 y9 y10 y11 b:MB) (K K':List MB):sameAt 12 (x0::x1::x2::x3::x4::x5::x6::x7::x8::x9::x10::x11::b::K) (y0::y1::y2::y3::y4::y5::y6::y7::y8::y9::y10::y11::b::K')=true:=MB.beq_refl b
theorem und_row {n k z:Nat}{e:List AV}:MB.under n (.row k e z)=AV.underL n e:=rfl
theorem Ci {n:Nat}{q:KK}{es:List (AV×AV)}:MB.under n (.mp q es)=MB.underE n es:=rfl
theorem d9 (p:Pat) (hw:p.re.wt<=1000000) (H:List MB):call Pg pol1 9 [patAV p] H=some (autoA p,H):=by
 have h23:=d23 p hw;have h26:=d26 p;have hck:=J3 (p:=p);have hpl:=KV p
 have hA:autoA p=if chkP p≠0 then .tup [noD,I (chkP p)] else
  match splitA (setsR p.re) (endsR (setsR p.re) (topI p.runes)) (topI p.runes) with
  | none=>.tup [noD,I 4]
  | some C=>if badR p.re=true then .tup [noD,I 4] else outD C (autoF 1024 1024 (headX C) 2000 [nf p.re] [] []):=rfl
 obtain⟨c,hc⟩:∃ c:Code×Code,c=rfOf Pg 9:=⟨_,rfl⟩;have hy9:=fun {mx:Nat} (h:mx<=3000000000)=>y9 p h hc;refine AR Tryz.func9 rfl rfl rfl rfl rfl rfl (fun _=>rfl) (by simp[AV.plainL,AV.plain];exact Av _) hpl ?_ H;rw[hA];clear hA hpl;obtain⟨re,caps,runes⟩:=p;have hl8:=AK re;have htk8:∀ l,List.take 8 (reC re++l)=reC re:=fun l=>by
  rw[List.take_append_of_le_length (by omega)];exact List.take_of_length_le (by omega)
 have htk10:List.take 10 (reC re++[I caps,.bool runes])=reC re++[I caps,.bool runes]:=List.take_of_length_le (by simp[hl8]);have hall:=AP re;have hpc:=Av ⟨re,caps,runes⟩;simp only at hck hw h26 hpc;have h24:=d24 re;by_cases hch:chkP ⟨re,caps,runes⟩=0
 ·rw[if_neg (by simpa using hch)];obtain⟨hok,hsz,hwh⟩:=hck hch;rw[hch]at h23;have h65:=hok.wt65;have h27:=d27 re (by omega) hok;have hSl:=EL re;have hSN:=KN hok;simp +contextual -implicitDefEqProofs (disch:=omega) only[Tryz.f9,dd9,go_sem,simprocAttr,evAppend,map_append,mu9,↓AE,↓AC,↓AB,↓AA,h23,h24,hl8,htk8,htk10,hall,all_append,AK,AJ,AP];have key:=d48 _ (by omega) re (le_refl _) hok (hy9 (mx:=(setsR re).length) (by omega)) (ib:=4) (fun a=>rfl) [] (by simp);rw[List.nil_append]at key;refine JL (c:=c) (mk:=some [5]) (hc.trans (by kernel_rfl)) rfl rfl rfl (by decide) key (HU rfl) ?_;have hv:∀ s∈setsR re,SetV s:=fun s hs=>⟨(hSN s hs).sep,fun p hp=>(hSN s hs).good p hp⟩;have h25:=sf34 (setsR re) (topI runes) (by unfold topI;split<;>decide) (Eg _) hv (fun s hs=>Fo (hSN s hs).sep (hSN s hs).good (hSN s hs).len) (by omega) (fun s hs=>(hSN s hs).len);rw[if_neg (by omega)]at h25
  have h25':∀ b0 b1 b2 b4 b5:MB,call Pg pol1 25 [.ms 3 1 (setsR re).length 0 (setsR re).length,I (topI runes)] [b0,b1,b2,.row 1 ((setsR re).map setAV) 0,b4,b5] =
    some (splitR (splitA (setsR re) (endsR (setsR re) (topI runes)) (topI runes)),[b0,b1,b2,.row 1 ((setsR re).map setAV) (setsR re).length,b4,b5]):=fun b0 b1 b2 b4 b5=>by
   have hfz:fz (.ms 3 1 (setsR re).length 0 (setsR re).length) [b0,b1,b2,.row 1 ((setsR re).map setAV) 0,b4,b5]=some (.sl false ((setsR re).map setAV),[b0,b1,b2,.row 1 ((setsR re).map setAV) (setsR re).length,b4,b5]):=by
    rw[Az (k:=1) (z:=0) (els:=(setsR re).map setAV) rfl (length_map _) (AS _)];simp[mark,getRow]
   rw[CM (l:=[.sl false ((setsR re).map setAV),I (topI runes)]) (H1:=[b0,b1,b2,.row 1 ((setsR re).map setAV) (setsR re).length,b4,b5]) rfl ?_ (by simp[AV.plainL,AV.plain,AS])]
   ·exact h25 _
   ·have h1:pol1.byref 25 0=false:=rfl;have h2:pol1.byref 25 (0+1)=false:=rfl;simp only[frzArgs,h1,h2,Bool.false_eq_true,if_false,hfz,Ac _ (show AV.plain (I (topI runes))=true from rfl)]
  have hpos:=fun cls=>EJ (L:=setsR re) (E:=endsR (setsR re) (topI runes)) (top:=topI runes) (cls:=cls);generalize splitA (setsR re) (endsR (setsR re) (topI runes)) (topI runes)=sp at *;clear key hy9 h25;generalize setsR re=S at *;cases sp with
  | none=>
    unfold splitR at h25';simp only;cases hbd:badR re with
    | true=>
      rw[hbd,if_pos rfl]at h27;simp +contextual -implicitDefEqProofs (disch:=omega) only[Tryz.f9,dd9,go_sem,simprocAttr,evAppend,map_append,mu9,↓AE,↓AC,↓AB,↓AA,h26,h25',h27,hl8,htk8,htk10,hall,all_append,AK,AJ,AP];exact⟨rfl,rfl,_,rfl⟩
    | false=>
      rw[hbd,if_neg (by simp)]at h27;simp +contextual -implicitDefEqProofs (disch:=omega) only[Tryz.f9,dd9,go_sem,simprocAttr,evAppend,map_append,mu9,↓AE,↓AC,↓AB,↓AA,h26,h25',h27,hl8,htk8,htk10,hall,all_append,AK,AJ,AP];exact⟨rfl,rfl,_,rfl⟩
  | some C=>
    unfold splitR at h25';simp only;cases hbd:badR re with
    | true=>
      rw[hbd,if_pos rfl]at h27;rw[if_pos rfl];simp +contextual -implicitDefEqProofs (disch:=omega) only[Tryz.f9,dd9,go_sem,simprocAttr,evAppend,map_append,mu9,↓AE,↓AC,↓AB,↓AA,h26,h25',h27,hl8,htk8,htk10,hall,all_append,AK,AJ,AP];exact⟨rfl,rfl,_,rfl⟩
    | false=>
      rw[hbd,if_neg (by simp)]at h27;rw[if_neg (by simp)];have hS0:=JM hok hsz hbd;generalize nf re=t0 at *;obtain⟨hC1,hC2⟩:=hpos C rfl;have n0:∀ b0 b1 b2 b3 b4 b5 b6 b7 b8 b9:MB,call Pg pol1 28 [.rf 11 1 0 0,reAV t0] [b0,b1,b2,b3,b4,b5,b6,b7,b8,b9,.mp .str [],.row 2 [.agg [.ms 12 8 0 0 0,.mpr 10]] 0,.row 8 [] 0]=some (I 0,auH b0 b1 b2 b3 b4 b5 b6 b7 b8 b9 [t0] []):=fun b0 b1 b2 b3 b4 b5 b6 b7 b8 b9=>
       Mo (LW b0 b1 b2 b3 b4 b5 b6 b7 b8 b9 [] []) (by have:=hS0.wt;omega) hS0.nf (by simp) (by simp) rfl
      simp +contextual -implicitDefEqProofs (disch:=omega) only[Tryz.f9,dd9,go_sem,simprocAttr,evAppend,map_append,mu9,↓AE,↓AC,↓AB,↓AA,h26,h25',h27,n0,hl8,htk8,htk10,hall,all_append,AK,AJ,AP];refine⟨rfl,rfl,?_⟩;obtain⟨b0,hb0⟩:∃ b,b=MB.row 10 [.agg (reC re++[I caps,.bool runes])] 0:=⟨_,rfl⟩;have u0:∀ n,6<n->MB.under n b0=true:=fun n hn=>by rw[hb0];simp[MB.under,AV.underL,AV.under,AD _ _ hpc]
      rw[<- hb0];obtain⟨b2,hb2⟩:∃ b,b=MB.row 1 [.ms 3 1 S.length 0 S.length] 0:=⟨_,rfl⟩;have u2:∀ n,6<n->MB.under n b2=true:=fun n hn=>by rw[hb2];simp[MB.under,AV.underL,AV.under];omega
      rw[<- hb2];obtain⟨b3,hb3⟩:∃ b,b=MB.row 1 (S.map setAV) S.length:=⟨_,rfl⟩;have u3:∀ n,6<n->MB.under n b3=true:=fun n hn=>by rw[hb3];simp[MB.under,AD _ _ (AS S)]
      rw[<- hb3];obtain⟨b4,hb4⟩:∃ b,b=MB.row 8 [reAV re] 0:=⟨_,rfl⟩;have u4:∀ n,6<n->MB.under n b4=true:=fun n hn=>by rw[hb4];simp[MB.under,AV.underL,AV.under,AD _ _ (AO re)]
      rw[<- hb4];obtain⟨b5,hb5⟩:∃ b,b=MB.lp .over 9 132 [] [28] c:=⟨_,rfl⟩;have u5:∀ n,6<n->MB.under n b5=true:=fun n hn=>by rw[hb5];rfl
      rw[<- hb5];obtain⟨b6,hb6⟩:∃ b,b=MB.row 8 [.agg (reC t0)] 0:=⟨_,rfl⟩;have u6:∀ n,6<n->MB.under n b6=true:=fun n hn=>by rw[hb6];simp[MB.under,AV.underL,AV.under,AD _ _ (AO t0)]
      rw[<- hb6];generalize hgo:autoF 1024 1024 (headX C) 2000 [t0] [] []=o
      refine CZ (σ:=List Re×List (List Nat)×List Bool) (M:=(mskOf (pol1.mask 9) (pol1.gc 9) (pol1.acts 9) 0 16)) (by rfl) (fun s=>(⟨132,[(13,I s.2.1.length),(12,.rf 11 1 0 0),(11,.rf 7 1 0 0),(7,.sl false (C.map setAV)),(2,.rf 1 1 0 0)],
        auH b0 (.row 3 [.agg [.sl true [],.sl true [],.sl true []]] 0) b2 b3 b4 b5 b6 (.row 3 [.agg [.sl false (C.map setAV),.ms 8 1 s.2.1.length 0 s.2.1.length,.ms 9 1 s.2.1.length 0 s.2.1.length]] 0) (.row 1 (s.2.1.map nsAV) 0) (.row 1 (s.2.2.map AV.bool) 0) s.1 []⟩:St))
       (fun s=>s.1.Nodup/\(∀ t∈s.1,StT t)/\s.1.length<=1024/\s.2.1.length<=s.1.length/\s.2.2.length=s.2.1.length/\autoF 1024 1024 (headX C) (2000-s.2.1.length) s.1 s.2.1 s.2.2=o) (fun s=>2000-s.2.1.length) ([t0],[],[]) ?_ ⟨by simp,by simpa using hS0,by simp,by simp,rfl,hgo⟩ _ ?_
      ·rintro⟨ts,rows,accs⟩ ⟨hnd,hst,hln,hle,hac,hau⟩;simp only at hnd hst hln hle hac hau;have hCX:(headX C).length=C.length:=by simp[headX]
       obtain⟨fu,hfu⟩:∃ k,2000-rows.length=k+1:=⟨1999-rows.length,by omega⟩;rw[hfu]at hau;unfold autoF at hau;cases hr:ts[rows.length]? with
       | none=>
         have hl:¬ (rows.length:Int)<(ts.length:Int):=by
          have:=List.getElem?_eq_none_iff.1 hr;omega
         rw[hr]at hau;simp only at hau;rw[<- hau];simp +contextual -implicitDefEqProofs (disch:=omega) only[Tryz.f9,dd9,go_sem,simprocAttr,evAppend,map_append,mu9,↓AE,↓AC,↓AB,↓AA,hl,auH];exact⟨_,Qe (Mh (Ac _ (by simp[AV.plain,AS])) (Az (z:=0) rfl (by simp) (Au _)) (Az (z:=0) rfl (by simp[hac]) (Ad _))) (Ac _ rfl)⟩
       | some r=>
         have hl:(rows.length:Int)<(ts.length:Int):=by
          have:=(List.getElem?_eq_some_iff.1 hr).1;omega
         rw[hr]at hau;simp only at hau;simp +contextual -implicitDefEqProofs (disch:=omega) only[Tryz.f9,dd9,go_sem,simprocAttr,evAppend,map_append,mu9,↓AE,↓AC,↓AB,↓AA,hl,auH]
         refine CZ (σ:=List Re×List Nat) (M:=(mskOf (pol1.mask 9) (pol1.gc 9) (pol1.acts 9) 0 20)) (by rfl) (fun s=>(⟨132,[(75,I s.2.length),(74,I C.length),(73,.sl false (C.map setAV)),(14,.ms 13 1 C.length 0 C.length),(13,I rows.length),(12,.rf 11 1 0 0),(11,.rf 7 1 0 0),(7,.sl false (C.map setAV)),(2,.rf 1 1 0 0)],
           auH b0 (.row 3 [.agg [.sl true [],.sl true [],.sl true []]] 0) b2 b3 b4 b5 b6 (.row 3 [.agg [.sl false (C.map setAV),.ms 8 1 rows.length 0 rows.length,.ms 9 1 rows.length 0 rows.length]] 0) (.row 1 (rows.map nsAV) 0) (.row 1 (accs.map AV.bool) 0) s.1 [.row 1 ((rowL C.length s.2).map NV) 0]⟩:St))
          (fun s=>s.1.Nodup/\(∀ t∈s.1,StT t)/\s.1.length<=1024/\ts.length<=s.1.length/\s.1[rows.length]?=some r/\s.2.length<=C.length/\rowD 1024 r ((headX C).take s.2.length) ts=some s) (fun s=>C.length-s.2.length) (ts,[]) ?_ ⟨hnd,hst,hln,le_refl _,hr,by simp,rfl⟩ _ ?_
         ·rintro⟨tj,row⟩ ⟨jnd,jst,jln,jle,jr,jrl,jrow⟩;simp only at jnd jst jln jle jr jrl jrow;have jget:(tj.map reAV)[rows.length]?=some (reAV r):=by simp[jr]
          have hSr:StT r:=jst r (mem_of_getElem? jr);by_cases hj:row.length<C.length
          ·have hj':(row.length:Int)<(C.length:Int):=by omega
           obtain⟨cl,hcl⟩:∃ c,C[row.length]?=some c:=⟨_,List.getElem?_eq_getElem hj⟩;obtain⟨x,y,hx1,hx2,hx3⟩:=IS hcl (hC2 cl (mem_of_getElem? hcl));have h29:=d29 hSr.size hSr.nf.ok 9 1114111 (hSr.nf.whole 9) x;have hsd:=IW (lim:=1024) (r:=r) (ts:=ts) hx3;rw[jrow]at hsd;have hclt:(0:Int)<(cl.length:Int):=by
            have:=hC2 cl (mem_of_getElem? hcl);omega
           cases hs:stepR x r with
           | none=>
             rw[hs]at h29;simp only[stepD,hs]at hsd;rw[FE hsd]at hau;simp only at hau;rw[<- hau];unfold resA at h29;have e29:=DS h29 (by simp[AV.underL,AV.under,AD _ _ (AO r)]) (by simp[AV.underL,AV.under,AD _ _ (AO emptyR)]);simp +contextual -implicitDefEqProofs (disch:=omega) only[Tryz.f9,dd9,go_sem,simprocAttr,evAppend,map_append,mu9,↓AE,↓AC,↓AB,↓AA,hj',hx1,hx2,hclt,jget,e29,JY,JX,Bool.or_true,Bool.and_self,auH,AK,AJ,AP];exact⟨rfl,rfl,_,rfl⟩
           | some q=>
             rw[hs]at h29;have hSq:=KI hSr hs;simp only[stepD,hs]at hsd;unfold resA at h29;have e29:=DS h29 (by simp[AV.underL,AV.under,AD _ _ (AO r)]) (by simp[AV.underL,AV.under,AD _ _ (AO q)]);have hget0:=OZ hj;have h28:=fun b0 b1 b2 b3 b4 b5 b6 b7 b8 b9 K=>m28 b0 b1 b2 b3 b4 b5 b6 b7 b8 b9 tj K hSq (by omega) jnd;generalize ixT q (addT tj q)=b at *;generalize hTT:addT tj q=TT at *;by_cases hbig:1024<TT.length
             ·have hbig':(1024:Int)<(TT.length:Int):=by omega
              rw[if_pos hbig]at hsd;rw[FE hsd]at hau;simp only at hau;rw[<- hau];simp +contextual -implicitDefEqProofs (disch:=omega) only[Tryz.f9,dd9,go_sem,simprocAttr,evAppend,map_append,mu9,↓AE,↓AC,↓AB,↓AA,hj',hx1,hx2,hclt,jget,e29,hget0,JY,JX,Bool.or_true,Bool.and_self,h28,hbig',auH,AK,AJ,AP];exact⟨rfl,rfl,Ga (by omega),_,rfl⟩
             ·have hbig':¬ (1024:Int)<(TT.length:Int):=by omega
              rw[if_neg hbig]at hsd;have hset:=OY hj b;simp +contextual -implicitDefEqProofs (disch:=omega) only[Tryz.f9,dd9,go_sem,simprocAttr,evAppend,map_append,mu9,↓AE,↓AC,↓AB,↓AA,hj',hx1,hx2,hclt,jget,e29,hget0,JY,JX,Bool.or_true,Bool.and_self,h28,hbig',hset,auH,AK,AJ,AP];refine⟨rfl,rfl,Ga (by omega),(TT,row++[b]),⟨?_,fun t ht=>?_,by show TT.length<=1024;omega,?_,?_,by simp;omega,?_⟩,by simp;omega,?_⟩
              ·rw[<- hTT];exact Ea jnd
              ·rw[<- hTT]at ht;rcases Ph.1 ht with ht|rfl
               ·exact jst t ht
               ·exact hSq
              ·have:=(LI tj q).1;rw[hTT]at this;show ts.length<=TT.length;omega
              ·rw[<- hTT];exact Pi jr
              ·show rowD 1024 r ((headX C).take (row++[b]).length) ts=_;rw[List.length_append,List.length_singleton];exact hsd
              ·rw[show row.length+1=(row++[b]).length by simp];exact AN (n:=14) rfl rfl (by rfl) (by rfl) (by simp[AV.underL,AV.under,AD _ _ (AS C)]) (by simp[und_row,Ci,AV.underL,AV.under,u0,u2,u3,u4,u5,u6,Ce,AD _ _ (AS C),AD _ _ (Au rows),AD _ _ (Ad accs),AD _ _ (AH TT),AD _ _ (B5 (rowL C.length (row++[b])))])
          ·have hj':¬ (row.length:Int)<(C.length:Int):=by omega
           have hjl:row.length=C.length:=by omega
           rw[hjl]at jrow;rw[show (headX C).take C.length=headX C from List.take_of_length_le (by omega)]at jrow;rw[jrow]at hau;simp only at hau;rw[if_neg (by omega)]at hau;have hRl:=Ga (m:=C.length) (row:=row) (by omega);have hRe:rowL C.length row=row:=by unfold rowL;rw[hjl,sub_self];simp
           rw[hRe]at hRl |-;have h21:=f105 r (by have:=hSr.wt;omega) 9 1114111 (hSr.nf.whole 9);have a1:=fun(b0 b1 b2 b3 b4 b5 b6 b7 b9 b10 b11 b12 b13:MB) (t:Bool)=>Ra (H:=[b0,b1,b2,b3,b4,b5,b6,b7,.row 1 (rows.map nsAV) 0,b9,b10,b11,b12,b13]) (i:=8) (n:=rows.length) (x:=.ms 13 1 C.length 0 C.length) (t:=t) rfl (zero_le _) (length_map _) (by omega) rfl rfl;have a2:=fun(b0 b1 b2 b3 b4 b5 b6 b7 b8 b10 b11 b12 b13:MB) (t:Bool)=>Pf (H:=[b0,b1,b2,b3,b4,b5,b6,b7,b8,.row 1 (accs.map AV.bool) 0,b10,b11,b12,b13]) (i:=9) (n:=rows.length) (x:=nullG r) (t:=t) rfl (zero_le _) hac (by omega);simp only[List.set_cons_succ,List.set_cons_zero]at a1 a2;have hz:∀ b0 b1 b2 b3 b4 b5 b6 b7 b8 b9 b10 b11 b12:MB,fzs (rows.map nsAV++[.ms 13 1 C.length 0 C.length]) [b0,b1,b2,b3,b4,b5,b6,b7,b8,b9,b10,b11,b12,.row 1 (row.map NV) 0]=some (rows.map nsAV++[nsAV row],[b0,b1,b2,b3,b4,b5,b6,b7,b8,b9,b10,b11,b12,.row 1 (row.map NV) C.length]):=fun b0 b1 b2 b3 b4 b5 b6 b7 b8 b9 b10 b11 b12=>by
            refine HC ?_ _ (Au rows);have:=PI (id:=13) (z:=0) (H:=[b0,b1,b2,b3,b4,b5,b6,b7,b8,b9,b10,b11,b12,.row 1 (row.map NV) 0]) rfl hRl;unfold fz at this;rw[this];simp[mark,getRow]
           have hbq:=AV.beqL_refl (rows.map nsAV++[.ms 13 1 C.length 0 C.length]);simp +contextual -implicitDefEqProofs (disch:=omega) only[Tryz.f9,dd9,go_sem,simprocAttr,mu9,↓AE,↓AC,↓AB,↓AA,hj',a1,hz,hbq,jget,JY,JX,Bool.or_true,Bool.and_self,h21,a2,auH,AK,AJ,AP];have e9:rows.map nsAV++[nsAV row]=(rows++[row]).map nsAV:=by rw[map_append];rfl
           have e10:rows.length+1=(rows++[row]).length:=by simp
           refine⟨rfl,rfl,(tj,rows++[row],accs++[nullG r]),⟨jnd,jst,jln,by simp;omega,by simp[hac],?_⟩,by simp;omega,?_⟩
           ·show autoF 1024 1024 (headX C) (2000-(rows++[row]).length) tj (rows++[row]) (accs++[nullG r])=o;rw[show 2000-(rows++[row]).length=fu by simp;omega];exact hau
           ·rw[e9,e10];generalize rows++[row]=rows2;generalize accs++[nullG r]=accs2;exact AN (n:=13) rfl rfl (by rfl) (by rfl) (by simp[AV.underL,AV.under,AD _ _ (AS C)]) (by simp[und_row,Ci,AV.underL,AV.under,u0,u2,u3,u4,u5,u6,Ce,AD _ _ (AS C),AD _ _ (Au rows2),AD _ _ (Ad accs2),AD _ _ (AH tj)])
         ·rw[show List.replicate C.length (I 0)=(rowL C.length []).map NV from by simp[rowL]];exact AN (n:=14) rfl rfl (by rfl) (by rfl) (by simp[AV.underL,AV.under,AD _ _ (AS C)]) (by simp[und_row,Ci,AV.underL,AV.under,u0,u2,u3,u4,u5,u6,Ce,AD _ _ (AS C),AD _ _ (Au rows),AD _ _ (Ad accs),AD _ _ (AH ts),AD _ _ (B5 (rowL C.length []))])
      ·exact AN (n:=13) rfl rfl (by rfl) (by rfl) (by simp[AV.underL,AV.under,AD _ _ (AS C)]) (by simp[und_row,Ci,AV.underL,AV.under,u0,u2,u3,u4,u5,u6,Ce,AD _ _ (AS C),AD _ _ (AO t0)])
 ·rw[if_pos hch];simp +contextual -implicitDefEqProofs (disch:=omega) only[Tryz.f9,dd9,go_sem,simprocAttr,evAppend,map_append,mu9,↓AE,↓AC,↓AB,↓AA,h23,hch,hl8,htk8,htk10,hall,all_append];exact⟨_,rfl⟩
end
section
attribute [local go_sem] evAppend map_append
theorem Aw {α:Type} (K:List α) (b:α):(K++[b])[K.length]?=some b:=by simp
theorem Ar {α:Type} (K:List α) (b c:α):(K++[b]).set K.length c=K++[c]:=by simp
theorem Mj (j:List AV->List MB->Option (List AV×List MB)) (a:Bool) {xs:List AV} (H:List MB) (hp:AV.plainL xs=true):fzA j (.sl a xs) H=some (.sl false xs,H):=by
 unfold fzA;rw[A9 j xs H hp]
theorem Jn (a b:Bool) (op:Int) (set:List (Int×Int)) (kids:List Re) (mn mx md n:Int) (neg:Bool) (H:List MB) :
  fz (.agg [I op,.sl a (set.map spanAV),.sl b (kids.map reAV),I mn,I mx,I md,I n,.bool neg]) H=some (.agg [I op,.sl false (set.map spanAV),.sl false (kids.map reAV),I mn,I mx,I md,I n,.bool neg],H):=by
 simp only[fz,Qf,fzL,Mj _ _ _ (AF set),Mj _ _ _ (AH kids),Mk];rfl
theorem As (r:Re):(reC r).drop 8=[]:=List.drop_of_length_le (by rw[AK];omega)
theorem BK (r:Re):AV.plain (reAV r)=true:=AO r
structure MS where
 at_:Int
 left:Int
 caps:Int
abbrev mkAV (l:List Int) (uses:Int) (s:MS):AV:=.agg [.sl false (l.map I),I s.at_,I uses,I s.left,I s.caps]
abbrev mH (b0:MB) (l:List Int) (uses:Int) (s:MS) (K:List MB):List MB:=b0::.row 5 [mkAV l uses s] 0::K
def nx (l:List Int) (n:Int) (s:MS):Int×MS:=(pickI l s.at_ n,⟨s.at_+1,s.left,s.caps⟩)
theorem Mc (n:Nat) (b0 x y:MB) (K L:List MB) (h:MB.under n y=true):keptOk n (b0::x::K) (b0::y::(K++L))=true:=by
 simp only[keptOk,MB.beq_refl,h,Bool.true_or,Bool.or_true,Bool.true_and];exact BO n L K
theorem Lf {f:Nat} (hk:pol1.keep f=false) (ho:pol1.own f=false) {l:List Int}{uses:Int}{s s':MS}{b0:MB}{K L:List MB}{r r':AV} (hz:∀ H,fz r H=some (r',H)) (hp:AV.plain r' = true) :
  retPol pol1 f (mH b0 l uses s K) r (mH b0 l uses s' (K++L))=some (r',mH b0 l uses s' K):=by
 have h1:=Mc (mH b0 l uses s K).length b0 (.row 5 [mkAV l uses s] 0) (.row 5 [mkAV l uses s'] 0) K L (by simp[MB.under,AV.underL,AV.under,AD,AG]);unfold retPol;rw[if_neg (by rw[hk];exact Bool.false_ne_true),if_neg (by rw[ho];exact Bool.false_ne_true)];simp only[hz,AI _ _ hp,h1,and_self,if_true];simp
theorem P4 {f:Nat} (hk:pol1.keep f=false) (ho:pol1.own f=false) {l:List Int}{uses:Int}{s s':MS}{b0:MB}{K:List MB}{r r':AV} (hz:∀ H,fz r H=some (r',H)) (hp:AV.plain r' = true) :
  retPol pol1 f (mH b0 l uses s K) r (mH b0 l uses s' K)=some (r',mH b0 l uses s' K):=by
 have:=Lf (L:=[]) hk ho (s:=s) (s':=s') (K:=K) (l:=l) (uses:=uses) (b0:=b0) hz hp
 rwa [append_nil]at this
theorem f97 (l:List Int) (hl:∀ x∈l,In64 x) (uses n:Int) (hn:n≠0) (s:MS) (hs:0<=s.at_/\s.at_<=1000000) (b0:MB) (K:List MB) :
  call Pg pol1 41 [.rf 1 1 0 0,I n] (mH b0 l uses s K)=some (I (nx l n s).1,mH b0 l uses (nx l n s).2 K):=by
 obtain⟨at_,left,caps⟩:=s;simp only at hs;have h57:=f57 l at_ n hl hn;have fr:frzArgs pol1 41 0 [.rf 1 1 0 0,I n] (mH b0 l uses ⟨at_,left,caps⟩ K)=some ([.rf 1 1 0 0,I n],mH b0 l uses ⟨at_,left,caps⟩ K):=AT _ _ _ rfl;refine AX (pol:=pol1) Tryz.func41 rfl rfl rfl rfl fr ?_;have hsub:at_+1-1=at_:=by omega
 simp +contextual (disch:=omega) only[Tryz.f41,dd41,go_sem,simprocAttr,mu41,↓AE,↓AC,↓AB,↓AA,h57,hsub];repeat' (first|intro _|apply And.intro|(unfold dOk;kernel_rfl)|exact St.beq_refl _|exact AQ|(show altO _ _ _ _=true;kernel_rfl)|(show (_||_)=true;kernel_rfl)|(show (_&&_)=true;kernel_rfl))
 exact P4 (s:=⟨at_,left,caps⟩) (s':=⟨at_+1,left,caps⟩) rfl rfl (fun H=>rfl) rfl
def smallS:List (List (Int×Int)):=[[(97,97)],[(98,98)],[(97,98)],[(99,99)],[(97,99)],[(0,96),(98,255)],[(10,10),(97,97)],[]]
def setM (l:List Int) (s:MS):Re×MS:=(.mk 1 (smallS.getD ((pickI l s.at_ 15).tdiv 2).toNat []) [] 0 0 0 0 false,⟨s.at_+1,s.left,s.caps⟩)
theorem f98 (l:List Int) (hl:∀ x∈l,In64 x) (uses:Int) (s:MS) (hs:0<=s.at_/\s.at_<=1000000) (b0:MB) (K:List MB) :
  call Pg pol1 42 [.rf 1 1 0 0] (mH b0 l uses s K)=some (reAV (setM l s).1,mH b0 l uses (setM l s).2 K):=by
 obtain⟨at_,left,caps⟩:=s;have h97:=fun K=>f97 l hl uses 15 (by omega) ⟨at_,left,caps⟩ hs b0 K;have fr:frzArgs pol1 42 0 [.rf 1 1 0 0] (mH b0 l uses ⟨at_,left,caps⟩ K)=some ([.rf 1 1 0 0],mH b0 l uses ⟨at_,left,caps⟩ K):=AT _ _ _ rfl;have hp:=MU (l:=l) (i:=at_) (m:=15) (by omega);simp only[nx]at h97;unfold setM;simp only;generalize pickI l at_ 15=k at *;obtain⟨j,hj,hk⟩:∃ j:Nat,j<8/\k.tdiv 2=j:=⟨(k.tdiv 2).toNat,by rw[Int.tdiv_eq_ediv_of_nonneg hp.1];omega,by rw[Int.tdiv_eq_ediv_of_nonneg hp.1];omega⟩;have hw:IntKind.i64.wrap (k.tdiv 2)=(j:Int):=by rw[hk];exact i64_in _ ⟨by omega,by omega⟩
 rw[hk,Int.toNat_natCast];obtain⟨set,hset,hsj⟩:∃ set,[AV.sl true [.agg [I 97,I 97]],.sl true [.agg [I 98,I 98]],.sl true [.agg [I 97,I 98]],.sl true [.agg [I 99,I 99]],.sl true [.agg [I 97,I 99]],.sl true [.agg [I 0,I 96],.agg [I 98,I 255]],.sl true [.agg [I 10,I 10],.agg [I 97,I 97]],.sl true []][j]?=some (.sl true (set.map spanAV))/\smallS.getD j []=set:=by
  have:j=0∨j=1∨j=2∨j=3∨j=4∨j=5∨j=6∨j=7:=by omega
  rcases this with rfl|rfl|rfl|rfl|rfl|rfl|rfl|rfl<;>exact⟨_,rfl,rfl⟩
 rw[hsj];refine AX (pol:=pol1) Tryz.func42 rfl rfl rfl rfl fr ?_;simp +contextual (disch:=omega) only[Tryz.f42,dd42,go_sem,simprocAttr,mu42,↓AE,↓AC,↓AB,↓AA,h97,hw,hset,Aw,Ar];exact Lf (s:=⟨at_,left,caps⟩) (s':=⟨at_+1,left,caps⟩) rfl rfl (Jn true true 1 set [] 0 0 0 0 false) (BK _)
def andI (a b:Int):Int:=IntKind.i64.wrap ((BitVec.ofInt 64 a &&& BitVec.ofInt 64 b).toNat)
theorem BA (a b:Int):evBin .and .i64 a b=some (.int .i64 (andI a b)):=rfl
def stK (l:List Int) (tr:MS->Re×MS) (s:MS):Nat->List Re×MS
 | 0=>([],s)
 | i+1=>((stK l tr s i).1++[(tr (nx l 2 (stK l tr s i).2).2).1],(tr (nx l 2 (stK l tr s i).2).2).2)
def kidsF (l:List Int) (tr:MS->Re×MS) (s:MS):List Re×MS:=
 if(nx l 2 (stK l tr s 2).2).1=1 then((stK l tr s 3).1,(nx l 2 (stK l tr s 3).2).2) else((stK l tr s 2).1,(nx l 2 (stK l tr s 2).2).2)
def repF (l:List Int) (uses:Int) (tr:MS->Re×MS) (s:MS):Re×MS:=
 let k:=nx l 12 s
 let md:=nx l 2 k.2
 let m:Int×MS:=if 0<andI uses 8 then(if(nx l 4 md.2).1=0 then 2 else md.1,(nx l 4 md.2).2) else md
 let kid:=tr m.2
 let r:=if andI uses 32=0/\nullG kid.1=true then setM l kid.2 else kid
 (.mk 4 [] [r.1] (([0,0,0,0,1,1,1,0,2,0,1,2]:List Int).getD k.1.toNat 0) (([-1,-1,-1,1,-1,-1,2,2,2,3,1,-1]:List Int).getD k.1.toNat 0) m.1 0 false,r.2)
def capF (l:List Int) (tr:MS->Re×MS) (s:MS):Re×MS:=
 let p:Bool×MS:=if 4<s.caps+1 then(true,s) else if 0<s.caps then(decide ((nx l 9 s).1=0),(nx l 9 s).2) else(false,s)
 let q:Int×MS:=if p.1=true then(1+(nx l (max 1 p.2.caps) p.2).1,(nx l (max 1 p.2.caps) p.2).2) else(s.caps+1,p.2)
 let kid:=tr ⟨q.2.at_,q.2.left,max q.2.caps q.1⟩
 (.mk 5 [] [kid.1] 0 0 0 q.1 false,kid.2)
def leafF (l:List Int) (k:Int) (s:MS):Re×MS:=if k=0 then(.mk 0 [] [] 0 0 0 0 false,s) else setM l s
def treeStep (l:List Int) (uses:Int) (tr:MS->Re×MS) (k:Int) (s:MS):Re×MS:=
 if s.left<3∨(l.length:Int)<s.at_ then leafF l k s
 else if k<5 then(.mk 2 [] (kidsF l tr s).1 0 0 0 0 false,(kidsF l tr s).2)
 else if k<8 then(.mk 3 [] (kidsF l tr s).1 0 0 0 0 false,(kidsF l tr s).2)
 else if k<12 then repF l uses tr s
 else if(k=12∨k=13)/\0<andI uses 64 then capF l tr s
 else if k=14/\0<andI uses 16 then(.mk 11 [] [] 0 0 0 (nx l 6 s).1 false,(nx l 6 s).2)
 else if k=15/\0<andI uses 4 then
  (.mk (7+(nx l 2 (nx l 3 s).2).1) [] [(tr (nx l 2 (nx l 3 s).2).2).1] 0 0 0 0 ((nx l 3 s).1==0),(tr (nx l 2 (nx l 3 s).2).2).2)
 else if k=16/\0<andI uses 8 then(.mk 9 [] [(tr s).1] 0 0 0 0 false,(tr s).2)
 else if k=17/\0<andI uses 1/\0<s.caps then(.mk 6 [] [] 0 0 0 (1+(nx l s.caps s).1) false,(nx l s.caps s).2)
 else if k=18/\0<andI uses 2/\0<s.caps then
  (.mk 10 [] [(tr (nx l s.caps s).2).1,(tr (tr (nx l s.caps s).2).2).1] 0 0 0 (1+(nx l s.caps s).1) false,(tr (tr (nx l s.caps s).2).2).2)
 else setM l s
def treeF (l:List Int) (uses:Int):Nat->MS->Re×MS
 | 0,s=>leafF l (nx l 20 ⟨s.at_,s.left-1,s.caps⟩).1 (nx l 20 ⟨s.at_,s.left-1,s.caps⟩).2
 | d+1,s=>treeStep l uses (treeF l uses d) (nx l 20 ⟨s.at_,s.left-1,s.caps⟩).1 (nx l 20 ⟨s.at_,s.left-1,s.caps⟩).2
def mA1:Nat->Int
 | 0=>3
 | d+1=>9+3*mA1 d
def mS1:Nat->Int
 | 0=>1
 | d+1=>1+3*mS1 d
structure Pre (A S:Int) (s:MS):Prop where
 a:0<=s.at_/\s.at_+A<=1000000
 l:-1000000<=s.left-S/\s.left<=1000000
 c:0<=s.caps/\s.caps<=4
structure Post (A S:Int) (s s':MS):Prop where
 a:s.at_<=s'.at_/\s'.at_<=s.at_+A
 l:s.left-S<=s'.left/\s'.left<=s.left
 c:0<=s'.caps/\s'.caps<=4
theorem BM (l:List Int) {n:Int} (hn:0<n) (s:MS):0<=(nx l n s).1/\(nx l n s).1<n:=MU hn
theorem Q9 {H:List MB}{i n z:Nat}{els:List AV}{y:AV}{t:Bool} (hi:getRow H i=some (8,els,z)) (hn:els.length=n) (hy:(decide (y.cells.length=8)&&y.cells.all AV.ok)=true) (hz:z<=n) (hr:n+1<=4000000000) :
  evAppend Pg H 24 24 (.ms i 8 n 0 n) (.sl t [y])=some (.ms i 8 (n+1) 0 (n+1),H.set i (.row 8 (els++[y]) z)):=by
 have hs:srcElems Pg H 26 (.sl t [y])=some [y]:=rfl;rw[Ai (e:=26) (by kernel_rfl) (by kernel_rfl) (k:=8) (by kernel_rfl) (by_:=96) (by kernel_rfl) (ze:=.agg [I 0,.sl true [],.sl true [],I 0,I 0,I 0,I 0,.bool false]) (by kernel_rfl) rfl (by omega) hs (by simp only[List.all_cons,List.all_nil,hy,Bool.and_true]) hi hn hz (Ae hr (by omega))];rfl
theorem Oa {f:Nat} (hk:pol1.keep f=false) (ho:pol1.own f=false) {l:List Int}{uses:Int}{s s':MS}{b0:MB}{K:List MB}{ks:List Re}{n:Nat} (hn:ks.length=n) :
  retPol pol1 f (mH b0 l uses s K) (.ms (K.length+1+1) 8 n 0 n) (mH b0 l uses s' (K++[.row 8 (ks.map reAV) 0]))=some (.sl false (ks.map reAV),mH b0 l uses s' K):=by
 have hr:getRow (mH b0 l uses s' (K++[.row 8 (ks.map reAV) 0])) (K.length+1+1)=some (8,ks.map reAV,0):=by
  simp[getRow]
 have hz:fz (.ms (K.length+1+1) 8 n 0 n) (mH b0 l uses s' (K++[.row 8 (ks.map reAV) 0]))=some (.sl false (ks.map reAV),mH b0 l uses s' (K++[.row 8 (ks.map reAV) n])):=by
  rw[Az hr (by rw[length_map];exact hn) (AH ks)];unfold mark;rw[hr];simp[Ar]
 have h1:=Mc (mH b0 l uses s K).length b0 (.row 5 [mkAV l uses s] 0) (.row 5 [mkAV l uses s'] 0) K [.row 8 (ks.map reAV) n] (by simp[MB.under,AV.underL,AV.under,AD,AG]);unfold retPol;rw[if_neg (by rw[hk];exact Bool.false_ne_true),if_neg (by rw[ho];exact Bool.false_ne_true)];simp only[hz,AV.under,AD _ _ (AH ks),h1,and_self,if_true];simp
abbrev TreeLaw (l:List Int) (uses:Int) (d:Nat):Prop:=∀(s:MS) (b0:MB) (K:List MB),Pre (mA1 d) (mS1 d) s->call Pg pol1 22 [.rf 1 1 0 0,I d] (mH b0 l uses s K)=some (reAV (treeF l uses d s).1,mH b0 l uses (treeF l uses d s).2 K)
abbrev TreeB (l:List Int) (uses:Int) (d:Nat):Prop:=∀ s:MS,Pre (mA1 d) (mS1 d) s->Post (mA1 d) (mS1 d) s (treeF l uses d s).2
theorem BD:∀ d,3<=mA1 d
 | 0=>by simp[mA1]
 | d+1=>by have:=BD d;simp only[mA1];omega
theorem BC:∀ d,1<=mS1 d
 | 0=>by simp[mS1]
 | d+1=>by have:=BC d;simp only[mS1];omega
theorem Pre.step {A S:Int}{s s':MS}{A' S' x y:Int} (h:Pre A S s) (p:Post x y s s') (ha:A' + x<=A) (hs:S' + y<=S):Pre A' S' s':=by
 obtain⟨h1,h2,h3⟩:=h;obtain⟨p1,p2,p3⟩:=p;exact⟨by omega,by omega,p3⟩
theorem Post.trans {s s' s'':MS}{x y x' y':Int} (p:Post x y s s') (q:Post x' y' s' s''):Post (x+x') (y+y') s s'':=by
 obtain⟨p1,p2,p3⟩:=p;obtain⟨q1,q2,q3⟩:=q;exact⟨by omega,by omega,q3⟩
theorem Post.up {s s':MS}{x y x' y':Int} (p:Post x y s s') (hx:x<=x') (hy:y<=y'):Post x' y' s s':=by
 obtain⟨p1,p2,p3⟩:=p;exact⟨by omega,by omega,p3⟩
theorem Ah (l:List Int) (n:Int) (s:MS) (hc:0<=s.caps/\s.caps<=4):Post 1 0 s (nx l n s).2:=⟨by simp only[nx];omega,by simp only[nx];omega,hc⟩
theorem Dt (l:List Int) (s:MS) (hc:0<=s.caps/\s.caps<=4):Post 1 0 s (setM l s).2:=⟨by simp only[setM];omega,by simp only[setM];omega,hc⟩
theorem Eh {l:List Int}{uses:Int}{d:Nat} (hb:TreeB l uses d) {s:MS} (hp:Pre (5+3*mA1 d) (3*mS1 d) s):∀ i:Nat,i<=3->Post (i+i*mA1 d) (i*mS1 d) s (stK l (treeF l uses d) s i).2
 | 0,_=>⟨by simp[stK],by simp[stK],by simpa [stK] using hp.c⟩
 | i+1,hi=>by
   have p:=Eh hb hp i (by omega);have:=BD d;have:=BC d;have e1:((i+1:Nat):Int)*mA1 d=i*mA1 d+mA1 d:=by rw[Int.natCast_add,Int.add_mul];simp
   have e2:((i+1:Nat):Int)*mS1 d=i*mS1 d+mS1 d:=by rw[Int.natCast_add,Int.add_mul];simp
   have e3:(i:Int)*mA1 d<=2*mA1 d:=Int.mul_le_mul_of_nonneg_right (by omega) (by omega);have e4:(i:Int)*mS1 d<=2*mS1 d:=Int.mul_le_mul_of_nonneg_right (by omega) (by omega);have q:=p.trans (Ah l 2 _ p.c);have r:=hb _ (hp.step q (by omega) (by omega));refine(q.trans r).up (by omega) (by omega)
theorem G0 {l:List Int}{uses:Int}{d:Nat} (hb:TreeB l uses d) {s:MS} (hp:Pre (5+3*mA1 d) (3*mS1 d) s):Post (5+3*mA1 d) (3*mS1 d) s (kidsF l (treeF l uses d) s).2:=by
 have p2:=Eh hb hp 2 (by omega);have p3:=Eh hb hp 3 (by omega);have:=BD d;have:=BC d;unfold kidsF;split
 ·exact(p3.trans (Ah l 2 _ p3.c)).up (by omega) (by omega)
 ·exact(p2.trans (Ah l 2 _ p2.c)).up (by omega) (by omega)
theorem MP (l:List Int) (tr:MS->Re×MS) (s:MS):∀ i,(stK l tr s i).1.length=i
 | 0=>rfl
 | i+1=>by simp[stK,MP l tr s i]
def mW1:Nat->Nat
 | 0=>3
 | d+1=>1+3*mW1 d
theorem MZ:∀ d,3<=mW1 d
 | 0=>by simp[mW1]
 | d+1=>by have:=MZ d;simp only[mW1];omega
theorem Lc (j:Nat):(smallS.getD j []).length<=2:=by
 rw[List.getD_eq_getElem?_getD];cases h:smallS[j]? with
 | none=>simp
 | some x=>
   have hm:=mem_of_getElem? h;have:∀ x∈smallS,x.length<=2:=by decide
   exact this x hm
theorem JU (l:List Int) (s:MS):(setM l s).1.wt<=3:=by
 have:=Lc ((pickI l s.at_ 15).tdiv 2).toNat;simp only[setM,Re.wt,Re.wtL];omega
theorem Kf (l:List Int) (k:Int) (s:MS):(leafF l k s).1.wt<=3:=by
 unfold leafF;split
 ·simp[Re.wt,Re.wtL]
 ·exact JU l s
theorem Re.wtL_append:∀(a b:List Re),Re.wtL (a++b)=Re.wtL a+Re.wtL b
 | [],b=>by simp[Re.wtL]
 | k::ks,b=>by simp[Re.wtL,Re.wtL_append ks b];omega
theorem LV {l:List Int}{tr:MS->Re×MS}{W:Nat} (h:∀ s,(tr s).1.wt<=W) (s:MS):∀ i,Re.wtL (stK l tr s i).1<=i*W
 | 0=>by simp[stK,Re.wtL]
 | i+1=>by
   have h1:=LV (l:=l) h s i;have h2:=h (nx l 2 (stK l tr s i).2).2;simp only[stK,Re.wtL_append,Re.wtL,Nat.add_mul];omega
theorem O9 {l:List Int}{tr:MS->Re×MS}{W:Nat} (h:∀ s,(tr s).1.wt<=W) (s:MS):Re.wtL (kidsF l tr s).1<=3*W:=by
 have h2:=LV (l:=l) h s 2;have h3:=LV (l:=l) h s 3;unfold kidsF;split
 ·exact h3
 ·simp only;omega
theorem Ef (l:List Int) (uses:Int):∀(d:Nat) (s:MS),(treeF l uses d s).1.wt<=mW1 d
 | 0,s=>Kf l _ _
 | d+1,s=>by
   have h:=Ef l uses d;have hp:=MZ d;simp only[treeF,mW1];generalize (nx l 20 ⟨s.at_,s.left-1,s.caps⟩).1=k;generalize (nx l 20 ⟨s.at_,s.left-1,s.caps⟩).2=s1;have hk:=O9 (l:=l) h s1;have hl:=Kf l k s1;have hs:=JU l s1;generalize treeF l uses d=tr at *;have key:∀(c:Prop) [Decidable c] (x:Re×MS),x.1.wt<=mW1 d->(if c then setM l x.2 else x).1.wt<=mW1 d:=by
    intro c _ x hx;have:=JU l x.2;split
    ·omega
    ·exact hx
   have hr:(repF l uses tr s1).1.wt<=1+3*mW1 d:=by
    unfold repF;simp only[Re.wt,Re.wtL,length_nil];exact le_trans (Nat.add_le_add_left (Nat.add_le_add_right (key _ _ (h _)) 0) _) (by omega)
   have hc:(capF l tr s1).1.wt<=1+3*mW1 d:=by
    unfold capF;simp only[Re.wt,Re.wtL,length_nil];have:∀ s,(tr s).1.wt<=mW1 d:=h;refine le_trans (Nat.add_le_add_left (Nat.add_le_add_right (this _) 0) _) (by omega)
   unfold treeStep;repeat' split
   all_goals first|omega|(simp only[Re.wt,Re.wtL,length_nil];first|omega|(have:=h s1;omega)|(have:=h (nx l 2 (nx l 3 s1).2).2;omega)|(have:=h (nx l s1.caps s1).2;have:=h (tr (nx l s1.caps s1).2).2;omega))
end
section
section
variable (k:IntKind) (a b:Int)
theorem A7:evBin .add k a b=some (.int k (k.wrap (a+b))):=rfl
theorem A1:evBin .sub k a b=some (.int k (k.wrap (a-b))):=rfl
theorem A6:evBin .eql k a b=some (.bool (a==b)):=rfl
theorem A3:evBin .neq k a b=some (.bool (a != b)):=rfl
theorem A4:evBin .lss k a b=some (.bool (decide (a<b))):=rfl
theorem A5:evBin .gtr k a b=some (.bool (decide (a > b))):=rfl
end
section
variable {α:Type} (K:List α) (a b c x:α)
theorem ex1:∃ L,K++[a]=K++L:=⟨_,rfl⟩
theorem ex2:∃ L,K++[a]++[b]=K++L:=⟨[a,b],by simp⟩
theorem ex3:∃ L,K++[a]++[b]++[c]=K++L:=⟨[a,b,c],by simp⟩
theorem BW:(K++[a]++[b])[K.length]?=some a:=by simp
theorem BP:(K++[a]++[b])[K.length+1]?=some b:=by simp
theorem BU:(K++[a]++[b]).set K.length x=K++[x]++[b]:=by simp
theorem BT:(K++[a]++[b]).set (K.length+1) x=K++[a]++[x]:=by simp[List.set_append]
theorem Qa:(K++[a]++[b]++[c])[K.length]?=some a:=by simp
theorem QZ:(K++[a]++[b]++[c])[K.length+1]?=some b:=by simp[List.getElem?_append]
theorem QY:(K++[a]++[b]++[c])[K.length+1+1]?=some c:=by
 rw[List.getElem?_append_right (by simp)];simp
theorem Px:(K++[a]++[b]++[c]).set K.length x=K++[x]++[b]++[c]:=by simp
theorem Pw:(K++[a]++[b]++[c]).set (K.length+1) x=K++[a]++[x]++[c]:=by simp[List.set_append]
theorem Pv:(K++[a]++[b]++[c]).set (K.length+1+1) x=K++[a]++[b]++[x]:=by
 rw[List.set_append_right _ _ (by simp)];simp
end
theorem DP {f:Nat} (hk:pol1.keep f=false) (ho:pol1.own f=false) {l:List Int}{uses:Int} (s s':MS) {b0:MB}{K M:List MB} (hM:∃ L,M=K++L) {r r':AV} (hz:∀ H,fz r H=some (r',H)) (hp:AV.plain r' = true) :
  retPol pol1 f (mH b0 l uses s K) r (mH b0 l uses s' M)=some (r',mH b0 l uses s' K):=by
 obtain⟨L,rfl⟩:=hM;exact Lf hk ho hz hp
theorem Bj {f:Nat} (hk:pol1.keep f=false) (ho:pol1.own f=false) {l:List Int}{uses:Int} (s s':MS) {b0:MB}{K M:List MB} (hM:∃ L,M=K++L) (a b:Bool) (op:Int) (set:List (Int×Int)) (kids:List Re) (mn mx md n:Int) (neg:Bool) :
  retPol pol1 f (mH b0 l uses s K) (.agg [I op,.sl a (set.map spanAV),.sl b (kids.map reAV),I mn,I mx,I md,I n,.bool neg]) (mH b0 l uses s' M)=some (reAV (.mk op set kids mn mx md n neg),mH b0 l uses s' K):=by
 rw[DP hk ho s s' hM (Jn a b op set kids mn mx md n neg) (by simp[AV.plain,AV.plainL,AF,AH])];rw[show reAV (.mk op set kids mn mx md n neg)=.agg (nodeL op set kids mn mx md n neg) from congrArg AV.agg Ab]
section
variable {l:List Int} (hl:∀ x∈l,In64 x) {uses:Int}{d:Nat} (hd:d<=5) (ht:TreeLaw l uses d) (hb:TreeB l uses d)
include hl hd ht hb
theorem f99 (s:MS) (hp:Pre (5+3*mA1 d) (3*mS1 d) s) (b0:MB) (K:List MB) :
  call Pg pol1 43 [.rf 1 1 0 0,I ((d+1:Nat):Int)] (mH b0 l uses s K)=some (.sl false ((kidsF l (treeF l uses d) s).1.map reAV),mH b0 l uses (kidsF l (treeF l uses d) s).2 K):=by
 have fr:frzArgs pol1 43 0 [.rf 1 1 0 0,I ((d+1:Nat):Int)] (mH b0 l uses s K)=some ([.rf 1 1 0 0,I ((d+1:Nat):Int)],mH b0 l uses s K):=AT _ _ _ rfl;have hA:=BD d;have hS:=BC d;have hpost:=fun i hi=>Eh hb hp i hi;have hmul:∀ i n:Nat,i<=n->(i:Int)*mA1 d<=n*mA1 d/\(i:Int)*mS1 d<=n*mS1 d:=fun i n hi=>⟨Int.mul_le_mul_of_nonneg_right (by omega) (by omega),Int.mul_le_mul_of_nonneg_right (by omega) (by omega)⟩;have hlen:=fun i=>MP l (treeF l uses d) s i;refine AX (pol:=pol1) Tryz.func43 rfl rfl rfl rfl fr ?_;obtain⟨N,hN,hN2,hval⟩:∃ N:Nat,2<=N/\N<=3/\kidsF l (treeF l uses d) s=((stK l (treeF l uses d) s N).1,(nx l 2 (stK l (treeF l uses d) s N).2).2)/\(N=3->(nx l 2 (stK l (treeF l uses d) s 2).2).1=1)/\(N=2->(nx l 2 (stK l (treeF l uses d) s 2).2).1≠1):=by
  unfold kidsF;by_cases h:(nx l 2 (stK l (treeF l uses d) s 2).2).1=1
  ·exact⟨3,by omega,by omega,if_pos h,fun _=>h,fun h=>by omega⟩
  ·exact⟨2,by omega,by omega,if_neg h,fun h=>by omega,fun _=>h⟩
 obtain⟨hval,h3,h2⟩:=hval;rw[hval];simp +contextual (disch:=omega) only[Tryz.f43,dd43,go_sem,simprocAttr,evAppend,map_append,mu43,↓AE,↓AC,↓AB,↓AA];refine AY (M:=(mskOf (pol1.mask 43) (pol1.gc 43) (pol1.acts 43) 0 3)) rfl N (fun i=>(⟨22,[(6,I i),(5,.ms (K.length+1+1) 8 i 0 i),(1,I ((d+1:Nat):Int)),(0,.rf 1 1 0 0)],mH b0 l uses (stK l (treeF l uses d) s i).2 (K++[.row 8 ((stK l (treeF l uses d) s i).1.map reAV) 0])⟩:St)) (fun _=>True) ?_ ?_ trivial _ (by rfl)
 ·intro i hi _;have pi:=hpost i (by omega);have hmi:=hmul i 2 (by omega);have hli:=hlen i;have e:stK l (treeF l uses d) s (i+1)=((stK l (treeF l uses d) s i).1++[(treeF l uses d (nx l 2 (stK l (treeF l uses d) s i).2).2).1],(treeF l uses d (nx l 2 (stK l (treeF l uses d) s i).2).2).2):=rfl;rw[e];have hv2:i=2->(nx l 2 (stK l (treeF l uses d) s i).2).1=1:=fun h=>by subst h;exact h3 (by omega)
  generalize stK l (treeF l uses d) s i=X at *;obtain⟨ks,si⟩:=X;simp only at pi hli hv2 |-;obtain⟨pa,pl,pc⟩:=pi;obtain⟨qa,ql,qc⟩:=hp;have h97:=fun K=>f97 l hl uses 2 (by omega) si ⟨by omega,by omega⟩ b0 K;have hv:=BM l (n:=2) (by omega) si;have hq:=Ah l 2 si pc;generalize nx l 2 si=Y at *;obtain⟨v,sj⟩:=Y;simp only at h97 hv hq hv2 |-;obtain⟨ra,rl,rc⟩:=hq;have h44:=fun K=>ht sj b0 K ⟨by omega,by omega,rc⟩;generalize treeF l uses d sj=Z at *;obtain⟨r,sk⟩:=Z;simp only at h44 |-;have hap:=fun s=>Q9 (H:=mH b0 l uses s (K++[.row 8 (ks.map reAV) 0])) (i:=K.length+1+1) (n:=i) (t:=true) (y:=reAV r) (z:=0) (els:=ks.map reAV) (by simp[getRow]) (by rw[length_map];exact hli) (by simp[AV.cells,AK,AP]) (zero_le _) (by omega);simp +contextual (disch:=omega) only[Tryz.f43,dd43,go_sem,simprocAttr,mu43,↓AE,↓AC,↓AB,↓AA,h97,h44,hap,Aw,Ar,AK,AP,AJ,As,append_nil];rw[map_append];rfl
 ·intro _;have pi:=hpost N (by omega);have hmi:=hmul N 3 (by omega);have hli:=hlen N;have hv2:N=2->(nx l 2 (stK l (treeF l uses d) s N).2).1≠1:=fun h=>by rw[h];exact h2 h
  generalize stK l (treeF l uses d) s N=X at *;obtain⟨ks,si⟩:=X;simp only at pi hli hv2 |-;obtain⟨pa,pl,pc⟩:=pi;obtain⟨qa,ql,qc⟩:=hp;have h97:=fun K=>f97 l hl uses 2 (by omega) si ⟨by omega,by omega⟩ b0 K;have hv:=BM l (n:=2) (by omega) si;generalize nx l 2 si=Y at *;obtain⟨v,sj⟩:=Y;simp only at h97 hv hv2 |-;have hvn:¬ (N:Int)<2+v:=by omega
  simp +contextual (disch:=omega) only[Tryz.f43,dd43,go_sem,simprocAttr,mu43,↓AE,↓AC,↓AB,↓AA,h97,Aw,Ar,AK,AP,AJ,As,append_nil];exact Oa rfl rfl hli
theorem f100 (s:MS) (hp:Pre (5+3*mA1 d) (3*mS1 d) s) (b0:MB) (K:List MB) :
  call Pg pol1 44 [.rf 1 1 0 0,I ((d+1:Nat):Int)] (mH b0 l uses s K)=some (reAV (repF l uses (treeF l uses d) s).1,mH b0 l uses (repF l uses (treeF l uses d) s).2 K):=by
 have fr:frzArgs pol1 44 0 [.rf 1 1 0 0,I ((d+1:Nat):Int)] (mH b0 l uses s K)=some ([.rf 1 1 0 0,I ((d+1:Nat):Int)],mH b0 l uses s K):=AT _ _ _ rfl;have hA:=BD d;have hS:=BC d;unfold repF;obtain⟨qa,ql,qc⟩:=hp;have h97a:=fun K=>f97 l hl uses 12 (by omega) s ⟨by omega,by omega⟩ b0 K;have hk:=BM l (n:=12) (by omega) s;have p1:=Ah l 12 s qc;generalize nx l 12 s=Y at *;obtain⟨k,s1⟩:=Y;simp only at h97a hk p1 |-;obtain⟨kn,rfl⟩:∃ kn:Nat,k=kn:=⟨k.toNat,by omega⟩;obtain⟨hm1,hm2⟩:[I 0,I 0,I 0,I 0,I 1,I 1,I 1,I 0,I 2,I 0,I 1,I 2][kn]?=some (I (([0,0,0,0,1,1,1,0,2,0,1,2]:List Int).getD kn 0))/\[I (-1),I (-1),I (-1),I 1,I (-1),I (-1),I 2,I 2,I 2,I 3,I 1,I (-1)][kn]?=some (I (([-1,-1,-1,1,-1,-1,2,2,2,3,1,-1]:List Int).getD kn 0)):=by
  have:kn=0∨kn=1∨kn=2∨kn=3∨kn=4∨kn=5∨kn=6∨kn=7∨kn=8∨kn=9∨kn=10∨kn=11:=by omega
  rcases this with rfl|rfl|rfl|rfl|rfl|rfl|rfl|rfl|rfl|rfl|rfl|rfl<;>exact⟨rfl,rfl⟩
 simp only[Int.toNat_natCast];generalize ([0,0,0,0,1,1,1,0,2,0,1,2]:List Int).getD kn 0=mn at *;generalize ([-1,-1,-1,1,-1,-1,2,2,2,3,1,-1]:List Int).getD kn 0=mx at *;have h97b:=fun K=>f97 l hl uses 2 (by omega) s1 ⟨by have:=p1.a;omega,by have:=p1.a;omega⟩ b0 K;have p2:=p1.trans (Ah l 2 s1 p1.c);generalize nx l 2 s1=Y at *;obtain⟨md,s2⟩:=Y;simp only at h97b p2 |-;have h97c:=fun K=>f97 l hl uses 4 (by omega) s2 ⟨by have:=p2.a;omega,by have:=p2.a;omega⟩ b0 K;have p3':=p2.trans (Ah l 4 s2 p2.c)
 obtain⟨m,s3,hm,p3,hms⟩:∃ m s3,(if 0<andI uses 8 then(if(nx l 4 s2).1=0 then(2:Int) else md,(nx l 4 s2).2) else(md,s2))=(m,s3)/\Post (1+1+1) (0+0+0) s s3 /\
   ((¬ 0<andI uses 8/\m=md/\s3=s2)∨(0<andI uses 8/\(nx l 4 s2).1=0/\m=2/\s3=(nx l 4 s2).2)∨(0<andI uses 8/\(nx l 4 s2).1≠0/\m=md/\s3=(nx l 4 s2).2)):=by
  by_cases u:0<andI uses 8
  ·rw[if_pos u];by_cases x0:(nx l 4 s2).1=0
   ·rw[if_pos x0];exact⟨_,_,rfl,p3',.inr (.inl ⟨u,x0,rfl,rfl⟩)⟩
   ·rw[if_neg x0];exact⟨_,_,rfl,p3',.inr (.inr ⟨u,x0,rfl,rfl⟩)⟩
  ·rw[if_neg u];exact⟨_,_,rfl,p2.up (by omega) (by omega),.inl ⟨u,rfl,rfl⟩⟩
 rw[hm];clear hm p3';simp only;generalize nx l 4 s2=Y at *;obtain⟨x,s2'⟩:=Y;simp only at h97c hms |-;have hpre:Pre (mA1 d) (mS1 d) s3:=⟨⟨by have:=p3.a;omega,by have:=p3.a;omega⟩,⟨by have:=p3.l;omega,by have:=p3.l;omega⟩,p3.c⟩;have hw6:mW1 d<=1000000:=by
  have:d=0∨d=1∨d=2∨d=3∨d=4∨d=5:=by omega
  rcases this with rfl|rfl|rfl|rfl|rfl|rfl<;>decide
 have h44:=fun K=>ht s3 b0 K hpre;have p4:=hb s3 hpre;have h20:=f20 (treeF l uses d s3).1.wt (treeF l uses d s3).1 (le_refl _) (le_trans (Ef l uses d s3) hw6);generalize treeF l uses d s3=Y at *;obtain⟨r,s4⟩:=Y;simp only at h44 p4 h20 |-;have h98:=fun K=>f98 l hl uses s4 ⟨by have:=p3.a;have:=p4.a;omega,by have:=p3.a;have:=p4.a;omega⟩ b0 K;obtain⟨X,hX,hXc⟩:∃ X,(if andI uses 32=0/\nullG r=true then setM l s4 else(r,s4))=X/\((andI uses 32≠0/\X=(r,s4))∨(andI uses 32=0/\nullG r=true/\X=setM l s4)∨(andI uses 32=0/\nullG r=false/\X=(r,s4))):=by
  by_cases u:andI uses 32=0
  ·cases hn:nullG r with
   | true=>exact⟨_,if_pos ⟨u,rfl⟩,.inr (.inl ⟨u,rfl,rfl⟩)⟩
   | false=>exact⟨_,if_neg (by simp),.inr (.inr ⟨u,rfl,rfl⟩)⟩
  ·exact⟨_,if_neg (fun h=>u h.1),.inl ⟨u,rfl⟩⟩
 rw[hX];clear hX;generalize setM l s4=Y at *;obtain⟨r5,s5⟩:=Y;simp only at h98;refine AX (pol:=pol1) Tryz.func44 rfl rfl rfl rfl fr ?_;rcases hms with ⟨u8,rfl,rfl⟩|⟨u8,rfl,rfl,rfl⟩|⟨u8,x0,rfl,rfl⟩<;>rcases hXc with ⟨u32,rfl⟩|⟨u32,hn,rfl⟩|⟨u32,hn,rfl⟩
 all_goals try rw[hn]at h20
 all_goals simp +contextual (disch:=omega) only[Tryz.f44,dd44,go_sem,simprocAttr,evAppend,map_append,mu44,↓AE,↓AC,↓AB,↓AA,h97a,h97b,h97c,h44,h20,h98,hm1,hm2,↓BA,Aw,Ar,BW,BP,BU,BT,Qa,QZ,QY,Px,Pw,Pv,AK,AP,AJ,As,append_nil]
 all_goals repeat' (first|intro _|apply And.intro|(unfold dOk;kernel_rfl)|exact St.beq_refl _|exact AQ|(show altO _ _ _ _=true;kernel_rfl)|(show (_||_)=true;kernel_rfl)|(show (_&&_)=true;kernel_rfl))
 all_goals exact Bj (by rfl) (by rfl) s _ (ex3 ..) true true 4 [] [_] _ _ _ 0 false
theorem f101 (s:MS) (hp:Pre (5+3*mA1 d) (3*mS1 d) s) (b0:MB) (K:List MB) :
  call Pg pol1 45 [.rf 1 1 0 0,I ((d+1:Nat):Int)] (mH b0 l uses s K)=some (reAV (capF l (treeF l uses d) s).1,mH b0 l uses (capF l (treeF l uses d) s).2 K):=by
 have _:=hb;have fr:frzArgs pol1 45 0 [.rf 1 1 0 0,I ((d+1:Nat):Int)] (mH b0 l uses s K)=some ([.rf 1 1 0 0,I ((d+1:Nat):Int)],mH b0 l uses s K):=AT _ _ _ rfl;have hA:=BD d;have hS:=BC d;unfold capF;obtain⟨qa,ql,qc⟩:=hp;have h97a:=fun K=>f97 l hl uses 9 (by omega) s ⟨by omega,by omega⟩ b0 K;have p1:=Ah l 9 s qc;have hmx1:(if s.caps > 1 then s.caps else 1)=max 1 s.caps:=by split<;>omega
 have c1:(nx l 9 s).2.caps=s.caps:=rfl;generalize nx l 9 s=Y at *;obtain⟨x,s1⟩:=Y;simp only at h97a p1 c1 |-
 obtain⟨b,s2,hps,p2,c2,hc⟩:∃(b:Bool) (s2:MS),(if 4<s.caps+1 then(true,s) else if 0<s.caps then(decide (x=0),s1) else(false,s))=(b,s2)/\Post 1 0 s s2/\s2.caps=s.caps /\
   ((4<s.caps+1/\b=true/\s2=s)∨(¬ 4<s.caps+1/\0<s.caps/\x=0/\b=true/\s2=s1)∨(¬ 4<s.caps+1/\0<s.caps/\x≠0/\b=false/\s2=s1)∨(¬ 4<s.caps+1/\¬ 0<s.caps/\b=false/\s2=s)):=by
  have p0:Post 1 0 s s:=⟨by omega,by omega,qc⟩;by_cases h1:4<s.caps+1
  ·rw[if_pos h1];exact⟨_,_,rfl,p0,rfl,.inl ⟨h1,rfl,rfl⟩⟩
  ·rw[if_neg h1];by_cases h2:0<s.caps
   ·rw[if_pos h2];by_cases h3:x=0
    ·exact⟨true,s1,by rw[decide_eq_true h3],p1,c1,.inr (.inl ⟨h1,h2,h3,rfl,rfl⟩)⟩
    ·exact⟨false,s1,by rw[decide_eq_false h3],p1,c1,.inr (.inr (.inl ⟨h1,h2,h3,rfl,rfl⟩))⟩
   ·rw[if_neg h2];exact⟨_,_,rfl,p0,rfl,.inr (.inr (.inr ⟨h1,h2,rfl,rfl⟩))⟩
 rw[hps];clear hps;simp only;have hm1:0<max 1 s2.caps:=by omega
 have h97b:=fun K=>f97 l hl uses (max 1 s2.caps) (by omega) s2 ⟨by have:=p2.a;omega,by have:=p2.a;omega⟩ b0 K;have p3:=p2.trans (Ah l (max 1 s2.caps) s2 p2.c);have hv:=BM l hm1 s2;have c3:(nx l (max 1 s2.caps) s2).2.caps=s2.caps:=rfl;generalize hY:nx l (max 1 s2.caps) s2=Y at *;obtain⟨y,s3⟩:=Y;clear hY;simp only at h97b p3 hv c3 |-;rw[c2]at h97b hv c3;obtain⟨m,s4,hms,p4,c4,hmb,hc2⟩:∃(m:Int) (s4:MS),(if b=true then(1+y,s3) else(s.caps+1,s2))=(m,s4)/\Post 2 0 s s4/\s4.caps=s.caps/\(0<=m/\m<=4)/\((b=true/\m=1+y/\s4=s3)∨(b=false/\m=s.caps+1/\s4=s2)):=by
  cases b with
  | true=>exact⟨_,_,if_pos rfl,p3,c3,by omega,.inl ⟨rfl,rfl,rfl⟩⟩
  | false=>
    refine⟨_,_,if_neg Bool.false_ne_true,p2.up (by omega) (by omega),c2,?_,.inr ⟨rfl,rfl,rfl⟩⟩;rcases hc with h|h|h|h<;>first|omega|(simp at h;done)|(simp at h;omega)
 rw[hms];clear hms;simp only;have hmx2:(if m > s.caps then m else s.caps)=max s.caps m:=by split<;>omega
 have hpre:Pre (mA1 d) (mS1 d) ⟨s4.at_,s4.left,max s.caps m⟩:=⟨⟨by have:=p4.a;simp only;omega,by have:=p4.a;simp only;omega⟩,⟨by have:=p4.l;simp only;omega,by have:=p4.l;simp only;omega⟩,by simp only;omega⟩;have h44:=fun K=>ht _ b0 K hpre;rw[c4];generalize treeF l uses d ⟨s4.at_,s4.left,max s.caps m⟩=Y at *;obtain⟨r,s5⟩:=Y;simp only at h44 |-;have fin:∀(M:List MB),(∃ L,M=K++L)->retPol pol1 45 (mH b0 l uses s K) (.agg [I 5,.sl true [],.sl true [reAV r],I 0,I 0,I 0,I m,.bool false]) (mH b0 l uses s5 M)=some (reAV (.mk 5 [] [r] 0 0 0 m false),mH b0 l uses s5 K):=fun M hM=>
  Bj (by rfl) (by rfl) s s5 hM true true 5 [] [r] 0 0 0 m false
 refine AX (pol:=pol1) Tryz.func45 rfl rfl rfl rfl fr ?_;rcases hc with ⟨g1,rfl,rfl⟩|⟨g1,g2,g3,rfl,rfl⟩|⟨g1,g2,g3,rfl,rfl⟩|⟨g1,g2,rfl,rfl⟩<;>rcases hc2 with ⟨g4,rfl,rfl⟩|⟨g4,rfl,rfl⟩<;>(try cases g4)
 ·rw[show max 1 s2.caps=s2.caps by omega]at h97b;simp +contextual (disch:=omega) only[Tryz.f45,dd45,go_sem,simprocAttr,evAppend,map_append,mu45,↓AE,↓AC,↓AB,↓AA,h97a,h97b,h44,hmx1,hmx2,c1,c2,c3,evMax,Aw,Ar,AK,AP,AJ,As,append_nil];repeat' (first|intro _|apply And.intro|(unfold dOk;kernel_rfl)|exact St.beq_refl _|exact AQ|(show altO _ _ _ _=true;kernel_rfl)|(show (_||_)=true;kernel_rfl)|(show (_&&_)=true;kernel_rfl))
  exact fin _ (ex1 ..)
 ·simp +contextual (disch:=omega) only[Tryz.f45,dd45,go_sem,simprocAttr,evAppend,map_append,mu45,↓AE,↓AC,↓AB,↓AA,h97a,h97b,h44,hmx1,hmx2,c1,c2,c3,evMax,Aw,Ar,AK,AP,AJ,As,append_nil];repeat' (first|intro _|apply And.intro|(unfold dOk;kernel_rfl)|exact St.beq_refl _|exact AQ|(show altO _ _ _ _=true;kernel_rfl)|(show (_||_)=true;kernel_rfl)|(show (_&&_)=true;kernel_rfl))
  exact fin _ (ex1 ..)
 ·first|rw[show max s.caps (s.caps+1)=s.caps+1 by omega]at h44|rw[show max s2.caps (s2.caps+1)=s2.caps+1 by omega]at h44|rw[show max s4.caps (s4.caps+1)=s4.caps+1 by omega]at h44
  simp +contextual (disch:=omega) only[Tryz.f45,dd45,go_sem,simprocAttr,evAppend,map_append,mu45,↓AE,↓AC,↓AB,↓AA,h97a,h97b,h44,hmx1,hmx2,c1,c2,c3,evMax,Aw,Ar,AK,AP,AJ,As,append_nil];repeat' (first|intro _|apply And.intro|(unfold dOk;kernel_rfl)|exact St.beq_refl _|exact AQ|(show altO _ _ _ _=true;kernel_rfl)|(show (_||_)=true;kernel_rfl)|(show (_&&_)=true;kernel_rfl))
  exact fin _ (ex1 ..)
 ·first|rw[show max s.caps (s.caps+1)=s.caps+1 by omega]at h44|rw[show max s2.caps (s2.caps+1)=s2.caps+1 by omega]at h44|rw[show max s4.caps (s4.caps+1)=s4.caps+1 by omega]at h44
  simp +contextual (disch:=omega) only[Tryz.f45,dd45,go_sem,simprocAttr,evAppend,map_append,mu45,↓AE,↓AC,↓AB,↓AA,h97a,h97b,h44,hmx1,hmx2,c1,c2,c3,evMax,Aw,Ar,AK,AP,AJ,As,append_nil];repeat' (first|intro _|apply And.intro|(unfold dOk;kernel_rfl)|exact St.beq_refl _|exact AQ|(show altO _ _ _ _=true;kernel_rfl)|(show (_||_)=true;kernel_rfl)|(show (_&&_)=true;kernel_rfl))
  exact fin _ (ex1 ..)
end
end
end Go.Ev
