/- What functions of the program compute; no further conditions. -/
import Derived.Test.YtkolcijbdendhaaGreatF27
set_option linter.unusedVariables false
set_option linter.unusedSimpArgs false
open List (all_append getElem?_eq_getElem map_append map_cons mem_of_getElem? set_cons_succ take_of_length_le)
open Nat (le_refl zero_le)
open Go.Proofs Go.RowKit Go.IntWalk
set_option maxHeartbeats 4000000
set_option maxRecDepth 100000
namespace Go.Ev
attribute [local go_sem] evBin AV.cells Ax A8 bndO bnd evEq eqCells not_false_eq_true not_true_eq_false toList_some Array.size_empty List.length_append tySzE List.head?_drop Nat.mul_one Aj Aq Ag Ak Al Ae
section
theorem Qd {a b c a' b' c':AV}{H H1 H2 H3:List MB} (h1:fz a H=some (a',H1)) (h2:fz b H1=some (b',H2)) (h3:fz c H2=some (c',H3)):fz (.tup [a,b,c]) H=some (.tup [a',b',c'],H3):=by
 unfold fz at *;simp only[GL,fzL,h1,h2,h3]
theorem IU (x0 x1 x2 x3 x4 x5 y0 y1 y2 y3 y4 y5 b:MB) (K K':List MB):sameAt 6 (x0::x1::x2::x3::x4::x5::b::K) (y0::y1::y2::y3::y4::y5::b::K')=true:=MB.beq_refl b
theorem d11 (p:Pat) (hok:OkD p.re) (hsz:p.re.size<=256) (H:List MB):call Pg pol1 11 [patAV p,I 60] H=some (refA p,H):=by
 have hpl:=Lh p
 have hA:refA p=if badR p.re=true then .tup [noD,I 4,.bool false] else
  match splitA (setsR p.re) (endsR (setsR p.re) (topI p.runes)) (topI p.runes) with
  | none=>.tup [noD,I 4,.bool false]
  | some C=>outR C (autoF 2000 60 (headX C) 2000 [nf p.re] [] []):=rfl
 refine AR Tryz.func11 rfl rfl rfl rfl rfl rfl (fun _=>rfl) (by simp[AV.plainL,AV.plain];exact Av _) hpl ?_ H;rw[hA];clear hA hpl;obtain⟨re,caps,runes⟩:=p;simp only at hok hsz;have hl8:=AK re;have htk8:∀ l,List.take 8 (reC re++l)=reC re:=fun l=>by
  rw[List.take_append_of_le_length (by omega)];exact take_of_length_le (by omega)
 have htk10:List.take 10 (reC re++[I caps,.bool runes])=reC re++[I caps,.bool runes]:=take_of_length_le (by simp[hl8]);have hall:=AP re;have hpc:=Av ⟨re,caps,runes⟩;have h65:=hok.wt65;have h32:=d32 _ re (le_refl _) (by omega) hok;have h34:=d34 _ re (le_refl _) (by omega);have hSl:=EL re;have hSN:=KN hok;have hv:∀ s∈setsR re,SetV s:=fun s hs=>⟨(hSN s hs).sep,fun p hp=>(hSN s hs).good p hp⟩;have h33:=sf39 (setsR re) (topI runes) (by unfold topI;split<;>decide) (Eg _) hv (fun s hs=>Fo (hSN s hs).sep (hSN s hs).good (hSN s hs).len) (by omega) (fun s hs=>(hSN s hs).len);rw[if_neg (by omega)]at h33;have hpos:=fun cls=>EJ (L:=setsR re) (E:=endsR (setsR re) (topI runes)) (top:=topI runes) (cls:=cls);have htop:(runes=false/\topI runes=255)∨(runes=true/\topI runes=1114111):=by cases runes<;>simp[topI]
 unfold resS at h32;rcases htop with ⟨hr,ht⟩|⟨hr,ht⟩
 all_goals
  rw[ht]at h33 hpos |-;cases hbd:badR re with
  | true=>
    rw[hbd,if_pos rfl]at h32;rw[if_pos rfl];simp +contextual -implicitDefEqProofs (disch:=omega) only[Tryz.f11,dd11,go_sem,simprocAttr,evAppend,map_append,mu11,↓AE,↓AC,↓AB,↓AA,h32,hl8,htk8,htk10,hall,all_append,AK,AJ,AP,t8R,d9R,t9R,d10R,hr];exact⟨_,rfl⟩
  | false=>
    rw[hbd,if_neg (by simp)]at h32;rw[if_neg (by simp)];have hS0:=JM hok hsz hbd;clear h65 hSl hSN hv ht;generalize splitA _ _ _=sp at *;generalize setsR re=S at *;generalize nf re=t0 at *;cases sp with
    | none=>
      unfold splitR at h33;simp only;simp +contextual -implicitDefEqProofs (disch:=omega) only[Tryz.f11,dd11,go_sem,simprocAttr,evAppend,map_append,mu11,↓AE,↓AC,↓AB,↓AA,h32,h34,h33,hl8,htk8,htk10,hall,all_append,AK,AJ,AP,t8R,d9R,t9R,d10R,hr];exact⟨_,rfl⟩
    | some C=>
      unfold splitR at h33;simp only;obtain⟨hC1,hC2⟩:=hpos C rfl;clear hpos;simp +contextual -implicitDefEqProofs (disch:=omega) only[Tryz.f11,dd11,go_sem,simprocAttr,evAppend,map_append,mu11,↓AE,↓AC,↓AB,↓AA,h32,h34,h33,hl8,htk8,htk10,hall,all_append,AK,AJ,AP,t8R,d9R,t9R,d10R,hr];obtain⟨b0,hb0⟩:∃ b,b=MB.row 10 [patAV ⟨re,caps,runes⟩] 0:=⟨_,rfl⟩;have u0:∀ n,6<n->MB.under n b0=true:=fun n hn=>by rw[hb0];simp[MB.under,AV.underL,AV.under,AD _ _ hpc]
      rw[hr]at hb0;rw[<- hb0];clear hb0;obtain⟨b5,hb5⟩:∃ b,b=MB.row 8 [.agg (reC t0)] 0:=⟨_,rfl⟩;have u5:∀ n,6<n->MB.under n b5=true:=fun n hn=>by rw[hb5];simp[MB.under,AV.underL,AV.under,AD _ _ (AO t0)]
      have u6:∀ n,6<n->MB.under n (.row 8 [.agg (reC t0)] 0)=true:=fun n hn=>by simp[MB.under,AV.underL,AV.under,AD _ _ (AO t0)]
      generalize hgo:autoF 2000 60 (headX C) 2000 [t0] [] []=o
      refine CZ (σ:=List Re×List (List Nat)×List Bool) (M:=(mskOf (pol1.mask 11) (pol1.gc 11) (pol1.acts 11) 0 14)) (by rfl) (fun s=>(⟨125,[(14,I s.2.1.length),(13,.ms 6 8 s.1.length 0 s.1.length),(11,.sl false (C.map setAV)),(7,.rf 2 1 0 0),(4,.rf 1 1 0 0),(1,I 60)],
        [b0,.row 3 [.agg [.sl true [],.sl true [],.sl true []]] 0,.row 3 [.agg [.sl false (C.map setAV),.ms 3 1 s.2.1.length 0 s.2.1.length,.ms 4 1 s.2.1.length 0 s.2.1.length]] 0,.row 1 (s.2.1.map nsAV) 0,.row 1 (s.2.2.map AV.bool) 0,b5,.row 8 (s.1.map reAV) 0]⟩:St))
       (fun s=>s.1.Nodup/\(∀ t∈s.1,StT t)/\s.1.length<=60/\s.2.1.length<=s.1.length/\s.2.2.length=s.2.1.length/\autoF 2000 60 (headX C) (2000-s.2.1.length) s.1 s.2.1 s.2.2=o) (fun s=>2000-s.2.1.length) ([t0],[],[]) ?_ ⟨by simp,by simpa using hS0,by simp,by simp,rfl,hgo⟩ _ ?_
      ·rintro⟨ts,rows,accs⟩ ⟨hnd,hst,hln,hle,hac,hau⟩;simp only at hnd hst hln hle hac hau;have hCX:(headX C).length=C.length:=by simp[headX]
       obtain⟨fu,hfu⟩:∃ k,2000-rows.length=k+1:=⟨1999-rows.length,by omega⟩;rw[hfu]at hau;unfold autoF at hau;clear h32 h34 h33 hgo hS0 hb5 u6;cases hrr:ts[rows.length]? with
       | none=>
         have hl:¬ (rows.length:Int)<(ts.length:Int):=by
          have:=List.getElem?_eq_none_iff.1 hrr;omega
         rw[hrr]at hau;simp only at hau;rw[<- hau];simp +contextual -implicitDefEqProofs (disch:=omega) only[Tryz.f11,dd11,go_sem,simprocAttr,evAppend,map_append,mu11,↓AE,↓AC,↓AB,↓AA,hl];exact⟨_,Qd (Mh (Ac _ (by simp[AV.plain,AS])) (Az (z:=0) rfl (by simp) (Au _)) (Az (z:=0) rfl (by simp[hac]) (Ad _))) (Ac _ rfl) (Ac _ rfl)⟩
       | some r=>
         have hl:(rows.length:Int)<(ts.length:Int):=by
          have:=(List.getElem?_eq_some_iff.1 hrr).1;omega
         rw[hrr]at hau;simp only at hau;simp +contextual -implicitDefEqProofs (disch:=omega) only[Tryz.f11,dd11,go_sem,simprocAttr,evAppend,map_append,mu11,↓AE,↓AC,↓AB,↓AA,hl]
         refine CZ (σ:=List Re×List Nat) (M:=(mskOf (pol1.mask 11) (pol1.gc 11) (pol1.acts 11) 0 18)) (by rfl) (fun s=>(⟨125,[(16,I s.2.length),(15,.ms 7 1 s.2.length 0 s.2.length),(14,I rows.length),(13,.ms 6 8 s.1.length 0 s.1.length),(11,.sl false (C.map setAV)),(7,.rf 2 1 0 0),(4,.rf 1 1 0 0),(1,I 60)],
           [b0,.row 3 [.agg [.sl true [],.sl true [],.sl true []]] 0,.row 3 [.agg [.sl false (C.map setAV),.ms 3 1 rows.length 0 rows.length,.ms 4 1 rows.length 0 rows.length]] 0,.row 1 (rows.map nsAV) 0,.row 1 (accs.map AV.bool) 0,b5,.row 8 (s.1.map reAV) 0,.row 1 (s.2.map NV) 0]⟩:St))
          (fun s=>s.1.Nodup/\(∀ t∈s.1,StT t)/\s.1.length<=60+s.2.length/\s.1[rows.length]?=some r/\s.2.length<=C.length/\rowD 2000 r ((headX C).take s.2.length) ts=some s) (fun s=>C.length-s.2.length) (ts,[]) ?_ ⟨hnd,hst,hln,hrr,by simp,rfl⟩ _ ?_
         ·rintro⟨tj,row⟩ ⟨jnd,jst,jln,jr,jrl,jrow⟩;simp only at jnd jst jln jr jrl jrow;have jget:(tj.map reAV)[rows.length]?=some (reAV r):=by simp[jr]
          have hSr:StT r:=jst r (mem_of_getElem? jr);have jrlt:(rows.length:Int)<(tj.length:Int):=by
           have:=(List.getElem?_eq_some_iff.1 jr).1;omega
          by_cases hj:row.length<C.length
          ·have hj':(row.length:Int)<(C.length:Int):=by omega
           obtain⟨cl,hcl⟩:∃ c,C[row.length]?=some c:=⟨_,getElem?_eq_getElem hj⟩;obtain⟨x,y,hx1,hx2,hx3⟩:=IS hcl (hC2 cl (mem_of_getElem? hcl));have h35:=d35 hSr.size hSr.nf.ok x;have hsd:=IW (lim:=2000) (r:=r) (ts:=ts) hx3;rw[jrow]at hsd;have hclt:(0:Int)<(cl.length:Int):=by
            have:=hC2 cl (mem_of_getElem? hcl);omega
           cases hs:stepR x r with
           | none=>
             rw[hs]at h35;simp only[stepD,hs]at hsd;rw[FE hsd]at hau;simp only at hau;rw[<- hau];unfold resA at h35;have e35:=DS h35 (by simp[AV.underL,AV.under,AD _ _ (AO r)]) (by simp[AV.underL,AV.under,AD _ _ (AO emptyR)]);simp +contextual -implicitDefEqProofs (disch:=omega) only[Tryz.f11,dd11,go_sem,simprocAttr,evAppend,map_append,mu11,↓AE,↓AC,↓AB,↓AA,hj',hx1,hx2,hclt,jget,jrlt,e35,IU,Bool.or_true,Bool.and_self,AK,AJ,AP];exact⟨rfl,rfl,_,rfl⟩
           | some q=>
             rw[hs]at h35;have hSq:=KI hSr hs;simp only[stepD,hs]at hsd;unfold resA at h35;have e35:=DS h35 (by simp[AV.underL,AV.under,AD _ _ (AO r)]) (by simp[AV.underL,AV.under,AD _ _ (AO q)]);simp +contextual -implicitDefEqProofs (disch:=omega) only[Tryz.f11,dd11,go_sem,simprocAttr,evAppend,map_append,mu11,↓AE,↓AC,↓AB,↓AA,hj',hx1,hx2,hclt,jget,jrlt,e35,IU,Bool.or_true,Bool.and_self,AK,AJ,AP];have hrl:row.length<=1024:=by omega
             have a1:=fun(k:Nat) (c0 c1 c2 c3 c4 c5 c6 c8:MB) (t:Bool)=>Su (H:=[c0,c1,c2,c3,c4,c5,c6,.row 1 (row.map NV) 0,c8]) (i:=7) (n:=row.length) (rs:=row) (c:=k) (t:=t) rfl rfl (by omega);simp only[set_cons_succ,List.set_cons_zero]at a1;refine⟨rfl,rfl,?_⟩
             refine CZ (σ:=Nat) (M:=(mskOf (pol1.mask 11) (pol1.gc 11) (pol1.acts 11) 0 24)) (by rfl) (fun k=>(⟨125,[(19,I k),(17,.rf 8 1 0 0),(16,I row.length),(15,.ms 7 1 row.length 0 row.length),(14,I rows.length),(13,.ms 6 8 tj.length 0 tj.length),(11,.sl false (C.map setAV)),(7,.rf 2 1 0 0),(4,.rf 1 1 0 0),(1,I 60)],
               [b0,.row 3 [.agg [.sl true [],.sl true [],.sl true []]] 0,.row 3 [.agg [.sl false (C.map setAV),.ms 3 1 rows.length 0 rows.length,.ms 4 1 rows.length 0 rows.length]] 0,.row 1 (rows.map nsAV) 0,.row 1 (accs.map AV.bool) 0,b5,.row 8 (tj.map reAV) 0,.row 1 (row.map NV) 0,.row 8 [reAV q] 0]⟩:St))
              (fun k=>k<=tj.length/\q ∉ tj.take k) (fun k=>tj.length-k) 0 ?_ ⟨zero_le _,by simp⟩ _ ?_
             ·rintro k ⟨k1,k2⟩;by_cases hk:k<tj.length
              ·have hk':(k:Int)<(tj.length:Int):=by omega
               obtain⟨t,ht2⟩:∃ t,tj[k]?=some t:=⟨_,getElem?_eq_getElem hk⟩;have hkt:(tj.map reAV)[k]?=some (reAV t):=by simp[ht2]
               have h36:=d36 _ t q (le_refl _) (by have:=(jst t (mem_of_getElem? ht2)).wt;omega) (by have:=hSq.wt;omega);by_cases hcm:cmpR t q=0
               ·obtain rfl:=BN hcm;rw[hcm]at h36;rw[DI (mem_of_getElem? ht2),G5 jnd ht2,if_neg (by omega)]at hsd;simp +contextual -implicitDefEqProofs (disch:=omega) only[Tryz.f11,dd11,go_sem,simprocAttr,mu11,↓AE,↓AC,↓AB,↓AA,hk',hkt,h36,a1,IU,Bool.or_true,Bool.and_self,AK,AJ,AP];have e10:row.length+1=(row++[k]).length:=by simp
                refine⟨rfl,(tj,row++[k]),⟨jnd,jst,by simp;omega,jr,by simp;omega,by rw[<- e10];exact hsd⟩,by simp;omega,?_⟩;rw[e10];generalize row++[k]=row2;exact AN (n:=8) rfl rfl (by rfl) (by rfl) (by simp[AV.underL,AV.under,AD _ _ (AS C)]) (by simp[und_row,Ci,AV.underL,AV.under,u0,u5,AD _ _ (AS C),AD _ _ (Au rows),AD _ _ (Ad accs),AD _ _ (AH tj),AD _ _ (B5 row2)])
               ·simp +contextual -implicitDefEqProofs (disch:=omega) only[Tryz.f11,dd11,go_sem,simprocAttr,evAppend,map_append,mu11,↓AE,↓AC,↓AB,↓AA,hk',hkt,h36,hcm,IU,Bool.or_true,Bool.and_self,AK,AJ,AP];refine⟨rfl,k+1,⟨hk,?_⟩,by omega,?_⟩
                ·rw[AZ ht2,List.mem_append,List.mem_singleton];rintro(h|rfl)
                 ·exact k2 h
                 ·exact hcm (Cg _)
                ·exact AN (n:=9) rfl rfl (by rfl) (by rfl) (by simp[AV.underL,AV.under,AD _ _ (AS C)]) (by simp[und_row,Ci,AV.underL,AV.under,u0,u5,AD _ _ (AS C),AD _ _ (Au rows),AD _ _ (Ad accs),AD _ _ (AH tj),AD _ _ (B5 row),AD _ _ (AO q)])
              ·have hk':¬ (k:Int)<(tj.length:Int):=by omega
               obtain rfl:k=tj.length:=by omega
               rw[List.take_length]at k2;have hnd2:=Ea (q:=q) jnd;rw[Cp k2]at hsd hnd2;rw[G5 (b:=tj.length) hnd2 (by simp),if_neg (by simp;omega)]at hsd;have a2:=fun(c0 c1 c2 c3 c4 c5 c7 c8:MB) (t:Bool)=>BY (H:=[c0,c1,c2,c3,c4,c5,.row 8 (tj.map reAV) 0,c7,c8]) (i:=6) (n:=tj.length) (rs:=tj) (z:=0) (x:=q) (t:=t) rfl (zero_le _) rfl (by omega);have a1:=a1 tj.length;simp only[set_cons_succ,List.set_cons_zero]at a2;simp +contextual -implicitDefEqProofs (disch:=omega) only[Tryz.f11,dd11,go_sem,simprocAttr,mu11,↓AE,↓AC,↓AB,↓AA,hk',a1,a2,IU,Bool.or_true,Bool.and_self,AK,AJ,AP];have e10:row.length+1=(row++[tj.length]).length:=by simp
               have e11:tj.length+1=(tj++[q]).length:=by simp
               refine⟨rfl,(tj++[q],row++[tj.length]),⟨hnd2,fun t ht=>?_,by simp;omega,?_,by simp;omega,by rw[<- e10];exact hsd⟩,by simp;omega,?_⟩
               ·rcases List.mem_append.1 ht with h|h
                ·exact jst t h
                ·rw[List.mem_singleton.1 h];exact hSq
               ·simp only;rw[List.getElem?_append_left (List.getElem?_eq_some_iff.1 jr).1];exact jr
               ·rw[e10,e11];generalize row++[tj.length]=row2;generalize tj++[q]=tj2;exact AN (n:=8) rfl rfl (by rfl) (by rfl) (by simp[AV.underL,AV.under,AD _ _ (AS C)]) (by simp[und_row,Ci,AV.underL,AV.under,u0,u5,AD _ _ (AS C),AD _ _ (Au rows),AD _ _ (Ad accs),AD _ _ (AH tj2),AD _ _ (B5 row2)])
             ·exact AN (n:=9) rfl rfl (by rfl) (by rfl) (by simp[AV.underL,AV.under,AD _ _ (AS C)]) (by simp[und_row,Ci,AV.underL,AV.under,u0,u5,AD _ _ (AS C),AD _ _ (Au rows),AD _ _ (Ad accs),AD _ _ (AH tj),AD _ _ (B5 row),AD _ _ (AO q)])
          ·have hj':¬ (row.length:Int)<(C.length:Int):=by omega
           have hjl:row.length=C.length:=by omega
           rw[hjl]at jrow;rw[show (headX C).take C.length=headX C from take_of_length_le (by omega)]at jrow;rw[jrow]at hau;simp only at hau;by_cases hbig:60<tj.length
           ·have hbig':(60:Int)<(tj.length:Int):=by omega
            rw[if_pos hbig]at hau;rw[<- hau];simp +contextual -implicitDefEqProofs (disch:=omega) only[Tryz.f11,dd11,go_sem,simprocAttr,evAppend,map_append,mu11,↓AE,↓AC,↓AB,↓AA,hj',hbig'];exact⟨_,rfl⟩
           ·have hbig':¬ (60:Int)<(tj.length:Int):=by omega
            rw[if_neg hbig]at hau;have h37:=f20 _ r (le_refl _) (by have:=hSr.wt;omega);have a1:=fun(b0 b1 b2 b4 b5 b6 b7:MB) (t:Bool)=>Ra (H:=[b0,b1,b2,.row 1 (rows.map nsAV) 0,b4,b5,b6,b7]) (i:=3) (n:=rows.length) (x:=.ms 7 1 row.length 0 row.length) (t:=t) rfl (zero_le _) (List.length_map _) (by omega) rfl rfl;have a2:=fun(b0 b1 b2 b3 b5 b6 b7:MB) (t:Bool)=>Pf (H:=[b0,b1,b2,b3,.row 1 (accs.map AV.bool) 0,b5,b6,b7]) (i:=4) (n:=rows.length) (x:=nullG r) (t:=t) rfl (zero_le _) hac (by omega);simp only[set_cons_succ,List.set_cons_zero]at a1 a2;have hz:∀ b0 b1 b2 b3 b4 b5 b6:MB,fzs (rows.map nsAV++[.ms 7 1 row.length 0 row.length]) [b0,b1,b2,b3,b4,b5,b6,.row 1 (row.map NV) 0]=some (rows.map nsAV++[nsAV row],[b0,b1,b2,b3,b4,b5,b6,.row 1 (row.map NV) row.length]):=fun b0 b1 b2 b3 b4 b5 b6=>by
             refine HC ?_ _ (Au rows);have:=PI (id:=7) (z:=0) (H:=[b0,b1,b2,b3,b4,b5,b6,.row 1 (row.map NV) 0]) rfl (rfl:row.length=row.length);unfold fz at this;rw[this];simp[mark,getRow]
            have hbq:=AV.beqL_refl (rows.map nsAV++[.ms 7 1 row.length 0 row.length]);simp +contextual -implicitDefEqProofs (disch:=omega) only[Tryz.f11,dd11,go_sem,simprocAttr,mu11,↓AE,↓AC,↓AB,↓AA,hj',hbig',a1,hz,hbq,jget,jrlt,h37,a2,IU,Bool.or_true,Bool.and_self,AK,AJ,AP];have e9:rows.map nsAV++[nsAV row]=(rows++[row]).map nsAV:=by rw[map_append];rfl
            have e10:rows.length+1=(rows++[row]).length:=by simp
            refine⟨rfl,rfl,(tj,rows++[row],accs++[nullG r]),⟨jnd,jst,by simp only;omega,by have:=(List.getElem?_eq_some_iff.1 jr).1;simp;omega,by simp[hac],?_⟩,by simp;omega,?_⟩
            ·show autoF 2000 60 (headX C) (2000-(rows++[row]).length) tj (rows++[row]) (accs++[nullG r])=o;rw[show 2000-(rows++[row]).length=fu by simp;omega];exact hau
            ·rw[e9,e10];generalize rows++[row]=rows2;generalize accs++[nullG r]=accs2;exact AN (n:=7) rfl rfl (by rfl) (by rfl) (by simp[AV.underL,AV.under,AD _ _ (AS C)]) (by simp[und_row,Ci,AV.underL,AV.under,u0,u5,AD _ _ (AS C),AD _ _ (Au rows2),AD _ _ (Ad accs2),AD _ _ (AH tj)])
         ·exact AN (n:=8) rfl rfl (by rfl) (by rfl) (by simp[AV.underL,AV.under,AD _ _ (AS C)]) (by simp[und_row,Ci,AV.underL,AV.under,u0,u5,AD _ _ (AS C),AD _ _ (Au rows),AD _ _ (Ad accs),AD _ _ (AH ts)])
      ·rw[hb5];exact AN (n:=7) rfl rfl (by rfl) (by rfl) (by simp[AV.underL,AV.under,AD _ _ (AS C)]) (by simp[und_row,Ci,AV.underL,AV.under,u0,u5,AD _ _ (AS C),AD _ _ (AO t0)])
end
section
attribute [local go_sem] evAppend map_append
theorem Gg (L:List Pat):AV.plainL (L.map patAV)=true:=by
 induction L with
 | nil=>rfl
 | cons p L ih=>simp only[map_cons,AV.plainL,ih,Bool.and_true];exact Av p
theorem okP (p:Pat):(patC p).all AV.ok=true:=by
 show (reC p.re++[I p.caps,.bool p.runes]).all AV.ok=true;rw[all_append,AP];rfl
end
section
attribute [local go_sem] evAppend map_append
abbrev Pt2 (l:List Int) (uses:Int) (runes:Bool):List Pat:=[⟨treeI l 16,4,runes⟩,pattI l (aroundI uses 128) 14]
theorem law3 (h14:∀ H,call Pg pol1 14 [] H=some (.bool true,H)) (l:List Int) (uses:Int) (runes:Bool) (hl:∀ x∈l,In64 x) (hu:In64 uses) (H:List MB) :
  call Pg pol1 3 [.sl false (l.map I),I uses,.bool runes] H=some (.bool true,H):=by
 refine AR Tryz.func3 rfl rfl rfl rfl rfl rfl (fun _=>rfl) (by simp[AV.plain,AV.plainL,AG]) rfl ?_ H;have h6:=f6 l hl 16 (by omega);have h8:=f12 uses 128 hu (by omega);have h7:=f7 l hl (aroundI uses 128) 14 (by omega);obtain⟨L,hL⟩:∃ L,Pt2 l uses runes=L:=⟨_,rfl⟩;have hpp:=fun p:Pat=>show patAV p=.agg (reC p.re++[I p.caps,.bool p.runes]) from rfl;simp +contextual -implicitDefEqProofs (disch:=omega) only[Tryz.f3,dd3,go_sem,simprocAttr,mu3,↓AE,↓AC,↓AB,↓AA,h6,h8,h7,AK,AJ,AP,t8R,d9R,t9R,d10R,List.length_append,List.append_assoc,List.cons_append,List.nil_append,okP,all_append,AV.ok];refine AY (M:=(mskOf (pol1.mask 3) (pol1.gc 3) (pol1.acts 3) 0 3)) (by rfl) 2 (fun i=>(⟨146,[(8,I i),(7,.sl true (L.map patAV))],[]⟩:St)) (fun _=>True) ?_ ?_ trivial _ ?_
 ·intro i hi _;obtain⟨p,hp⟩:∃ p,L[i]?=some p:=⟨_,getElem?_eq_getElem (by rw[<- hL];exact hi)⟩;have hp':(L.map patAV)[i]?=some (patAV p):=by simp[hp]
  have hpw:p.re.wt<=2000:=by
   have:=mem_of_getElem? hp;rw[<- hL]at this;simp only[List.mem_cons,List.not_mem_nil,or_false]at this;rcases this with rfl|rfl
   ·exact OP l 16
   ·exact Oh l _ 14
  have hi2:(i:Int)<2:=by omega
  have hpl:AV.plainL (L.map patAV)=true:=Gg L;have hLl:L.length=2:=by rw[<- hL];rfl
  clear h6 h8 h7;have h9:=d9 p (by omega);have h10:=d10 p (by omega);have hpo:=okP p;have hpn:(patC p).length=10:=by simp[patC,AK]
  have hpt:(patC p).take 10=patC p:=take_of_length_le (by omega);by_cases hc:chkP p=0
  ·have h11:=d11 p (J3 hc).1 (J3 hc).2.1;rw[hc]at h10;rcases N7 hc with hb|⟨C,rows,accs,e,ha,hb,hac,hrl,hCl,hrow,hcl⟩
   ·obtain⟨C,rows,accs,e,ha⟩:=Pb p;rw[hb]at h11;rw[ha]at h9;simp only[noD,autD]at h9 h11;simp +contextual -implicitDefEqProofs (disch:=omega) only[Tryz.f3,dd3,go_sem,simprocAttr,mu3,↓AE,↓AC,↓AB,↓AA,h9,h10,h11,hc,hp',hi2,hLl,hpn,hpt,hpo];exact AN (n:=0) rfl rfl (by rfl) (by rfl) (by simp[AV.underL,AV.under,AD _ _ hpl]) rfl
   ·rw[hb]at h11;rw[ha]at h9;have hpA:AV.plainL [autD C rows accs]=true:=by simp[autD,AV.plain,AV.plainL,AS,Au,Ad]
    simp only[autD]at h9 h11 hpA;simp +contextual -implicitDefEqProofs (disch:=omega) only[Tryz.f3,dd3,go_sem,simprocAttr,mu3,↓AE,↓AC,↓AB,↓AA,h9,h10,h11,hc,hac,hp',hi2,hLl,hpn,hpt,hpo];refine AY (M:=(mskOf (pol1.mask 3) (pol1.gc 3) (pol1.acts 3) 0 15)) (by rfl) C.length (fun k=>(⟨146,[(15,I k),(12,.rf 1 1 0 0),(9,.rf 0 1 0 0),(8,I i),(7,.sl true (L.map patAV))],[.row 3 [.agg [.sl false (C.map setAV),.sl false (rows.map nsAV),.sl false (accs.map AV.bool)]] 0,.row 3 [.agg [.sl false (C.map setAV),.sl false (rows.map nsAV),.sl false (accs.map AV.bool)]] 0]⟩:St)) (fun _=>True) ?_ ?_ trivial _ ?_
    ·intro k hk _;have hk':(k:Int)<(C.length:Int):=by omega
     obtain⟨c,hcc⟩:∃ c,C[k]?=some c:=⟨_,getElem?_eq_getElem hk⟩;have hc1:(C.map setAV)[k]?=some (setAV c):=by simp[hcc]
     have hcl2:=hcl c (mem_of_getElem? hcc);have h12:∀ H,call Pg pol1 12 [setAV c,setAV c] H=some (.bool true,H):=fun H=>(d12 c c (by omega) (by omega) H).trans (by simp);have hwi:IntKind.i64.wrap ((k:Int)+1)=((k+1:Nat):Int):=by rw[i64_in]<;>omega
     simp +contextual -implicitDefEqProofs (disch:=omega) only[Tryz.f3,dd3,go_sem,simprocAttr,mu3,↓AE,↓AC,↓AB,↓AA,hk',hc1,h12,hwi];exact⟨rfl,AN (n:=2) rfl rfl (by rfl) (by rfl) (by simp[AV.underL,AV.under,AD _ _ hpl]) (by simp[MB.under,AV.underL,AV.under,AD _ _ (AS C),AD _ _ (Au rows),AD _ _ (Ad accs)])⟩
    ·intro _;have hk':¬ (C.length:Int)<(C.length:Int):=by omega
     simp +contextual -implicitDefEqProofs (disch:=omega) only[Tryz.f3,dd3,go_sem,simprocAttr,mu3,↓AE,↓AC,↓AB,↓AA,hk'];refine AY (M:=(mskOf (pol1.mask 3) (pol1.gc 3) (pol1.acts 3) 0 20)) (by rfl) rows.length (fun k=>(⟨146,[(16,I k),(12,.rf 1 1 0 0),(9,.rf 0 1 0 0),(8,I i),(7,.sl true (L.map patAV))],[.row 3 [.agg [.sl false (C.map setAV),.sl false (rows.map nsAV),.sl false (accs.map AV.bool)]] 0,.row 3 [.agg [.sl false (C.map setAV),.sl false (rows.map nsAV),.sl false (accs.map AV.bool)]] 0]⟩:St)) (fun _=>True) ?_ ?_ trivial _ ?_
     ·intro k hk _;have hk':(k:Int)<(rows.length:Int):=by omega
      obtain⟨row,hr⟩:∃ c,rows[k]?=some c:=⟨_,getElem?_eq_getElem hk⟩;obtain⟨v,hv⟩:∃ c,accs[k]?=some c:=⟨_,getElem?_eq_getElem (by omega)⟩;have hr1:(rows.map nsAV)[k]?=some (nsAV row):=by simp[hr]
      have hv1:(accs.map AV.bool)[k]?=some (.bool v):=by simp[hv]
      have hrl2:=hrow row (mem_of_getElem? hr);have h13:∀ H,call Pg pol1 13 [nsAV row,nsAV row] H=some (.bool true,H):=fun H=>by
       have:=d13 (row.map fun n:Nat=>(n:Int)) (row.map fun n:Nat=>(n:Int)) (by simp;omega) (by simp;omega) H;rw[List.map_map]at this;exact this.trans (by simp)
      have hwi:IntKind.i64.wrap ((k:Int)+1)=((k+1:Nat):Int):=by rw[i64_in]<;>omega
      simp +contextual -implicitDefEqProofs (disch:=omega) only[Tryz.f3,dd3,go_sem,simprocAttr,mu3,↓AE,↓AC,↓AB,↓AA,hk',hr1,hv1,h13,hwi,hac];exact⟨rfl,fun _=>AN (n:=2) rfl rfl (by rfl) (by rfl) (by simp[AV.underL,AV.under,AD _ _ hpl]) (by simp[MB.under,AV.underL,AV.under,AD _ _ (AS C),AD _ _ (Au rows),AD _ _ (Ad accs)]),fun h=>absurd rfl h⟩
     ·intro _;have hk':¬ (rows.length:Int)<(rows.length:Int):=by omega
      simp +contextual -implicitDefEqProofs (disch:=omega) only[Tryz.f3,dd3,go_sem,simprocAttr,mu3,↓AE,↓AC,↓AB,↓AA,hk'];exact AN (n:=0) rfl rfl (by rfl) (by rfl) (by simp[AV.underL,AV.under,AD _ _ hpl]) rfl
     ·exact AN (n:=2) rfl rfl (by rfl) (by rfl) (by simp[AV.underL,AV.under,AD _ _ hpl]) (by simp[MB.under,AV.underL,AV.under,AD _ _ (AS C),AD _ _ (Au rows),AD _ _ (Ad accs)])
    ·exact AN (n:=2) rfl rfl (by rfl) (by rfl) (by simp[AV.underL,AV.under,AD _ _ hpl]) (by simp[MB.under,AV.underL,AV.under,AD _ _ (AS C),AD _ _ (Au rows),AD _ _ (Ad accs)])
  ·have hA:autoA p=.tup [noD,I (chkP p)]:=by
    unfold autoA;exact if_pos hc
   rw[hA]at h9;simp only[noD]at h9;simp +contextual -implicitDefEqProofs (disch:=omega) only[Tryz.f3,dd3,go_sem,simprocAttr,mu3,↓AE,↓AC,↓AB,↓AA,h9,h10,hc,hp',hi2,hLl,hpn,hpt,hpo];exact AN (n:=0) rfl rfl (by rfl) (by rfl) (by simp[AV.underL,AV.under,AD _ _ hpl]) rfl
 ·intro _;have hi2:¬ ((2:Nat):Int)<2:=by omega
  simp +contextual -implicitDefEqProofs (disch:=omega) only[Tryz.f3,dd3,go_sem,simprocAttr,mu3,↓AE,↓AC,↓AB,↓AA,hi2,h14];exact⟨_,rfl⟩
 ·have hpl:=Gg L;rw[<- hL]at hpl |-;exact AN (n:=0) rfl rfl (by rfl) (by rfl) (by simp only[map_cons,List.map_nil,AV.underL,AV.under,AD _ _ (Av _)];rfl) rfl
end
end Go.Ev
namespace Go.Ev
theorem QS (l:List Int) (hl:∀ x∈l,In64 x) (uses:Int) (hu:In64 uses) (runes:Bool) (H:List MB) :
 call Pg pol1 3 [.sl false (l.map I),I uses,.bool runes] H=some (.bool true,H):=law3 d14 l uses runes hl hu H
end Go.Ev
