/- What functions of the program compute; no further conditions. -/
import Derived.Test.YtjgmfjneajcbmaaGreatF14
set_option linter.unusedVariables false
set_option linter.unusedSimpArgs false
open List (append_assoc cons_append ext_getElem? getElem?_append_left getElem?_append_right getElem?_eq_getElem getElem?_eq_none getElem?_of_mem getElem?_set_ne getElem?_set_self length_append map_append mem_append mem_filter mem_map mem_of_getElem? mem_singleton nil_append set_append_right)
open Nat (le_refl lt_or_ge sub_self zero_le)
open Go.Proofs Go.RowKit Go.IntWalk
set_option maxHeartbeats 8000000
set_option maxRecDepth 100000
namespace Go.Ev
attribute [local go_sem] AV.ok Av BG bndO bnd evEq eqCells not_false_eq_true not_true_eq_false Af Array.size_empty tySzE List.head?_drop Nat.mul_one AR AY AP AS AT Ad
section
attribute [local go_sem] evAppend evBin AV.cells frzB length_append map_append
def KeepsLow (P:Nat->Prop) (H H':List MB):Prop:=H.length<=H'.length/\∀ i,P i->H'[i]?=H[i]?
theorem KeepsLow.refl (P:Nat->Prop) (H:List MB):KeepsLow P H H:=⟨le_refl _,fun _ _=>rfl⟩
theorem KeepsLow.trans {P:Nat->Prop}{H H' H'':List MB} (h:KeepsLow P H H') (h2:KeepsLow P H' H''):KeepsLow P H H'':=⟨Nat.le_trans h.1 h2.1,fun i hi=>(h2.2 i hi).trans (h.2 i hi)⟩
theorem Lay2.le_refl (a:Lay2):a.le a:=⟨fun _ _ h=>h,fun _ _ h=>h⟩
theorem Lay2.le_trans {a b c:Lay2} (h:a.le b) (h2:b.le c):a.le c:=⟨fun i x hx=>h2.1 i x (h.1 i x hx),fun i x hx=>h2.2 i x (h.2 i x hx)⟩
section
variable {ins:List Ins}{first:List Nat}{size:Nat}{P:Nat->Prop}{D C:Nat}{a:Lay2}{c:CS}{H:List MB}
theorem DI.st_at (h:DI ins first size P D C a c H) {t:Nat}{x:List Nat×Nat} (ht:a.st t=some x):t<H.length/\t≠D/\t≠C:=by
 obtain⟨l,f⟩:=x;obtain⟨b,m,h1,_⟩:=h.st t l f ht;refine⟨(List.getElem?_eq_some_iff.1 h1).1,fun e=>?_,fun e=>?_⟩
 ·rw[e,h.d]at h1;simp at h1
 ·obtain⟨es,h2,_⟩:=h.cache;rw[e,h2]at h1;cases h1
theorem DI.nx_at (h:DI ins first size P D C a c H) {q:Nat}{x:List Nat} (hq:a.nx q=some x):q<H.length/\q≠D/\q≠C:=by
 obtain⟨es',h1,_⟩:=h.nx q x hq;refine⟨(List.getElem?_eq_some_iff.1 h1).1,fun e=>?_,fun e=>?_⟩
 ·rw[e,h.d]at h1;cases h1
 ·obtain⟨es,h2,_⟩:=h.cache;rw[e,h2]at h1;simp at h1
theorem DI.dead (h:DI ins first size P D C a c H) (x:MB) (hx:x=.row 3 [stAV true [] .nilm 0] 0) :
  DI ins first size P D C ⟨fun i=>if i=H.length then some ([],0) else a.st i,a.nx⟩ c (H++[x])/\a.le ⟨fun i=>if i=H.length then some ([],0) else a.st i,a.nx⟩:=by
 have old:∀ i,i<H.length->(H++[x])[i]?=H[i]?:=fun i hi=>getElem?_append_left hi;have hD:=(List.getElem?_eq_some_iff.1 h.d).1;obtain⟨es,hC,hes,hce⟩:=h.cache;have hCl:=(List.getElem?_eq_some_iff.1 hC).1;have hne:∀ t y,a.st t=some y->t≠H.length:=fun t y ht=>by have:=(h.st_at ht).1;omega
 have hle:a.le ⟨fun i=>if i=H.length then some ([],0) else a.st i,a.nx⟩:=⟨fun i y hy=>by simp[hne i y hy,hy],fun _ _ h=>h⟩;refine⟨⟨by rw[old _ hD];exact h.d,⟨fun i hi=>by rw[length_append];have:=h.lo.1 i hi;omega,h.lo.2.1,fun i y hy=>?_,h.lo.2.2.2⟩,⟨es,by rw[old _ hCl];exact hC,hes,fun i l hi=>?_⟩,fun t l f ht=>?_,fun q l hq=>?_,h.small⟩,hle⟩
 ·simp only at hy;split at hy
  ·rename_i e;exact fun hp=>by have:=h.lo.1 i hp;omega
  ·exact h.lo.2.2.1 i y hy
 ·obtain⟨b1,b2,t,b3,b4⟩:=hce i l hi;exact⟨b1,b2,t,b3,hle.1 _ _ b4⟩
 ·simp only at ht;split at ht
  ·rename_i e;cases ht;subst e;exact⟨true,.nilm,by simp[hx],(fun n hn=>by cases hn),zero_le _,zero_le _,fun h=>absurd rfl h,fun h=>absurd rfl h⟩
  ·obtain⟨b,m,c1,c2,c3,c4,c5,c6⟩:=h.st t l f ht;exact⟨b,m,by rw[old _ (h.st_at ht).1];exact c1,c2,c3,c4,c5,c6⟩
 ·obtain⟨es',d1,d2⟩:=h.nx q l hq;refine⟨es',by rw[old _ (h.nx_at hq).1];exact d1,fun k v hm=>?_⟩;obtain⟨y,t,f,e1,e2,e3⟩:=d2 k v hm;exact⟨y,t,f,e1,e2,hle.1 _ _ e3⟩
abbrev layN (a:Lay2) (n:Nat) (l:List Nat) (f:Nat):Lay2:=⟨fun i=>if i=n+1 then some (l,f) else a.st i,fun i=>if i=n then some l else a.nx i⟩
theorem DI.made (h:DI ins first size P D C a c H) {l:List Nat} (hl:∀ n∈l,n<ins.length) (hll:l.length<=ins.length) (h0:l≠[]) (hN:ins.length<=8192) (c':CS) (es':List (AV×AV)) (hes:es'.length=c'.L.length)
  (hc:∀(i:Nat) (l':List Nat),c'.L[i]?=some l'->(l' = l/\es'[i]?=some (AV.str (keyS l),AV.rf (H.length+1) 1 0 0))∨(c'.emptied=c.emptied/\∃ es:List (AV×AV),H[C]?=some (.mp .str es)/\c.L[i]?=some l'/\es'[i]?=es[i]?))
  (he:c.emptied<=c'.emptied) (hin:l∈c'.L) (hold:c'.emptied=c.emptied->∀ x∈c.L,x∈c'.L) (hold2:c'.emptied=c.emptied∨c.emptied<c'.emptied)
  (hs:c'.made<=4000000000000/\c'.emptied<=c'.made/\c'.L.length<=size/\1<=size/\size<=1024) :
  DI ins first size P D C (layN a H.length l c'.emptied) c' (own2 H D C (.row 6 [dfaAV ins first size C c'] 0) (.mp .str es') [.mp (.int .i64) [],.row 3 [stAV false l (.mpr H.length) c'.emptied] 0])/\a.le (layN a H.length l c'.emptied):=by
 have hDl:=(List.getElem?_eq_some_iff.1 h.d).1;obtain⟨es,hC,hes0,hce⟩:=h.cache;have hCl:=(List.getElem?_eq_some_iff.1 hC).1;have hDC:D≠C:=fun e=>by rw[<- e,h.d]at hC;cases hC
 have hne:∀ t y,a.st t=some y->t≠H.length+1:=fun t y ht=>by have:=(h.st_at ht).1;omega
 have hne2:∀ t y,a.nx t=some y->t≠H.length:=fun t y ht=>by have:=(h.nx_at ht).1;omega
 have hle:a.le (layN a H.length l c'.emptied):=⟨fun i y hy=>by simp[layN,hne i y hy,hy],fun i y hy=>by simp[layN,hne2 i y hy,hy]⟩;have hlo:=h.lo;refine⟨⟨OI hDl hCl hDC _ _ _,⟨fun i hi=>by rw[DT];have:=hlo.1 i hi;omega,hlo.2.1,fun i y hy=>?_,fun i y hy=>?_⟩,⟨es',OJ hDl hCl hDC _ _ _,hes,fun i l' hi=>?_⟩,fun t l' f ht=>?_,fun q l' hq=>?_,hs⟩,hle⟩
 ·simp only[layN]at hy;split at hy
  ·exact fun hp=>by have:=hlo.1 i hp;omega
  ·exact hlo.2.2.1 i y hy
 ·simp only[layN]at hy;split at hy
  ·exact fun hp=>by have:=hlo.1 i hp;omega
  ·exact hlo.2.2.2 i y hy
 ·rcases hc i l' hi with ⟨rfl,e2⟩|⟨e1,es0,e2,e3,e4⟩
  ·exact⟨h0,fun n hn=>by have:=hl n hn;omega,_,e2,by simp[layN]⟩
  ·rw[hC]at e2;cases e2;obtain⟨b1,b2,t,b3,b4⟩:=hce i l' e3;exact⟨b1,b2,t,by rw[e4];exact b3,(hle.1 _ _ b4).trans (by rw[e1])⟩
 ·simp only[layN]at ht;split at ht
  ·rename_i e;simp only[Option.some.injEq,Prod.mk.injEq]at ht;obtain⟨rfl,rfl⟩:=ht;subst e;exact⟨false,.mpr H.length,by rw[KP];rfl,hl,hll,le_refl _,fun _ _=>hin,fun _=>⟨rfl,_,rfl,by simp[layN]⟩⟩
  ·obtain⟨b,m,c1,c2,c3,c4,c5,c6⟩:=h.st t l' f ht;obtain⟨g1,g2,g3⟩:=h.st_at ht;refine⟨b,m,by rw[JP _ _ _ g2 g3 g1];exact c1,c2,c3,by omega,fun z1 z2=>?_,fun z1=>?_⟩
   ·rcases hold2 with e|e
    ·exact hold e l' (c5 z1 (by omega))
    ·omega
   ·obtain⟨z,q,k1,k2⟩:=c6 z1;exact⟨z,q,k1,hle.2 _ _ k2⟩
 ·simp only[layN]at hq;split at hq
  ·rename_i e;subst e;exact⟨[],by have:=KP (H:=H) (D:=D) (C:=C) (.row 6 [dfaAV ins first size C c'] 0) (.mp .str es') [.mp (.int .i64) [],.row 3 [stAV false l (.mpr H.length) c'.emptied] 0] (k:=0);simpa using this,fun k v hm=>by cases hm⟩
  ·obtain⟨es2,d1,d2⟩:=h.nx q l' hq;obtain⟨g1,g2,g3⟩:=h.nx_at hq;refine⟨es2,by rw[JP _ _ _ g2 g3 g1];exact d1,fun k v hm=>?_⟩;obtain⟨y,t,f,e1,e2,e3⟩:=d2 k v hm;exact⟨y,t,f,e1,e2,hle.1 _ _ e3⟩
theorem KQ (h:DI ins first size P D C a c H) (x y:MB) (K:List MB):KeepsLow P H (own2 H D C x y K):=by
 have hlo:=h.lo;have hDl:=(List.getElem?_eq_some_iff.1 h.d).1;refine⟨by rw[DT];omega,fun i hi=>JP _ _ _ (fun e=>hlo.2.1.1 (e ▸ hi)) (fun e=>hlo.2.1.2 (e ▸ hi)) (hlo.1 i hi)⟩
end
theorem Gf {x v:AV}:∀ {es:List (AV×AV)},findMp x es=none->updMp x v es=es++[(x,v)]
 | [],_=>rfl
 | (k,u)::es,h=>by
   simp only[findMp]at h;split at h
   ·cases h
   ·rename_i hb;simp only[updMp];rw[if_neg hb,Gf h];rfl
theorem kf47 {ins:List Ins}{first:List Nat}{size:Nat}{P:Nat->Prop}{D C:Nat}{a:Lay2}{c:CS}{H:List MB} (hi:DI ins first size P D C a c H) (hN:ins.length<=8192) (hmd:c.made<4000000000000) {l:List Nat} (hl:∀ n∈l,n<ins.length) (hll:l.length<=ins.length) :
  ∃ r,(∃ t H' a' f,r=(AV.rf t 1 0 0,H')/\DI ins first size P D C a' (c.need size l) H'/\a.le a'/\a'.st t=some (l,f)/\KeepsLow P H H')/\call Pg pol1 78 [.rf D 1 0 0,.sl false (l.map NV)] H=some r:=by
 have hD:=hi.d;have hDl:=(List.getElem?_eq_some_iff.1 hD).1;obtain⟨es,hC,hes,hce⟩:=hi.cache;have hCl:=(List.getElem?_eq_some_iff.1 hC).1;have hDC:D≠C:=fun e=>by rw[<- e,hD]at hC;cases hC
 obtain⟨s1,s2,s3,s4,s5⟩:=hi.small;have hk:=kf51 l (by omega);have oD:=fun x y K=>OI (D:=D) (C:=C) hDl hCl hDC x y K;have oC:=fun x y K=>OJ (D:=D) (C:=C) hDl hCl hDC x y K;have oSD:=fun x y v K=>M8 (D:=D) (C:=C) hDl hCl hDC x y v K;have oSC:=fun x y v K=>M9 (D:=D) (C:=C) hDl hCl hDC x y v K;have hself:=NA _ _ hD hC;refine CJ (pol:=pol1) Tryz.func78 rfl rfl rfl rfl (AL _ _ _ rfl) ?_;rw[<- hself];have rp:∀ H1 r H,retPol pol1 78 H1 r H=some (r,H):=fun H1 r H=>rfl;by_cases h0:l=[]
 ·subst h0;simp +contextual (disch:=omega) only[Tryz.f78,dd78,go_sem,simprocAttr,mu78,↓AD,↓AC,↓AB,↓AA,oD,oC,oSD,oSC,Dq,DT];refine⟨_,⟨_,_,⟨fun i=>if i=H.length then some ([],0) else a.st i,a.nx⟩,0,rfl,?_⟩,rp _ _ _⟩;rw[show own2 H D C (.row 6 [dfaAV ins first size C c] 0) (.mp .str es) [.row 3 [.agg [.sl true [],.nilm,.int .i64 0]] 0]=H++[.row 3 [stAV true [] .nilm 0] 0] from(Dq _ _ _ []).symm.trans (by rw[hself];rfl),hself];obtain⟨g1,g2⟩:=hi.dead _ rfl;exact⟨g1,g2,by simp,⟨by simp,fun i hi2=>getElem?_append_left (hi.lo.1 i hi2)⟩⟩
 have hl0:((l.length:Nat):Int)=0↔False:=by
  have:l.length≠0:=fun e=>h0 (List.length_eq_zero_iff.1 e);exact⟨fun h=>this (by omega),False.elim⟩
 rcases hi.find (l:=l) (fun n hn=>by have:=hl n hn;omega) hC with ⟨hm,t,ht,hst⟩|⟨hm,ht⟩
 ·simp +contextual (disch:=omega) only[Tryz.f78,dd78,go_sem,simprocAttr,mu78,↓AD,↓AC,↓AB,↓AA,oD,oC,oSD,oSC,Dq,DT,hl0,hk,ht];refine⟨False.elim,fun _=>⟨_,⟨_,_,a,c.emptied,rfl,?_⟩,rp _ _ _⟩⟩;rw[hself];refine⟨?_,a.le_refl,hst,.refl _ _⟩;unfold CS.need;rw[if_neg h0,if_pos hm];exact hi
 ·by_cases hfull:c.L.length=size
  ·simp +contextual (disch:=omega) only[Tryz.f78,dd78,go_sem,simprocAttr,mu78,↓AD,↓AC,↓AB,↓AA,oD,oC,oSD,oSC,Dq,DT,hl0,hk,ht,lenMp,evClear,hes,hfull];refine⟨False.elim,fun _=>⟨by unfold dOk;kernel_rfl,_,⟨_,_,layN a H.length l (c.emptied+1),c.emptied+1,rfl,?_⟩,rp _ _ _⟩⟩;rw[hself];have hn:c.need size l=⟨[l],c.made+1,c.emptied+1⟩:=by unfold CS.need;rw[if_neg h0,if_neg hm,if_pos hfull]
   rw[hn];obtain⟨g1,g2⟩:=hi.made hl hll h0 hN ⟨[l],c.made+1,c.emptied+1⟩ [(.str (keyS l),.rf (H.length+1) 1 0 0)] rfl (fun i l' h=>by
    cases i with
    | zero=>simp at h;exact .inl ⟨h.symm,rfl⟩
    | succ i=>simp at h) (Nat.le_succ _) (by simp) (fun h=>by simp at h) (.inr (Nat.lt_succ_self _)) ⟨by simp only;omega,by simp only;omega,by simp only[List.length_singleton];omega,s4,s5⟩
   exact⟨g1,g2,by simp[layN],KQ hi _ _ _⟩
  ·simp +contextual (disch:=omega) only[Tryz.f78,dd78,go_sem,simprocAttr,mu78,↓AD,↓AC,↓AB,↓AA,oD,oC,oSD,oSC,Dq,DT,hl0,hk,ht,lenMp,evClear,hes,hfull];refine⟨False.elim,fun _=>⟨by unfold dOk;kernel_rfl,_,⟨_,_,layN a H.length l c.emptied,c.emptied,rfl,?_⟩,rp _ _ _⟩⟩;rw[hself,Gf ht];have hn:c.need size l=⟨c.L++[l],c.made+1,c.emptied⟩:=by unfold CS.need;rw[if_neg h0,if_neg hm,if_neg hfull]
   rw[hn];obtain⟨g1,g2⟩:=hi.made hl hll h0 hN ⟨c.L++[l],c.made+1,c.emptied⟩ (es++[(.str (keyS l),.rf (H.length+1) 1 0 0)]) (by simp[hes]) (fun i l' h=>by
    by_cases hlt:i<c.L.length
    ·rw[getElem?_append_left hlt]at h;exact .inr ⟨rfl,es,hC,h,getElem?_append_left (by omega)⟩
    ·have hi3:i=c.L.length:=by
      have:=(List.getElem?_eq_some_iff.1 h).1;simp at this;omega
     subst hi3;simp at h;exact .inl ⟨h.symm,by rw[<- hes];simp⟩) (le_refl _) (by simp) (fun _ x hx=>List.mem_append_left _ hx) (.inl rfl) ⟨by simp only;omega,by simp only;omega,by simp only[length_append,List.length_singleton];omega,s4,s5⟩
   exact⟨g1,g2,by simp[layN],KQ hi _ _ _⟩
end
section
attribute [local go_sem] evAppend evBin AV.cells frzB length_append map_append
section
variable {ins:List Ins}{first:List Nat}{size:Nat}{P:Nat->Prop}{D C:Nat}{a:Lay2}{c:CS}{H:List MB}
theorem DI.setNx (h:DI ins first size P D C a c H) {q:Nat}{l:List Nat} (hq:a.nx q=some l) (es:List (AV×AV)) (hes:∀ k v,(k,v)∈es->∃ x t f,k=I x/\v=.rf t 1 0 0/\a.st t=some (stateL ins (afterL ins l x),f)) :
  DI ins first size P D C a c (H.set q (.mp (.int .i64) es))/\KeepsLow P H (H.set q (.mp (.int .i64) es)):=by
 obtain⟨g1,g2,g3⟩:=h.nx_at hq;have hlo:=h.lo.2.2.2 q l hq;have old:∀ i,i≠q->(H.set q (.mp (.int .i64) es))[i]?=H[i]?:=fun i hi=>getElem?_set_ne (Ne.symm hi);obtain⟨es0,hC,hes0,hce⟩:=h.cache;obtain⟨es1,hq1,hq2⟩:=h.nx q l hq;refine⟨⟨by rw[old _ (Ne.symm g2)];exact h.d,⟨fun i hi=>by rw[List.length_set];exact h.lo.1 i hi,h.lo.2⟩,⟨es0,by rw[old _ (Ne.symm g3)];exact hC,hes0,hce⟩,fun t l' f ht=>?_,fun q' l' hq'=>?_,h.small⟩,⟨by simp,fun i hi=>old i (fun e=>hlo (e ▸ hi))⟩⟩
 ·obtain⟨b,m,c1,c2⟩:=h.st t l' f ht;have:t≠q:=fun e=>by rw[e,hq1]at c1;cases c1
  exact⟨b,m,by rw[old _ this];exact c1,c2⟩
 ·by_cases e:q' = q
  ·subst e;rw[hq]at hq';cases hq';exact⟨es,getElem?_set_self g1,hes⟩
  ·obtain⟨es2,d1,d2⟩:=h.nx q' l' hq';exact⟨es2,by rw[old _ e];exact d1,d2⟩
theorem CS.need_made (c:CS) (size:Nat) (l:List Nat):(c.need size l).made<=c.made+1:=by
 unfold CS.need;split
 ·omega
 ·split
  ·omega
  ·split<;>simp
end
structure InsOk (ins:List Ins):Prop where
 len:ins.length<=8192
 leads:Leads ins
 sets:∀ i∈ins,i.set.length<=1000000
theorem Nj {ins:List Ins} (h:Leads ins) (l:List Nat) (x:Int):∀ n∈afterL ins l x,n<ins.length:=by
 intro n hn;simp only[afterL,List.mem_flatMap]at hn;obtain⟨m,_,hm⟩:=hn;split at hm
 ·rename_i i hi;split at hm
  ·rename_i h1;simp at hm;subst hm;exact(h m i hi).2.2.2 (.inl h1.1)
  ·simp at hm
 ·simp at hm
abbrev nextL (ins:List Ins) (l:List Nat) (x:Int):List Nat:=stateL ins (afterL ins l x)
theorem kf48 {ins:List Ins}{first:List Nat}{size:Nat}{P:Nat->Prop}{D C:Nat}{a:Lay2}{c:CS}{H:List MB} (hi:DI ins first size P D C a c H) (ho:InsOk ins) (hmd:c.made<4000000000000) {s:Nat}{l:List Nat}{f:Nat} (hs:a.st s=some (l,f)) (hl0:l≠[]) (x:Int) :
  ∃ r,(∃ t H' a' f,r=(AV.rf t 1 0 0,H')/\DI ins first size P D C a' (c.need size (nextL ins l x)) H'/\a.le a'/\a'.st t=some (nextL ins l x,f)/\KeepsLow P H H')/\call Pg pol1 79 [.rf D 1 0 0,.rf s 1 0 0,I x] H=some r:=by
 have hN:=ho.len;have hD:=hi.d;obtain⟨b,m,s1,s2,s3,s4,s5,s6⟩:=hi.st s l f hs;obtain⟨rfl,q,rfl,hq⟩:=s6 hl0;obtain⟨es,q1,q2⟩:=hi.nx q l hq;obtain⟨t1,⟨t,H1,a1,f1,rfl,d1,le1,st1,low1⟩,hc47⟩:=kf47 hi hN hmd (l:=nextL ins l x) (D9 ins _).1 (D9 ins _).2;obtain⟨b',m',u1,u2,u3,u4,u5,u6⟩:=d1.st s l f (le1.1 _ _ hs);obtain⟨rfl,q',rfl,hq'⟩:=u6 hl0;obtain⟨es',v1,v2⟩:=d1.nx q' l hq';have hal:=Ho ins l x;have hc52:=kf52 ins (by omega) ho.sets l (by omega) s2 x;have hc30:=QZ ins (by omega) ho.leads (afterL ins l x) (by omega) (Nj ho.leads l x);have rp:∀ H1 r H,retPol pol1 79 H1 r H=some (r,H):=fun H1 r H=>rfl;have hsq:s≠q':=fun e=>by rw[e,v1]at u1;cases u1
 have hq'l:=(d1.nx_at hq').1;have g1:∀ z,(H1.set q' z)[s]?=some (.row 3 [stAV false l (.mpr q') f] 0):=fun z=>by rw[getElem?_set_ne (Ne.symm hsq)];exact u1
 have g2:∀ z,(H1.set q' z)[q']?=some z:=fun z=>getElem?_set_self hq'l;have hgood:∀(es2:List (AV×AV)),(∀ k v,(k,v)∈es2->(k,v)∈es')->∀ k v,(k,v)∈updMp (I x) (.rf t 1 0 0) es2->∃ x t f,k=I x/\v=.rf t 1 0 0/\a1.st t=some (stateL ins (afterL ins l x),f):=by
  intro es2 he k v hm;rcases Mw hm with h|⟨h1,h2⟩
  ·exact v2 k v (he k v h)
  ·refine⟨x,t,f1,?_,h1,st1⟩;rcases h2 with h2|h2
   ·exact h2
   ·exact Qh.1 h2
 refine CJ (pol:=pol1) Tryz.func79 rfl rfl rfl rfl (AL _ _ _ rfl) ?_
 have fin:∀(es2:List (AV×AV)),(∀ k v,(k,v)∈es2->(k,v)∈es')->∃ r,(∃ t H' a' f,r=(AV.rf t 1 0 0,H')/\DI ins first size P D C a' (c.need size (nextL ins l x)) H'/\a.le a'/\a'.st t=some (nextL ins l x,f)/\KeepsLow P H H') /\
   retPol pol1 79 H (.rf t 1 0 0) (H1.set q' (.mp (.int .i64) (updMp (I x) (.rf t 1 0 0) es2)))=some r:=by
  intro es2 he;obtain⟨w1,w2⟩:=d1.setNx hq' _ (hgood es2 he);exact⟨_,⟨t,_,a1,f1,rfl,w1,le1,st1,low1.trans w2⟩,rp _ _ _⟩
 cases hf:findMp (I x) es with
 | some v=>
   obtain⟨k,hm,hb⟩:=HM hf;rw[Qh]at hb;subst hb;obtain⟨x',t2,f2,e1,rfl,e3⟩:=q2 _ _ hm;have e1:x=x':=by simpa using e1
   subst e1;obtain⟨b2,m2,k1,k2,k3,k4,k5,k6⟩:=hi.st t2 _ _ e3;by_cases hhit:nextL ins l x=[]∨f2=c.emptied
   ·have hneed:c.need size (nextL ins l x)=c:=by
     unfold CS.need;by_cases h0:nextL ins l x=[]
     ·rw[if_pos h0]
     ·rw[if_neg h0];rcases hhit with h|h
      ·exact absurd h h0
      ·rw[if_pos (k5 h0 h)]
    have hres:∃ r,(∃ t H' a' f,r=(AV.rf t 1 0 0,H')/\DI ins first size P D C a' (c.need size (nextL ins l x)) H'/\a.le a'/\a'.st t=some (nextL ins l x,f)/\KeepsLow P H H')/\retPol pol1 79 H (.rf t2 1 0 0) H=some r:=
     ⟨_,⟨t2,H,a,f2,rfl,by rw[hneed];exact hi,a.le_refl,e3,.refl _ _⟩,rp _ _ _⟩
    by_cases h0:(nextL ins l x).length=0
    ·simp +contextual (disch:=omega) only[Tryz.f79,dd79,go_sem,simprocAttr,mu79,↓AD,↓AC,↓AB,↓AA,hD,s1,q1,hf,k1,h0];repeat' (first|intro _|apply And.intro|(unfold dOk;kernel_rfl)|(show (_||_)=true;kernel_rfl)|(show (_&&_)=true;kernel_rfl))
     all_goals first|exact hres|omega
    ·have h1:f2=c.emptied:=by
      rcases hhit with h|h
      ·exact absurd (List.length_eq_zero_iff.2 h) h0
      ·exact h
     subst h1;simp +contextual (disch:=omega) only[Tryz.f79,dd79,go_sem,simprocAttr,mu79,↓AD,↓AC,↓AB,↓AA,hD,s1,q1,hf,k1];repeat' (first|intro _|apply And.intro|(unfold dOk;kernel_rfl)|(show (_||_)=true;kernel_rfl)|(show (_&&_)=true;kernel_rfl))
     all_goals exact hres
   ·have h0:(stateL ins (afterL ins l x)).length≠0:=fun e=>hhit (.inl (List.length_eq_zero_iff.1 e));have h0':((stateL ins (afterL ins l x)).length:Int)=0↔False:=⟨fun h=>h0 (by omega),False.elim⟩;have h1:((f2:Nat):Int)=(c.emptied:Nat)↔False:=⟨fun h=>hhit (.inr (by omega)),False.elim⟩;simp +contextual (disch:=omega) only[Tryz.f79,dd79,go_sem,simprocAttr,mu79,↓AD,↓AC,↓AB,↓AA,hD,s1,q1,hf,k1,h0',h1,hc52,hc30,hc47,u1,v1,g1,g2,lenMp,evClear,List.set_set];repeat' (first|intro _|apply And.intro|(unfold dOk;kernel_rfl)|(show (_||_)=true;kernel_rfl)|(show (_&&_)=true;kernel_rfl))
    all_goals first|contradiction|exact fin [] (fun k v h=>by cases h)|exact fin es' (fun k v h=>h)|trace_state
 | none=>
   simp +contextual (disch:=omega) only[Tryz.f79,dd79,go_sem,simprocAttr,mu79,↓AD,↓AC,↓AB,↓AA,hD,s1,q1,hf,hc52,hc30,hc47,u1,v1,g1,g2,lenMp,evClear,List.set_set];repeat' (first|intro _|apply And.intro|(unfold dOk;kernel_rfl)|(show (_||_)=true;kernel_rfl)|(show (_&&_)=true;kernel_rfl))
   ·exact fin [] (fun k v h=>by cases h)
   ·exact fin es' (fun k v h=>h)
def doneL (ins:List Ins) (l:List Nat):Bool:=match l.getLast? with
 | some n=>match ins[n]? with
   | some i=>i.op==0
   | none=>false
 | none=>false
def runL (ins:List Ins):List Int->Nat->List Nat->Int->Int
 | xs,p,l,e=>if l=[] then e else match xs with
   | []=>if doneL ins l=true then(p:Int) else e
   | x::xs=>runL ins xs (p+1) (nextL ins l x) (if doneL ins l=true then(p:Int) else e)
def runC (ins:List Ins) (size:Nat):List Int->List Nat->CS->CS
 | xs,l,c=>if l=[] then c else match xs with
   | []=>c
   | x::xs=>runC ins size xs (nextL ins l x) (c.need size (nextL ins l x))
end
section
attribute [local go_sem] evAppend evBin AV.cells frzB length_append map_append
theorem N3 {ins:List Ins}{xs:List Int}{p:Nat}{e:Int}:runL ins xs p [] e=e:=by
 cases xs<;>simp[runL]
theorem KB {ins:List Ins}{size:Nat}{xs:List Int}{c:CS}:runC ins size xs [] c=c:=by
 cases xs<;>simp[runC]
theorem Oz {ins:List Ins}{l:List Nat}{n:Nat}{i:Ins} (h:l[l.length-1]?=some n) (hi:ins[n]?=some i):doneL ins l=(i.op==0):=by
 simp[doneL,List.getLast?_eq_getElem?,h,hi]
structure KRS where
 p:Nat
 t:Nat
 l:List Nat
 f:Nat
 e:Int
 H:List MB
 a:Lay2
 c:CS
theorem kf31 {ins:List Ins}{first:List Nat}{size:Nat}{P:Nat->Prop}{D C:Nat}{a:Lay2}{c:CS}{H:List MB} (hi:DI ins first size P D C a c H) (ho:InsOk ins) (hf1:∀ n∈first,n<ins.length) (hf2:first.length<=ins.length) (xs:List Int) (hx:xs.length<=1000000) (p:Nat) (hp:p<=xs.length) (hmd:c.made+xs.length+2<=4000000000000) :
  ∃ r,(∃ H' a',r=(I (runL ins (xs.drop p) p first (-1)),H')/\DI ins first size P D C a' (runC ins size (xs.drop p) first (c.need size first)) H'/\a.le a'/\KeepsLow P H H')/\call Pg pol1 46 [.rf D 1 0 0,.sl false (xs.map I),I p] H=some r:=by
 have hN:=ho.len;have rp:∀ H1 r H,retPol pol1 46 H1 r H=some (r,H):=fun H1 r H=>rfl;have hD:=hi.d;obtain⟨t1,⟨t,H1,a1,f1,rfl,d1,le1,st1,low1⟩,hc47⟩:=kf47 hi hN (by omega) hf1 hf2;have hm1:=CS.need_made c size first
 refine CJ (pol:=pol1) Tryz.func46 rfl rfl rfl rfl (AL _ _ _ rfl) ?_;simp +contextual (disch:=omega) only[Tryz.f46,dd46,go_sem,simprocAttr,mu46,↓AD,↓AC,↓AB,↓AA,hD,hc47]
 refine Dk (σ:=KRS) (M:=(mskOf (pol1.mask 46) (pol1.gc 46) (pol1.acts 46) 0 3)) rfl (fun x=>(⟨58,[(8,.rf x.t 1 0 0),(7,I x.e),(2,I x.p),(1,.sl false (xs.map I)),(0,.rf D 1 0 0)],x.H⟩:St))
  (fun x=>x.p<=xs.length/\DI ins first size P D C x.a x.c x.H/\x.a.st x.t=some (x.l,x.f)/\a.le x.a/\KeepsLow P H x.H/\x.c.made+(xs.length-x.p)<=c.made+xs.length+1 /\
    runL ins (xs.drop x.p) x.p x.l x.e=runL ins (xs.drop p) p first (-1)/\runC ins size (xs.drop x.p) x.l x.c=runC ins size (xs.drop p) first (c.need size first))
  (fun x=>xs.length-x.p) ⟨p,t,first,f1,-1,H1,a1,c.need size first⟩ ?_ ⟨hp,d1,st1,le1,low1,by simp only;omega,rfl,rfl⟩ _ ?_
 ·rintro⟨p',t',l,f,e,H',a',c'⟩ ⟨h1,h2,h3,h4,h5,h6,h7,h8⟩;simp only at h1 h2 h3 h4 h5 h6 h7 h8 |-;obtain⟨b,m,s1,s2,s3,s4,s5,s6⟩:=h2.st t' l f h3;have hD':=h2.d;by_cases hl0:l=[]
  ·subst hl0;rw[N3]at h7;rw[KB]at h8;simp +contextual (disch:=omega) only[Tryz.f46,dd46,go_sem,simprocAttr,mu46,↓AD,↓AC,↓AB,↓AA,s1];exact⟨_,⟨H',a',by rw[h7],by rw[<- h8];exact h2,h4,h5⟩,rp _ _ _⟩
  obtain⟨rfl,q,rfl,hq⟩:=s6 hl0;have hlen:0<l.length:=List.length_pos_iff.2 hl0;obtain⟨n,hn⟩:∃ n,l[l.length-1]?=some n:=⟨_,getElem?_eq_getElem (by omega)⟩;have hn':(l.map NV)[l.length-1]?=some (NV n):=by simp[hn]
  obtain⟨i,hi'⟩:∃ i,ins[n]?=some i:=⟨_,getElem?_eq_getElem (s2 n (mem_of_getElem? hn))⟩;have hii:(ins.map insAV)[n]?=some (insAV i):=by simp[hi']
  have hdone:=Oz hn hi';by_cases hend:p' = xs.length
  ·subst hend;rw[List.drop_length]at h7 h8;simp only[runL,runC,if_neg hl0,hdone]at h7 h8;simp +contextual (disch:=omega) only[Tryz.f46,dd46,go_sem,simprocAttr,mu46,↓AD,↓AC,↓AB,↓AA,s1,hD',hn',hii];refine⟨by unfold dOk;kernel_rfl,fun h=>?_,fun h=>?_⟩
   ·rw[if_pos (by simp[h])]at h7;exact⟨_,⟨H',a',by rw[h7],by rw[<- h8];exact h2,h4,h5⟩,rp _ _ _⟩
   ·rw[if_neg (by simp[h])]at h7;exact⟨_,⟨H',a',by rw[h7],by rw[<- h8];exact h2,h4,h5⟩,rp _ _ _⟩
  ·obtain⟨x,hx'⟩:∃ x,xs[p']?=some x:=⟨_,getElem?_eq_getElem (by omega)⟩;have hx2:(xs.map I)[p']?=some (I x):=by simp[hx']
   have hdrop:xs.drop p' = x::xs.drop (p' + 1):=by
    rw[List.drop_eq_getElem_cons (by omega)];congr 1;rw[getElem?_eq_getElem (by omega)]at hx';exact Option.some.inj hx'
   obtain⟨r2,⟨t2,H2,a2,f2,rfl,d2,le2,st2,low2⟩,hc48⟩:=kf48 h2 ho (by omega) h3 hl0 x;have hm2:=CS.need_made c' size (nextL ins l x);rw[hdrop]at h7 h8;simp only[runL,runC,if_neg hl0,hdone]at h7 h8;simp +contextual (disch:=omega) only[Tryz.f46,dd46,go_sem,simprocAttr,mu46,↓AD,↓AC,↓AB,↓AA,s1,hD',hn',hii,hx2,hc48];refine⟨by unfold dOk;kernel_rfl,fun h=>?_,fun h=>?_⟩
   ·rw[if_pos (by simp[h])]at h7;exact⟨⟨p' + 1,t2,nextL ins l x,f2,p',H2,a2,c'.need size (nextL ins l x)⟩,⟨by simp only;omega,d2,st2,Lay2.le_trans h4 le2,h5.trans low2,by simp only;omega,h7,h8⟩,by simp only;omega,rfl⟩
   ·rw[if_neg (by simp[h])]at h7;exact⟨⟨p' + 1,t2,nextL ins l x,f2,e,H2,a2,c'.need size (nextL ins l x)⟩,⟨by simp only;omega,d2,st2,Lay2.le_trans h4 le2,h5.trans low2,by simp only;omega,h7,h8⟩,by simp only;omega,rfl⟩
 ·rfl
end
section
attribute [local go_sem] evAppend evBin AV.cells length_append map_append
theorem SQ (l:List (Int×Int)) (hl:l.length<=1000000) (K:List MB) (x:MB):call Pg pol1 45 [.sl false (l.map spanAV)] (K++[x])=some (.sl false (l.map spanAV),K++[x]):=by
 rw[Bk];unfold evStep;rw[if_neg (show ¬ pol1.pure 45=true by decide)];show cloneExt 2 16 [.sl false (l.map spanAV)] (K++[x])=_;have h1:((l.map spanAV).all fun y=>decide (y.cells.length=2)&&y.cells.all AV.ok)=true:=by
  rw[List.all_eq_true];intro y hy;obtain⟨p,_,rfl⟩:=mem_map.1 hy;rfl
 have h2:roomFor (l.map spanAV).length 16=true:=Ad (by simp;omega) (by omega);unfold cloneExt;simp only[elemsOf];rw[if_pos ⟨h1,h2,AF l⟩];cases K<;>rfl
theorem SR (l:List Ins) (hl:0<l.length/\l.length<=1000000) (K:List MB):call Pg pol1 44 [.sl false (l.map insAV)] K=some (.ms K.length 5 l.length 0 l.length,K++[.row 5 (l.map insAV) 0]):=by
 rw[Bk];unfold evStep;rw[if_neg (show ¬ pol1.pure 44=true by decide)];show cloneExtO 5 56 [.sl false (l.map insAV)] K=_;have h1:((l.map insAV).all fun y=>decide (y.cells.length=5)&&y.cells.all AV.ok)=true:=by
  rw[List.all_eq_true];intro y hy;obtain⟨p,_,rfl⟩:=mem_map.1 hy;rfl
 have h2:roomFor (l.map insAV).length 56=true:=Ad (by simp;omega) (by omega);unfold cloneExtO;simp only[elemsOf];rw[if_pos ⟨h1,h2⟩];cases l with
 | nil=>simp at hl
 | cons y ys=>simp
theorem Nb {P:Program}{pol:Pol}{f:Nat}{args l:List AV}{H H1:List MB} (hp:pol.pure f=true) (h:frzArgs pol f 0 args H=some (l,H1)) (ha:AV.plainL l=true) :
  call P pol f args H=call P pol f l H1:=by
 have hf:∀(l:List AV) (i:Nat),AV.plainL l=true->frzArgs pol f i l H1=some (l,H1):=by
  intro l
  induction l with
  | nil=>intro i _;rfl
  | cons x l ih=>
    intro i h;simp only[AV.plainL,Bool.and_eq_true]at h;simp only[frzArgs,Az H1 h.1,ih (i+1) h.2];split<;>simp_all
 rw[Bk,Bk];unfold evStep;simp only[hp,if_true,h,hf l 0 ha]
theorem kf9n (g:Prg) (hb:PrgB g) (hl:Leads g.ins) (h0:0<g.ins.length) (hN:g.ins.length<=8192) (size:Nat) (hs:1<=size/\size<=1024) (H:List MB) (h:acceptG g=0) :
  ∃ r,(∃ D C H' a,r=(AV.tup [.rf D 1 0 0,I 0],H')/\DI g.ins (stateL g.ins [0]) size (fun i=>i<H.length) D C a ⟨[],0,0⟩ H'/\KeepsLow (fun i=>i<H.length) H H')/\call Pg pol1 18 [prgAV g,I size] H=some r:=by
 have hv:=kf27 g hb;rw[h]at hv;have rp:∀ H1 r H,retPol pol1 18 H1 r H=some (r,H):=fun H1 r H=>rfl;have hgl:=fun x:MB=>Ic H x;have hc30:=QZ g.ins (by omega) hl [0] (by simp) (by simpa using h0);simp only[List.map_cons,List.map_nil]at hc30;have hcl:=SR g.ins ⟨h0,by omega⟩;refine CJ (pol:=pol1) Tryz.func18 rfl rfl rfl rfl (AL _ _ _ (by have h:=AK g;simp only[mixOk,h,Bool.or_true,Bool.true_and];rfl)) ?_;simp +contextual (disch:=omega) only[Tryz.f18,dd18,go_sem,simprocAttr,frzB,mu18,↓AD,↓AC,↓AB,↓AA,hv,hgl,hcl];rw[append_assoc];simp only[cons_append,nil_append];have gg:∀ y z:MB,(H++[y,z])[H.length+1]?=some z:=fun y z=>by rw[getElem?_append_right (by omega)];simp
 have ss:∀ y z v:MB,(H++[y,z]).set (H.length+1) v=H++[y,v]:=fun y z v=>by rw[set_append_right _ _ (by omega)];simp
 refine Ae (M:=(mskOf (pol1.mask 18) (pol1.gc 18) (pol1.acts 18) 0 8)) rfl g.ins.length (fun i=>(⟨47,[(25,I i),(24,I g.ins.length),(7,.ms (H.length+1) 5 g.ins.length 0 g.ins.length),(1,I size)],H++[.row 3 [prgAV g] 0,.row 5 (g.ins.map insAV) 0]⟩:St)) (fun _=>True) ?_ ?_ trivial _ ?_
 ·intro i hi _;obtain⟨p,hp⟩:∃ p,g.ins[i]?=some p:=⟨_,getElem?_eq_getElem hi⟩;have hp':(g.ins.map insAV)[i]?=some (insAV p):=by simp[hp]
  have hset:(g.ins.map insAV).set i (insAV p)=g.ins.map insAV:=by
   apply ext_getElem?;intro q;by_cases e:i=q
   ·subst e;rw[getElem?_set_self (by simpa using hi),hp']
   ·rw[getElem?_set_ne e]
  have hc29:=fun x y:MB=>SQ p.set (hb.2 p (mem_of_getElem? hp)) (H++[x]) y;simp only[append_assoc,cons_append,nil_append]at hc29;simp +contextual (disch:=omega) only[Tryz.f18,dd18,go_sem,simprocAttr,frzB,mu18,↓AD,↓AC,↓AB,↓AA,gg,ss,hp',hc29,hset];rfl
 ·intro _
  have hcl30:call Pg pol1 36 [.ms (H.length+1) 5 g.ins.length 0 g.ins.length,.sl true [I 0]] (H++[.row 3 [prgAV g] 0,.row 5 (g.ins.map insAV) 0]) =
    some (.sl false ((stateL g.ins [0]).map NV),H++[.row 3 [prgAV g] 0,.row 5 (g.ins.map insAV) g.ins.length]):=by
   have hrow:getRow (H++[.row 3 [prgAV g] 0,.row 5 (g.ins.map insAV) 0]) (H.length+1)=some (5,g.ins.map insAV,0):=by unfold getRow;rw[gg]
   have hz:=De (tot:=g.ins.length) hrow (by simp) (AI g.ins);have hm:mark (H++[.row 3 [prgAV g] 0,.row 5 (g.ins.map insAV) 0]) (H.length+1) g.ins.length=H++[.row 3 [prgAV g] 0,.row 5 (g.ins.map insAV) g.ins.length]:=by
    unfold mark;rw[hrow];simp only[ss,Nat.zero_max,Nat.max_eq_right (zero_le _)]
   rw[hm]at hz;rw[Nb (l:=[.sl false (g.ins.map insAV),.sl false [I 0]]) rfl ?_ (by simp[AV.plainL,AV.plain,AI])]
   ·exact hc30 _
   ·have h1:pol1.byref 36 0=false:=rfl;have h2:pol1.byref 36 (0+1)=false:=rfl;simp only[frzArgs,h1,h2,Bool.false_eq_true,if_false,hz,Og (l:=[I 0]) rfl]
  have hfrz:∀(n:Nat) (t:Tm),frzB ⟨n,t,H++[.row 3 [prgAV g] 0,.row 5 (g.ins.map insAV) g.ins.length]++[.mp .str []]++[.row 6 [.agg [.ms (H.length+1) 5 g.ins.length 0 g.ins.length,.sl false ((stateL g.ins [0]).map NV),I size,.mpr (H.length+2),.int .i64 0,.int .i64 0]] 0]⟩ (H.length+2+1) =
    ⟨n,t,H++[.row 3 [prgAV g] 0,.row 5 (g.ins.map insAV) g.ins.length,.mp .str [],.row 6 [dfaAV g.ins (stateL g.ins [0]) size (H.length+2) ⟨[],0,0⟩] 0]⟩:=by
   intro n t;simp only[append_assoc,cons_append,nil_append];generalize hHH:H++[.row 3 [prgAV g] 0,.row 5 (g.ins.map insAV) g.ins.length,.mp .str [],.row 6 [.agg [.ms (H.length+1) 5 g.ins.length 0 g.ins.length,.sl false ((stateL g.ins [0]).map NV),I size,.mpr (H.length+2),.int .i64 0,.int .i64 0]] 0]=HH;have r1:getRow HH (H.length+1)=some (5,g.ins.map insAV,g.ins.length):=by
    unfold getRow;rw[<- hHH,getElem?_append_right (by omega)];simp
   have r3:getRow HH (H.length+2+1)=some (6,[.agg [.ms (H.length+1) 5 g.ins.length 0 g.ins.length,.sl false ((stateL g.ins [0]).map NV),I size,.mpr (H.length+2),.int .i64 0,.int .i64 0]],0):=by
    unfold getRow;rw[<- hHH,getElem?_append_right (by omega)];simp[show H.length+2+1-H.length=3 by omega]
   have hm:mark HH (H.length+1) g.ins.length=HH:=by
    unfold mark;rw[r1];simp only[Nat.max_self];rw[<- hHH,set_append_right _ _ (by omega)];simp
   have hz:=DF (n:=5) (tot:=g.ins.length) r1 (by simp) (AI g.ins);rw[hm]at hz;have hp:=BO (fzJ 6) ((stateL g.ins [0]).map NV) HH (BM _);have hfz:fzs [.agg [.ms (H.length+1) 5 g.ins.length 0 g.ins.length,.sl false ((stateL g.ins [0]).map NV),I size,.mpr (H.length+2),.int .i64 0,.int .i64 0]] HH=some ([dfaAV g.ins (stateL g.ins [0]) size (H.length+2) ⟨[],0,0⟩],HH):=by
    simp only[fzs,fzL,JZ,hz,Q0,hp,GW];rfl
   unfold frzB;simp only[r3,hfz,AV.beqL_refl,if_true];rw[<- hHH,set_append_right _ _ (by omega)];simp[show H.length+2+1-H.length=3 by omega]
  simp +contextual (disch:=omega) only[Tryz.f18,dd18,go_sem,simprocAttr,mu18,↓AD,↓AC,↓AB,↓AA,gg,ss,hcl30,hfrz];refine⟨_,⟨_,H.length+2,_,⟨fun _=>none,fun _=>none⟩,rfl,?_,?_⟩,rp _ _ _⟩
  ·refine⟨?_,⟨fun i hi=>by simp;omega,⟨by omega,by omega⟩,fun i x h=>(by cases h),fun i x h=>(by cases h)⟩,⟨[],?_,rfl,fun i l h=>by simp at h⟩,fun t l f h=>(by cases h),fun q l h=>(by cases h),⟨by simp,by simp,by simp,hs.1,hs.2⟩⟩
   ·rw[getElem?_append_right (by omega)];simp[show H.length+2+1-H.length=3 by omega]
   ·rw[getElem?_append_right (by omega)];simp
  ·exact⟨by simp,fun i hi=>getElem?_append_left hi⟩
 ·rfl
end
abbrev Spans:=List (Int×Int)
def addI (O:Spans) (p:Int×Int):Spans:=
 match O.getLast? with
 | some q=>if p.1<=q.2+1 then O.dropLast++[(q.1,max q.2 p.2)] else O++[p]
 | none=>[p]
theorem LP (p:Int×Int):addI [] p=[p]:=rfl
structure SetV (s:Spans):Prop where
 sep:s.Pairwise fun p q=>p.2+2<=q.1
 good:∀ p∈s,0<=p.1/\p.1<=p.2/\p.2<=1114111
def colA (L:List Spans) (x:Int):List Bool:=L.map fun s=>hasSpan s x
def lastP (E:List Int) (top:Int) (k:Nat):Int:=(E[k]?).getD (top+1)
def pieceA (E:List Int) (top:Int) (k:Nat):Int×Int:=(lastP E top k,lastP E top (k+1)-1)
def colK (L:List Spans) (E:List Int) (top:Int) (k:Nat):List Bool:=colA L (lastP E top k)
section classes
variable (col:Nat->List Bool) (pc:Nat->Int×Int)
def firsts:Nat->List (List Bool)
 | 0=>[]
 | n+1=>if col n∈firsts n then firsts n else firsts n++[col n]
def clsOf (c:List Bool):Nat->Spans
 | 0=>[]
 | n+1=>if col n=c then addI (clsOf c n) (pc n) else clsOf c n
def classesA (n:Nat):List Spans:=(firsts col n).map fun c=>clsOf col pc c n
def tooBig (n:Nat):Prop:=1024<(firsts col n).length∨∃ c∈firsts col n,64<(clsOf col pc c n).length
variable {col pc}
theorem Eh {c:List Bool}:∀ {n:Nat},c∈firsts col n↔∃ k,k<n/\col k=c
 | 0=>by simp[firsts]
 | n+1=>by
   have ih:=Eh (c:=c) (n:=n);have e:(∃ k,k<n+1/\col k=c)↔(c∈firsts col n∨col n=c):=by
    rw[ih];constructor
    ·rintro⟨k,h1,h2⟩;rcases Nat.lt_succ_iff_lt_or_eq.1 h1 with h3|rfl
     ·exact .inl ⟨k,h3,h2⟩
     ·exact .inr h2
    ·rintro(⟨k,h1,h2⟩|h)
     ·exact⟨k,by omega,h2⟩
     ·exact⟨n,by omega,h⟩
   rw[e];simp only[firsts];split
   ·rename_i h;exact⟨.inl,fun h1=>h1.elim id fun h2=>h2 ▸ h⟩
   ·rw[mem_append,mem_singleton];exact⟨fun h1=>h1.imp id Eq.symm,fun h1=>h1.imp id Eq.symm⟩
theorem Cr:∀ n,(firsts col n).Nodup
 | 0=>.nil
 | n+1=>by
   simp only[firsts];split
   ·exact Cr n
   ·rename_i h;exact List.nodup_append.2 ⟨Cr n,by simp,fun x hx y hy e=>h (by rw[<- mem_singleton.1 hy,<- e];exact hx)⟩
theorem Lw (n:Nat):∃ m,firsts col (n+1)=firsts col n++m:=by
 simp only[firsts];split
 ·exact⟨[],by simp⟩
 ·exact⟨_,rfl⟩
theorem Ix {c:List Bool}{n:Nat} (h:c ∉ firsts col n):clsOf col pc c n=[]:=by
 induction n with
 | zero=>rfl
 | succ n ih=>
   have h2:c ∉ firsts col n:=fun hm=>h (by
    obtain⟨m,e⟩:=Lw (col:=col) n;rw[e];exact List.mem_append_left _ hm)
   have h3:col n≠c:=fun e=>h (Eh.2 ⟨n,by omega,e⟩);simp only[clsOf,if_neg h3];exact ih h2
theorem K8 (n:Nat):(classesA col pc n).length=(firsts col n).length:=by simp[classesA]
theorem K6 {n j:Nat} (h:(firsts col n)[j]?=some (col n)):firsts col (n+1)=firsts col n/\classesA col pc (n+1)=(classesA col pc n).set j (addI (clsOf col pc (col n) n) (pc n))/\(classesA col pc n)[j]?=some (clsOf col pc (col n) n):=by
 have hm:col n∈firsts col n:=mem_of_getElem? h;have h1:firsts col (n+1)=firsts col n:=by simp only[firsts,if_pos hm]
 refine⟨h1,?_,by simp[classesA,h]⟩;have hj:=(List.getElem?_eq_some_iff.1 h).1;refine ext_getElem? fun i=>?_;rw[List.getElem?_set];unfold classesA;rw[h1,List.getElem?_map,List.getElem?_map,List.length_map];by_cases e:j=i
 ·subst e;rw[if_pos rfl,if_pos hj,h];simp[clsOf]
 ·rw[if_neg e];rcases lt_or_ge i (firsts col n).length with hi|hi
  ·have hne:col n≠(firsts col n)[i]:=fun e2=>by
    have h3:=(List.getElem?_eq_some_iff.1 h).2;have hnd:=List.pairwise_iff_getElem.1 (Cr (col:=col) n);rcases Nat.lt_or_gt_of_ne e with h4|h4
    ·exact hnd j i hj hi h4 (h3.trans e2)
    ·exact hnd i j hi hj h4 (e2.symm.trans h3.symm)
   rw[getElem?_eq_getElem hi];simp[clsOf,hne]
  ·rw[getElem?_eq_none hi];rfl
theorem K7 {n:Nat} (h:col n ∉ firsts col n):firsts col (n+1)=firsts col n++[col n]/\classesA col pc (n+1)=classesA col pc n++[[pc n]]:=by
 have h1:firsts col (n+1)=firsts col n++[col n]:=by simp only[firsts,if_neg h]
 refine⟨h1,?_⟩;unfold classesA;rw[h1,map_append];congr 1
 ·refine List.map_congr_left fun c hc=>?_;have:col n≠c:=fun e=>h (by rw[e];exact hc);simp[clsOf,this]
 ·simp[clsOf,Ix h,LP]
end classes
open Classical in
def putL (l:List Int) (n top:Int):List Int:=
 if n > top∨n∈l then l else l.filter (fun x=>decide (x<n))++[n]++l.filter (fun x=>decide (n<x))
structure EndsOk (top:Int) (l:List Int):Prop where
 sorted:l.Pairwise (·< ·)
 le:∀ x∈l,0<=x/\x<=top
 zero:0∈l
theorem KN {l:List Int}{n top x:Int}:x∈putL l n top↔x∈l∨(x=n/\n<=top):=by
 unfold putL;split
 ·rename_i h;constructor
  ·exact .inl
  ·rintro(h1|⟨rfl,h1⟩)
   ·exact h1
   ·rcases h with h|h
    ·omega
    ·exact h
 ·rename_i h;have h1:n<=top:=by omega
  have h2:n ∉ l:=fun e=>h (.inr e);simp only[mem_append,mem_filter,mem_singleton,decide_eq_true_eq];constructor
  ·rintro((⟨h3,h4⟩|rfl)|⟨h3,h4⟩)
   ·exact .inl h3
   ·exact .inr ⟨rfl,h1⟩
   ·exact .inl h3
  ·rintro(h3|⟨rfl,h4⟩)
   ·rcases Int.lt_trichotomy x n with h5|h5|h5
    ·exact .inl (.inl ⟨h3,h5⟩)
    ·exact .inl (.inr h5)
    ·exact .inr ⟨h3,h5⟩
   ·exact .inl (.inr rfl)
theorem EndsOk.put {top:Int}{l:List Int} (h:EndsOk top l) {n:Int} (hn:0<=n):EndsOk top (putL l n top):=by
 refine⟨?_,fun x hx=>?_,KN.2 (.inl h.zero)⟩
 ·unfold putL;split
  ·exact h.sorted
  ·refine List.pairwise_append.2 ⟨List.pairwise_append.2 ⟨h.sorted.filter _,by simp,fun a ha b hb=>?_⟩,h.sorted.filter _,fun a ha b hb=>?_⟩
   ·rw[mem_singleton.1 hb];have:=(mem_filter.1 ha).2
    simpa using this
   ·have h2:=(mem_filter.1 hb).2;simp at h2;rcases mem_append.1 ha with ha|ha
    ·have:=(mem_filter.1 ha).2;simp at this;omega
    ·rw[mem_singleton.1 ha];exact h2
 ·rcases KN.1 hx with h1|⟨rfl,h1⟩
  ·exact h.le x h1
  ·exact⟨hn,h1⟩
def endS (top:Int) (i:Nat) (s:Spans):List (Int×Int):=s.flatMap fun p=>(if p.1<=top then [(p.1,(i:Int))] else [])++(if p.2+1<=top then [(p.2+1,(i:Int))] else [])
def endsP (top:Int):Nat->List Spans->List (Int×Int)
 | _,[]=>[]
 | i,s::L=>endS top i s++endsP top (i+1) L
theorem FH {top:Int}{i:Nat}{s:Spans}{e:Int×Int}:e∈endS top i s↔e.2=i/\∃ p∈s,(e.1=p.1∨e.1=p.2+1)/\e.1<=top:=by
 unfold endS;simp only[List.mem_flatMap,mem_append];constructor
 ·rintro⟨p,hp,h|h⟩
  ·split at h
   ·rw[mem_singleton.1 h];exact⟨rfl,p,hp,.inl rfl,by assumption⟩
   ·simp at h
  ·split at h
   ·rw[mem_singleton.1 h];exact⟨rfl,p,hp,.inr rfl,by assumption⟩
   ·simp at h
 ·rintro⟨h1,p,hp,h2,h3⟩;obtain⟨a,b⟩:=e;simp only at h1 h2 h3;refine⟨p,hp,?_⟩;rcases h2 with rfl|rfl
  ·left;rw[if_pos h3,h1];simp
  ·right;rw[if_pos h3,h1];simp
theorem Fi {top:Int}:∀ {L:List Spans}{i:Nat}{e:Int×Int},e∈endsP top i L->(∃ k:Nat,e.2=(k:Int)/\i<=k/\k<i+L.length)/\∃ s∈L,∃ p∈s,(e.1=p.1∨e.1=p.2+1)/\e.1<=top
 | [],i,e,h=>by simp[endsP]at h
 | s::L,i,e,h=>by
   rcases mem_append.1 h with h|h
   ·obtain⟨h1,h2⟩:=FH.1 h;exact⟨⟨i,h1,by omega,by simp only[List.length_cons];omega⟩,s,by simp,h2⟩
   ·obtain⟨⟨k,h1,h2,h3⟩,t,ht,h4⟩:=Fi h;exact⟨⟨k,h1,by omega,by simp only[List.length_cons];omega⟩,t,by simp[ht],h4⟩
theorem Iq {top:Int}{x:Int}:∀ {L:List Spans}{i:Nat},(∃ s∈L,∃ p∈s,(x=p.1∨x=p.2+1)/\x<=top)->∃ e∈endsP top i L,e.1=x
 | [],i,⟨s,h,_⟩=>by simp at h
 | s::L,i,⟨t,ht,h⟩=>by
   rcases List.mem_cons.1 ht with rfl|ht
   ·exact⟨(x,(i:Int)),List.mem_append_left _ (FH.2 ⟨rfl,h⟩),rfl⟩
   ·obtain⟨e,he,h2⟩:=Iq (L:=L) (i:=i+1) ⟨t,ht,h⟩;exact⟨e,List.mem_append_right _ he,h2⟩
theorem NU {s:Spans} (h:SetV s) {x top:Int} (hx:x<=top) (i:Nat):(endS top i s).countP (fun e=>decide (e.1<=x)) % 2=if hasSpan s x then 1 else 0:=by
 have key:∀ s:Spans,(s.Pairwise fun p q=>p.2+2<=q.1)->(∀ p∈s,p.1<=p.2)->(endS top i s).countP (fun e=>decide (e.1<=x)) % 2=if hasSpan s x then 1 else 0:=by
  intro s
  induction s with
  | nil=>intro _ _;rfl
  | cons p s ih=>
    intro h1 h2;have ih:=ih (List.Pairwise.of_cons h1) (fun q hq=>h2 q (by simp[hq]));have hp:=h2 p (by simp);have h3:=(List.pairwise_cons.1 h1).1;have e:endS top i (p::s)=((if p.1<=top then [(p.1,(i:Int))] else [])++(if p.2+1<=top then [(p.2+1,(i:Int))] else []))++endS top i s:=rfl;have hh:hasSpan (p::s) x=((decide (p.1<=x)&&decide (x<=p.2))||hasSpan s x):=rfl;have c1:(if p.1<=top then [(p.1,(i:Int))] else []).countP (fun e=>decide (e.1<=x))=if p.1<=x then 1 else 0:=by
     by_cases h4:p.1<=x
     ·rw[if_pos (show p.1<=top by omega),if_pos h4];simp[h4]
     ·rw[if_neg h4];split<;>simp[h4]
    have c2:(if p.2+1<=top then [(p.2+1,(i:Int))] else []).countP (fun e=>decide (e.1<=x))=if p.2+1<=x then 1 else 0:=by
     by_cases h4:p.2+1<=x
     ·rw[if_pos (show p.2+1<=top by omega),if_pos h4];simp[h4]
     ·rw[if_neg h4];split<;>simp[h4]
    rw[e,List.countP_append,List.countP_append,c1,c2,hh];by_cases h4:p.1<=x
    ·by_cases h5:x<=p.2
     ·have h6:hasSpan s x=false:=by
       unfold hasSpan;rw[List.any_eq_false];intro q hq;have:=h3 q hq;simp;omega
      have h7:¬ p.2+1<=x:=by omega
      rw[h6]at ih;simp only[h6,h4,h5,h7,if_true,if_false,decide_true,Bool.and_self,Bool.or_false];simp at ih |-;omega
     ·have h7:p.2+1<=x:=by omega
      simp only[h4,h5,h7,if_true,decide_true,decide_false,Bool.and_false,Bool.false_or];rw[<- ih];omega
    ·have h7:¬ p.2+1<=x:=by omega
     simp only[h4,h7,if_false,decide_false,Bool.false_and,Bool.false_or];rw[<- ih];simp
 exact key s h.sep (fun p hp=>(h.good p hp).2.1)
theorem L4 {top:Int}{i j:Nat} (h:i≠j) (s:Spans) (x:Int):(endS top i s).countP (fun e=>decide (e.1<=x)&&decide (e.2=(j:Int)))=0:=by
 rw[List.countP_eq_zero];intro e he;have:=(FH.1 he).1;simp[this];intro _;omega
theorem NP {top:Int}{i:Nat} (s:Spans) (x:Int):(endS top i s).countP (fun e=>decide (e.1<=x)&&decide (e.2=(i:Int)))=(endS top i s).countP (fun e=>decide (e.1<=x)):=by
 refine List.countP_congr fun e he=>?_;have:=(FH.1 he).1;simp[this]
theorem HW {top x:Int} (hx:x<=top):∀ {L:List Spans}{i j:Nat},(∀ s∈L,SetV s)->i<=j->(endsP top i L).countP (fun e=>decide (e.1<=x)&&decide (e.2=(j:Int))) % 2=if(colA L x).getD (j-i) false then 1 else 0
 | [],i,j,_,_=>by simp[endsP,colA]
 | s::L,i,j,h,hij=>by
   simp only[endsP,List.countP_append];rcases lt_or_ge i j with h1|h1
   ·have ih:=HW hx (L:=L) (i:=i+1) (j:=j) (fun t ht=>h t (by simp[ht])) h1;rw[L4 (by omega),Nat.zero_add,ih];obtain⟨k,rfl⟩:∃ k,j=i+1+k:=⟨j-(i+1),by omega⟩;have e1:i+1+k-(i+1)=k:=by omega
    have e2:i+1+k-i=k+1:=by omega
    rw[e1,e2];simp[colA]
   ·obtain rfl:j=i:=by omega
    have h2:(endsP top (j+1) L).countP (fun e=>decide (e.1<=x)&&decide (e.2=(j:Int)))=0:=by
     rw[List.countP_eq_zero];intro e he;obtain⟨⟨k,h3,h4,h5⟩,_⟩:=Fi he;simp[h3];intro _;omega
    rw[h2,Nat.add_zero,NP,NU (h s (by simp)) hx];simp[colA]
def WR (w:List Int) (b:Nat->Bool):Prop:=w.length=16/\∀ i,i<16->∃ x:Nat,w[i]?=some (x:Int)/\x<2 ^ 64/\∀ r,r<64->x.testBit r=b (64*i+r)
theorem WR.uniq {w w':List Int}{b b':Nat->Bool} (h:WR w b) (h':WR w' b') (hb:∀ j,j<1024->b j=b' j):w=w':=by
 refine ext_getElem? fun i=>?_;rcases lt_or_ge i 16 with hi|hi
 ·obtain⟨x,h1,h2,h3⟩:=h.2 i hi;obtain⟨y,h4,h5,h6⟩:=h'.2 i hi;have:x=y:=by
   refine Nat.eq_of_testBit_eq fun r=>?_;rcases lt_or_ge r 64 with hr|hr
   ·rw[h3 r hr,h6 r hr,hb _ (by omega)]
   ·rw[Nat.testBit_lt_two_pow (Nat.lt_of_lt_of_le h2 (Nat.pow_le_pow_right (by omega) hr)),Nat.testBit_lt_two_pow (Nat.lt_of_lt_of_le h5 (Nat.pow_le_pow_right (by omega) hr))]
  rw[h1,h4,this]
 ·rw[getElem?_eq_none (by rw[h.1];exact hi),getElem?_eq_none (by rw[h'.1];exact hi)]
theorem WR.inj {w:List Int}{b b':Nat->Bool} (h:WR w b) (h':WR w b') {j:Nat} (hj:j<1024):b j=b' j:=by
 obtain⟨x,h1,h2,h3⟩:=h.2 (j / 64) (by omega);obtain⟨y,h4,h5,h6⟩:=h'.2 (j / 64) (by omega);rw[h1]at h4;have:x=y:=by have:=Option.some.inj h4;omega
 subst this;have e:64*(j / 64)+j % 64=j:=by omega
 have h7:=h3 (j % 64) (by omega);have h8:=h6 (j % 64) (by omega);rw[e]at h7 h8;rw[<- h7,h8]
theorem WR.congr {w:List Int}{b b':Nat->Bool} (h:WR w b) (hb:∀ j,j<1024->b j=b' j):WR w b':=by
 refine⟨h.1,fun i hi=>?_⟩;obtain⟨x,h1,h2,h3⟩:=h.2 i hi;exact⟨x,h1,h2,fun r hr=>by rw[h3 r hr,hb _ (by omega)]⟩
theorem WR.zero:WR (List.replicate 16 0) fun _=>false:=by
 refine⟨rfl,fun i hi=>⟨0,?_,by decide,fun r _=>by simp⟩⟩;rw[List.getElem?_replicate,if_pos hi];rfl
def par (l:List (Int×Int)) (j:Nat):Bool:=l.countP (fun e=>decide (e.2=(j:Int))) % 2==1
section scan
variable {L:List Spans}{top:Int}{S:List (Int×Int)}{E:List Int}
structure ScanOk (L:List Spans) (top:Int) (S:List (Int×Int)) (E:List Int):Prop where
 sets:∀ s∈L,SetV s
 top0:0<=top
 many:L.length<=1024
 perm:S.Perm (endsP top 0 L)
 sorted:S.Pairwise fun a b=>a.1<=b.1
 ends:EndsOk top E
 mem:∀ x,x∈E↔x=0∨∃ s∈L,∃ p∈s,(x=p.1∨x=p.2+1)/\x<=top
def From (S:List (Int×Int)) (j:Nat) (x:Int):Prop:=(∀ i e,i<j->S[i]?=some e->e.1<x)/\∀ i e,j<=i->S[i]?=some e->x<=e.1
def Past (S:List (Int×Int)) (j:Nat) (x:Int):Prop:=(∀ i e,i<j->S[i]?=some e->e.1<=x)/\∀ i e,j<=i->S[i]?=some e->x<e.1
theorem ScanOk.at (h:ScanOk L top S E) {j:Nat}{e:Int×Int} (he:S[j]?=some e):(∃ k:Nat,e.2=(k:Int)/\k<L.length)/\e.1∈E/\0<=e.1/\e.1<=top:=by
 have hm:=h.perm.mem_iff.1 (mem_of_getElem? he);obtain⟨⟨k,h1,_,h2⟩,h3⟩:=Fi hm;have hE:=(h.mem e.1).2 (.inr h3);exact⟨⟨k,h1,by omega⟩,hE,h.ends.le _ hE⟩
theorem ScanOk.has (h:ScanOk L top S E) {x:Int} (hx:x∈E) (h0:x≠0):∃(j:Nat) (e:Int×Int),S[j]?=some e/\e.1=x:=by
 rcases(h.mem x).1 hx with h1|h1
 ·exact absurd h1 h0
 ·obtain⟨e,he,h2⟩:=Iq (i:=0) h1;obtain⟨j,hj⟩:=getElem?_of_mem (h.perm.mem_iff.2 he);exact⟨j,e,hj,h2⟩
theorem Past.par (h:ScanOk L top S E) {j:Nat}{x:Int} (hx:x<=top) (hp:Past S j x) (k:Nat):par (S.take j) k=(colA L x).getD k false:=by
 have h1:=HW hx (L:=L) (i:=0) (j:=k) h.sets (zero_le _);rw[<- h.perm.countP_eq,Nat.sub_zero]at h1;have h2:S.countP (fun e=>decide (e.1<=x)&&decide (e.2=(k:Int)))=(S.take j).countP fun e=>decide (e.2=(k:Int)):=by
  conv=>lhs;rw[<- List.take_append_drop j S,List.countP_append]
  have e1:(S.drop j).countP (fun e=>decide (e.1<=x)&&decide (e.2=(k:Int)))=0:=by
   rw[List.countP_eq_zero];intro e he;obtain⟨i,hi⟩:=getElem?_of_mem he;rw[List.getElem?_drop]at hi;have:=hp.2 (j+i) e (by omega) hi;simp;intro _;omega
  rw[e1,Nat.add_zero];refine List.countP_congr fun e he=>?_;obtain⟨i,hi⟩:=getElem?_of_mem he;rw[List.getElem?_take]at hi;split at hi
  ·have:=hp.1 i e (by assumption) hi;simp[this]
  ·cases hi
 unfold Ev.par;rw[<- h2,h1];cases (colA L x).getD k false<;>rfl
theorem DV {E:List Int}{top x:Int}{k:Nat} (h:E[k]?=some x):lastP E top k=x:=by simp[lastP,h]
theorem FY {E:List Int}{top:Int}{k:Nat} (h:E.length<=k):lastP E top k=top+1:=by simp[lastP,getElem?_eq_none h]
theorem EndsOk.lt (h:EndsOk top E) {i j:Nat}{x y:Int} (hi:E[i]?=some x) (hj:E[j]?=some y) (hij:i<j):x<y:=by
 obtain⟨h1,e1⟩:=List.getElem?_eq_some_iff.1 hi;obtain⟨h2,e2⟩:=List.getElem?_eq_some_iff.1 hj;have:=List.pairwise_iff_getElem.1 h.sorted i j h1 h2 hij;rw[e1,e2]at this;exact this
theorem EndsOk.first (h:EndsOk top E):E[0]?=some 0:=by
 obtain⟨j,hj⟩:=getElem?_of_mem h.zero;rcases Nat.eq_zero_or_pos j with rfl|h0
 ·exact hj
 ·have hlt:=(List.getElem?_eq_some_iff.1 hj).1;obtain⟨x,hx⟩:∃ x,E[0]?=some x:=⟨_,getElem?_eq_getElem (by omega)⟩;have h1:=h.lt hx hj h0;have h2:=h.le x (mem_of_getElem? hx);omega
theorem EndsOk.step (h:EndsOk top E) {k:Nat} (hk:k<E.length):lastP E top k<lastP E top (k+1)/\0<=lastP E top k/\lastP E top k<=top/\lastP E top (k+1)<=top+1:=by
 obtain⟨x,hx⟩:∃ x,E[k]?=some x:=⟨_,getElem?_eq_getElem hk⟩;have hl:=h.le x (mem_of_getElem? hx);rw[DV hx];rcases lt_or_ge (k+1) E.length with h1|h1
 ·obtain⟨y,hy⟩:∃ y,E[k+1]?=some y:=⟨_,getElem?_eq_getElem h1⟩;have hl2:=h.le y (mem_of_getElem? hy);rw[DV hy];exact⟨h.lt hx hy (by omega),hl.1,hl.2,by omega⟩
 ·rw[FY h1];exact⟨by omega,hl.1,hl.2,by omega⟩
theorem EndsOk.mono (h:EndsOk top E) {i j:Nat} (hij:i<j) (hj:j<=E.length):lastP E top i<lastP E top j:=by
 obtain⟨x,hx⟩:∃ x,E[i]?=some x:=⟨_,getElem?_eq_getElem (by omega)⟩;rw[DV hx];rcases lt_or_ge j E.length with h1|h1
 ·obtain⟨y,hy⟩:∃ y,E[j]?=some y:=⟨_,getElem?_eq_getElem h1⟩;rw[DV hy];exact h.lt hx hy hij
 ·rw[FY h1];have:=(h.le x (mem_of_getElem? hx)).2;omega
theorem Past.next (h:ScanOk L top S E) {j k:Nat} (hk:k<E.length) (hp:Past S j (lastP E top k)):lastP E top (k+1)=(match S[j]? with
  | some e=>e.1
  | none=>top+1)/\From S j (lastP E top (k+1)):=by
 obtain⟨x,hx⟩:∃ x,E[k]?=some x:=⟨_,getElem?_eq_getElem hk⟩;have hl:=h.ends.le x (mem_of_getElem? hx);rw[DV hx]at hp;have hsort:∀(i i':Nat) (e e':Int×Int),i<=i'->S[i]?=some e->S[i']?=some e'->e.1<=e'.1:=fun i i' e e' hii h1 h2=>by
  rcases Nat.lt_or_eq_of_le hii with h3|rfl
  ·obtain⟨l1,q1⟩:=List.getElem?_eq_some_iff.1 h1;obtain⟨l2,q2⟩:=List.getElem?_eq_some_iff.1 h2;have:=List.pairwise_iff_getElem.1 h.sorted i i' l1 l2 h3;rw[q1,q2]at this;exact this
  ·rw[h1]at h2;rw[Option.some.inj h2];exact Int.le_refl _
 have later:∀(m:Nat) (y:Int),k<m->E[m]?=some y->∃(i:Nat) (e:Int×Int),j<=i/\S[i]?=some e/\e.1=y:=fun m y hm hy=>by
  have hlt:=h.ends.lt hx hy hm;obtain⟨i,e,hi,he⟩:=h.has (mem_of_getElem? hy) (by omega);refine⟨i,e,?_,hi,he⟩;rcases lt_or_ge i j with h1|h1
  ·have:=hp.1 i e h1 hi;omega
  ·exact h1
 cases hS:S[j]? with
 | none=>
   have hk1:E.length<=k+1:=by
    rcases lt_or_ge (k+1) E.length with h1|h1
    ·obtain⟨i,e,h2,h3,_⟩:=later (k+1) _ (by omega) (getElem?_eq_getElem h1);have:=(List.getElem?_eq_some_iff.1 h3).1;have:=List.getElem?_eq_none_iff.1 hS;omega
    ·exact h1
   rw[FY hk1];refine⟨rfl,fun i e hi he=>?_,fun i e hi he=>?_⟩
   ·have:=hp.1 i e hi he;omega
   ·have h1:=(List.getElem?_eq_some_iff.1 he).1;have h2:=List.getElem?_eq_none_iff.1 hS;omega
 | some e=>
   have hgt:=hp.2 j e (le_refl _) hS;obtain⟨m,hm⟩:=getElem?_of_mem (h.at hS).2.1;have hkm:k<m:=by
    rcases lt_or_ge k m with h1|h1
    ·exact h1
    ·rcases Nat.lt_or_eq_of_le h1 with h2|rfl
     ·have:=h.ends.lt hm hx h2;omega
     ·rw[hm]at hx;have:=Option.some.inj hx;omega
   have hmlt:=(List.getElem?_eq_some_iff.1 hm).1;obtain⟨y,hy⟩:∃ y,E[k+1]?=some y:=⟨_,getElem?_eq_getElem (by omega)⟩;obtain⟨i,e',h1,h2,h3⟩:=later (k+1) y (by omega) hy;have h4:=hsort j i e e' h1 hS h2;have h5:y<=e.1:=by
    rcases Nat.lt_or_eq_of_le (show k+1<=m by omega) with h6|rfl
    ·exact Int.le_of_lt (h.ends.lt hy hm h6)
    ·rw[hy]at hm;rw[Option.some.inj hm];exact Int.le_refl _
   have h6:y=e.1:=by omega
   rw[DV hy,h6];refine⟨rfl,fun i' e2 hi he=>?_,fun i' e2 hi he=>hsort j i' e e2 hi hS he⟩;have:=hp.1 i' e2 hi he;omega
theorem From.zero (h:ScanOk L top S E):From S 0 0:=⟨fun i e hi=>by omega,fun i e _ he=>(h.at he).2.2.1⟩
def Mid (S:List (Int×Int)) (j:Nat) (x:Int):Prop:=(∀ i e,i<j->S[i]?=some e->e.1<=x)/\∀ i e,j<=i->S[i]?=some e->x<=e.1
theorem Mid.step {j:Nat}{x:Int} (h:Mid S j x) {e:Int×Int} (he:S[j]?=some e) (hx:e.1=x):Mid S (j+1) x:=by
 refine⟨fun i e' hi h1=>?_,fun i e' hi h1=>h.2 i e' (by omega) h1⟩;rcases Nat.lt_succ_iff_lt_or_eq.1 hi with h2|rfl
 ·exact h.1 i e' h2 h1
 ·rw[he]at h1;rw[<- Option.some.inj h1];omega
end scan
end Go.Ev
namespace Go.Ev
attribute [local go_sem] AV.ok Av BG bndO bnd evEq eqCells not_false_eq_true not_true_eq_false Af Array.size_empty tySzE List.head?_drop Nat.mul_one AR AY AP AS AT Ad
section
attribute [local go_sem] evBin frzB length_append map_append
abbrev setAV (s:Spans):AV:=.sl false (s.map spanAV)
end
section
attribute [local go_sem] frzB length_append map_append
abbrev U (n:Int):AV:=.int .u64 n
abbrev wAV (w:List Int):AV:=.agg (w.map U)
theorem PH:∀ {a b:List Int},AV.beqL (a.map U) (b.map U)=true↔a=b
 | [],[]=>by simp[AV.beqL]
 | [],_::_=>by simp[AV.beqL]
 | _::_,[]=>by simp[AV.beqL]
 | x::a,y::b=>by
   have:=@PH a b;simp[AV.beqL,AV.beq,this]
theorem Mr {a b:List Int}:AV.beq (wAV a) (wAV b)=true↔a=b:=PH
def ent:Nat->List (List Int)->List (AV×AV)
 | _,[]=>[]
 | i,w::ws=>(wAV w,I i)::ent (i+1) ws
theorem Kn {w:List Int}:∀ {ws:List (List Int)}{i n:Nat},ws[n]?=some w->(∀ m,ws[m]?=some w->m=n)->findMp (wAV w) (ent i ws)=some (I ((i+n:Nat):Int))
 | [],i,n,h,_=>by simp at h
 | v::ws,i,n,h,hu=>by
   simp only[ent,findMp];by_cases e:v=w
   ·rw[if_pos (Mr.2 e)];have:=hu 0 (by simp[e]);subst this;rfl
   ·rw[if_neg (fun h2=>e (Mr.1 h2))];cases n with
    | zero=>simp at h;exact absurd h e
    | succ n=>
      rw[Kn (ws:=ws) (i:=i+1) (n:=n) (by simpa using h) (fun m hm=>by have:=hu (m+1) (by simpa using hm);omega)];congr 3;omega
def clsAV (ids:List Nat) (cls:List Spans):List AV:=List.zipWith (fun id c=>AV.ms id 2 c.length 0 c.length) ids cls
theorem Fl {ids:List Nat}{cls:List Spans} (h:ids.length=cls.length):(clsAV ids cls).length=cls.length:=by simp[clsAV,h]
theorem NX {ids:List Nat}{cls:List Spans}{n id:Nat} (h1:ids[n]?=some id) (c:Spans):(clsAV ids cls).set n (.ms id 2 c.length 0 c.length)=clsAV ids (cls.set n c):=by
 refine ext_getElem? fun i=>?_;unfold clsAV;rw[List.getElem?_set,List.getElem?_zipWith,List.getElem?_zipWith,List.getElem?_set,List.length_zipWith];by_cases e:n=i
 ·subst e;have hlt:=(List.getElem?_eq_some_iff.1 h1).1;rw[if_pos rfl,if_pos rfl,h1];by_cases h:n<cls.length
  ·rw[if_pos (by omega),if_pos h]
  ·rw[if_neg (by omega),if_neg h]
 ·rw[if_neg e,if_neg e]
theorem L7 {ids:List Nat}{cls:List Spans} (h:ids.length=cls.length) (id:Nat) (c:Spans):clsAV (ids++[id]) (cls++[c])=clsAV ids cls++[.ms id 2 c.length 0 c.length]:=by
 unfold clsAV;rw[List.zipWith_append h];rfl
theorem KX {H:List MB}{id n i k z:Nat}{els:List AV} (h:getRow H i=some (k,els,z)):∃ z',getRow (mark H id n) i=some (k,els,z'):=by
 unfold mark;cases hr:getRow H id with
 | none=>exact⟨z,h⟩
 | some x=>
   obtain⟨k',els',z0⟩:=x;simp only;have hi:=Bp h;have hid:=Bp hr;unfold getRow;by_cases e:id=i
   ·subst e;rw[h]at hr;cases hr;rw[getElem?_set_self (List.getElem?_eq_some_iff.1 hid).1];exact⟨_,rfl⟩
   ·rw[getElem?_set_ne e,hi];exact⟨z,rfl⟩
theorem Mk (k:Nat):∀(ids:List Nat) (cls:List Spans) (H:List MB),ids.length=cls.length->(∀(n id:Nat) (c:Spans),ids[n]?=some id->cls[n]?=some c->∃ z,getRow H id=some (2,c.map spanAV,z)) ->
  ∃ H',fzL (fzJ (k+1)) (clsAV ids cls) H=some (cls.map setAV,H')
 | [],[],H,_,_=>⟨H,rfl⟩
 | [],_::_,H,h,_=>by simp at h
 | _::_,[],H,h,_=>by simp at h
 | id::ids,c::cls,H,h,hr=>by
   obtain⟨z,h0⟩:=hr 0 id c rfl rfl;have h1:=DF (n:=k) h0 (List.length_map _) (AF c);obtain⟨H',h2⟩:=Mk k ids cls (mark H id c.length) (by simpa using h) (fun n id' c' a b=>by
    obtain⟨z',h3⟩:=hr (n+1) id' c' (by simpa using a) (by simpa using b);exact KX h3)
   refine⟨H',?_⟩;show fzL (fzJ (k+1)) (.ms id 2 c.length 0 c.length::clsAV ids cls) H=_;simp only[fzL,h1,h2];rfl
structure ClsOk (H:List MB) (ids:List Nat) (cls:List Spans):Prop where
 len:ids.length=cls.length
 out:H[2]?=some (.row 1 (clsAV ids cls) 0)
 rows:∀(n id:Nat) (c:Spans),ids[n]?=some id->cls[n]?=some c->H[id]?=some (.row 2 (c.map spanAV) 0)
 nodup:ids.Nodup
 high:∀ id∈ids,3<=id
theorem ClsOk.fz {H:List MB}{ids:List Nat}{cls:List Spans} (h:ClsOk H ids cls) {n:Nat} (hn:cls.length=n):∃ H',fz (.tup [.ms 2 1 n 0 n,I 0]) H=some (.tup [.sl false (cls.map setAV),I 0],H'):=by
 subst hn;have h0:getRow H 2=some (1,clsAV ids cls,0):=by unfold getRow;rw[h.out]
 obtain⟨H',h1⟩:=Mk 4 ids cls (mark H 2 (0+cls.length)) h.len (fun n id c a b=>KX (z:=0) (by unfold getRow;rw[h.rows n id c a b]));have hl:=Fl h.len;refine⟨H',?_⟩;unfold Ev.fz;rw[JX];have h2:fzA (fzJ 6) (.ms 2 1 cls.length 0 cls.length) H=some (.sl false (cls.map setAV),H'):=
  JY h0 hl (by omega) (by rw[List.drop_zero,List.take_of_length_le (by omega)];exact h1)
 simp only[fzL,h2];rfl
theorem ClsOk.put {H:List MB}{ids:List Nat}{cls:List Spans} (h:ClsOk H ids cls) {i:Nat} (hi:i<2) (x:MB):ClsOk (H.set i x) ids cls:=
 ⟨h.len,by rw[getElem?_set_ne (by omega)];exact h.out,fun n id c a b=>by
   have:=h.high id (mem_of_getElem? a);rw[getElem?_set_ne (by omega)];exact h.rows n id c a b,h.nodup,h.high⟩
section split
variable (L:List Spans) (top:Int) (S:List (Int×Int)) (E:List Int)
def KK16:KK:=.flat 132 [some .u64,some .u64,some .u64,some .u64,some .u64,some .u64,some .u64,some .u64,some .u64,some .u64,some .u64,some .u64,some .u64,some .u64,some .u64,some .u64]
structure XI (k j:Nat) (w:List Int) (ws:List (List Int)) (ids:List Nat) (H:List MB):Prop where
 k_le:k<=E.length
 j_le:j<=S.length
 wr:WR w (par (S.take j))
 b0:H[0]?=some (.row 16 [wAV w] 0)
 b1:H[1]?=some (.mp KK16 (ent 0 ws))
 keys:ws.length=(firsts (colK L E top) k).length
 key:∀(n:Nat) (c:List Bool),(firsts (colK L E top) k)[n]?=some c->∃ w,ws[n]?=some w/\WR w fun s=>c.getD s false
 cls:ClsOk H ids (classesA (colK L E top) (pieceA E top) k)
 few:¬ tooBig (colK L E top) (pieceA E top) k
end split
theorem WR.len {w:List Int}{b:Nat->Bool} (h:WR w b):w.length=16:=h.1
theorem HZ (L:List Spans) (E:List Int) (top:Int) (k:Nat):(colK L E top k).length=L.length:=by simp[colK,colA]
theorem DG {L:List Spans}{E:List Int}{top:Int}{k:Nat}{c:List Bool} (h:c∈firsts (colK L E top) k):c.length=L.length:=by
 obtain⟨i,_,rfl⟩:=Eh.1 h;exact HZ L E top i
theorem O9 {c d:List Bool} (h:c.length=d.length) (hl:c.length<=1024) (he:∀ s,s<1024->c.getD s false=d.getD s false):c=d:=by
 refine ext_getElem? fun i=>?_;rcases lt_or_ge i c.length with h1|h1
 ·have:=he i (by omega);simp only[List.getD_eq_getElem?_getD]at this;rw[getElem?_eq_getElem h1,getElem?_eq_getElem (by omega)]at this |-
  simpa using this
 ·rw[getElem?_eq_none h1,getElem?_eq_none (by omega)]
structure Upd (H H1:List MB) (id:Nat) (r:MB):Prop where
 at_:H1[id]?=some r
 len:H.length<=H1.length
 same:∀ i,i≠id->i<H.length->H1[i]?=H[i]?
theorem ClsOk.upd {H H1:List MB}{ids:List Nat}{cls:List Spans} (h:ClsOk H ids cls) {n id:Nat}{c:Spans} (hn:ids[n]?=some id) (hu:Upd H H1 id (.row 2 (c.map spanAV) 0)) :
  ClsOk (H1.set 2 (.row 1 ((clsAV ids cls).set n (.ms id 2 c.length 0 c.length)) 0)) ids (cls.set n c):=by
 have hid:=h.high id (mem_of_getElem? hn);have h2:=(List.getElem?_eq_some_iff.1 h.out).1;have hl:=hu.len;refine⟨by rw[List.length_set];exact h.len,?_,fun m id' c' a b=>?_,h.nodup,h.high⟩
 ·rw[getElem?_set_self (by omega),NX hn]
 ·have hid':=h.high id' (mem_of_getElem? a);rw[getElem?_set_ne (by omega)];rw[List.getElem?_set]at b;by_cases e:n=m
  ·subst e;rw[hn]at a;obtain rfl:=Option.some.inj a;rw[if_pos rfl]at b;split at b
   ·rw[<- Option.some.inj b];exact hu.at_
   ·cases b
  ·rw[if_neg e]at b;have hne:id'≠id:=fun e2=>by
    obtain⟨l1,q1⟩:=List.getElem?_eq_some_iff.1 hn;obtain⟨l2,q2⟩:=List.getElem?_eq_some_iff.1 a;have hnd:=List.pairwise_iff_getElem.1 h.nodup;rcases Nat.lt_or_gt_of_ne e with h4|h4
    ·exact hnd n m l1 l2 h4 (q1.trans (e2.symm.trans q2.symm))
    ·exact hnd m n l2 l1 h4 (q2.trans (e2.trans q1.symm))
   have hr:=h.rows m id' c' a b;rw[hu.same id' hne (List.getElem?_eq_some_iff.1 hr).1];exact hr
theorem ClsOk.new {H Hb Hc:List MB}{ids:List Nat}{cls:List Spans} (h:ClsOk H ids cls) {x y:MB}{p:Int×Int} (hb:Hb=(H.set 1 x).set 2 y) (hu:Upd Hb Hc (Hb.length+1) (.row 2 ([p].map spanAV) 0)) :
  ClsOk (Hc.set 2 (.row 1 ((clsAV ids cls++[AV.sl true []]).set cls.length (.ms (Hb.length+1) 2 1 0 1)) 0)) (ids++[Hb.length+1]) (cls++[[p]]):=by
 have hbl:Hb.length=H.length:=by rw[hb];simp
 have h2:=(List.getElem?_eq_some_iff.1 h.out).1;have hl:=hu.len;have hids:∀ id∈ids,id<H.length:=fun id hid=>by
  obtain⟨n,hn⟩:=getElem?_of_mem hid;have h3:=(List.getElem?_eq_some_iff.1 hn).1;obtain⟨c,hc⟩:∃ c,cls[n]?=some c:=⟨_,getElem?_eq_getElem (by rw[<- h.len];exact h3)⟩;exact(List.getElem?_eq_some_iff.1 (h.rows n id c hn hc)).1
 refine⟨by simp[h.len],?_,fun m id c a b=>?_,?_,?_⟩
 ·rw[getElem?_set_self (by omega),L7 h.len];congr 2;rw[set_append_right _ _ (by rw[Fl h.len];exact le_refl _),Fl h.len];simp
 ·rcases lt_or_ge m ids.length with h3|h3
  ·rw[getElem?_append_left h3]at a;rw[getElem?_append_left (by rw[<- h.len];exact h3)]at b;have hid:=h.high id (mem_of_getElem? a);have hr:=h.rows m id c a b;have hlt:=hids id (mem_of_getElem? a);rw[getElem?_set_ne (by omega),hu.same id (by omega) (by omega),hb,getElem?_set_ne (by omega),getElem?_set_ne (by omega)];exact hr
  ·have hm:m=ids.length:=by
    have:=(List.getElem?_eq_some_iff.1 a).1;simp at this;omega
   subst hm;rw[getElem?_append_right (le_refl _),sub_self]at a;rw[h.len,getElem?_append_right (le_refl _),sub_self]at b;simp at a b;rw[<- a,<- b,getElem?_set_ne (by omega)];exact hu.at_
 ·exact List.nodup_append.2 ⟨h.nodup,by simp,fun a ha b hb2 e=>by
   have:=hids a ha;rw[mem_singleton.1 hb2]at e;omega⟩
 ·intro id hid;rcases mem_append.1 hid with h3|h3
  ·exact h.high id h3
  ·rw[mem_singleton.1 h3];omega
section rounds
variable {L:List Spans}{top:Int}{S:List (Int×Int)}{E:List Int}{k j:Nat}{w:List Int}{ws:List (List Int)}{ids:List Nat}{H:List MB}
theorem XI.old (h:XI L top S E k j w ws ids H) (hk:k<E.length) {n id:Nat} (hn:(firsts (colK L E top) k)[n]?=some (colK L E top k)) (hid:ids[n]?=some id) {H1:List MB}
  (hu:Upd H H1 id (.row 2 ((addI (clsOf (colK L E top) (pieceA E top) (colK L E top k) k) (pieceA E top k)).map spanAV) 0)) (h64:¬ 64<(addI (clsOf (colK L E top) (pieceA E top) (colK L E top k) k) (pieceA E top k)).length) :
  XI L top S E (k+1) j w ws ids (H1.set 2 (.row 1 ((clsAV ids (classesA (colK L E top) (pieceA E top) k)).set n (.ms id 2 (addI (clsOf (colK L E top) (pieceA E top) (colK L E top k) k) (pieceA E top k)).length 0 (addI (clsOf (colK L E top) (pieceA E top) (colK L E top k) k) (pieceA E top k)).length)) 0)):=by
 obtain⟨e1,e2,e3⟩:=K6 (pc:=pieceA E top) hn;have hid3:=h.cls.high id (mem_of_getElem? hid);have h0:=(List.getElem?_eq_some_iff.1 h.b0).1;have h1:=(List.getElem?_eq_some_iff.1 h.b1).1;refine⟨hk,h.j_le,h.wr,?_,?_,by rw[e1];exact h.keys,by rw[e1];exact h.key,by rw[e2];exact h.cls.upd hid hu,?_⟩
 ·rw[getElem?_set_ne (by omega),hu.same 0 (by omega) h0];exact h.b0
 ·rw[getElem?_set_ne (by omega),hu.same 1 (by omega) h1];exact h.b1
 ·rintro(h2|⟨c,hc,h2⟩)
  ·rw[e1]at h2;exact h.few (.inl h2)
  ·rw[e1]at hc;simp only[clsOf]at h2;split at h2
   ·rename_i e;subst e;exact h64 h2
   ·exact h.few (.inr ⟨c,hc,h2⟩)
theorem XI.new (h:XI L top S E k j w ws ids H) (hk:k<E.length) (hn:colK L E top k ∉ firsts (colK L E top) k) (hWk:WR w fun s=>(colK L E top k).getD s false) {Hb Hc:List MB}{y:MB}
  (hb:Hb=(H.set 1 (.mp KK16 (ent 0 (ws++[w])))).set 2 y) (hu:Upd Hb Hc (Hb.length+1) (.row 2 ([pieceA E top k].map spanAV) 0)) (hm:¬ 1024<(firsts (colK L E top) k).length+1) :
  XI L top S E (k+1) j w (ws++[w]) (ids++[Hb.length+1]) (Hc.set 2 (.row 1 ((clsAV ids (classesA (colK L E top) (pieceA E top) k)++[AV.sl true []]).set (firsts (colK L E top) k).length (.ms (Hb.length+1) 2 1 0 1)) 0)):=by
 obtain⟨e1,e2⟩:=K7 (pc:=pieceA E top) hn;have h0:=(List.getElem?_eq_some_iff.1 h.b0).1;have h1:=(List.getElem?_eq_some_iff.1 h.b1).1;have hbl:Hb.length=H.length:=by rw[hb];simp
 refine⟨hk,h.j_le,h.wr,?_,?_,by rw[e1];simp[h.keys],fun n c hc=>?_,?_,?_⟩
 ·rw[getElem?_set_ne (by omega),hu.same 0 (by omega) (by omega),hb,getElem?_set_ne (by omega),getElem?_set_ne (by omega)];exact h.b0
 ·rw[getElem?_set_ne (by omega),hu.same 1 (by omega) (by omega),hb,getElem?_set_ne (by omega),getElem?_set_self h1]
 ·rw[e1]at hc;rcases lt_or_ge n (firsts (colK L E top) k).length with h3|h3
  ·rw[getElem?_append_left h3]at hc;obtain⟨v,h4,h5⟩:=h.key n c hc;exact⟨v,by rw[getElem?_append_left (by rw[h.keys];exact h3)];exact h4,h5⟩
  ·have hm:n=(firsts (colK L E top) k).length:=by
    have:=(List.getElem?_eq_some_iff.1 hc).1;simp at this;omega
   subst hm;rw[getElem?_append_right (le_refl _),sub_self]at hc;simp at hc;subst hc;exact⟨w,by rw[<- h.keys];simp,hWk⟩
 ·rw[e2];have:=h.cls.new hb hu;rw[K8]at this;exact this
 ·rintro(h2|⟨c,hc,h2⟩)
  ·rw[e1,length_append]at h2;exact hm h2
  ·simp only[clsOf]at h2;split at h2
   ·rename_i e;rw[<- e,Ix hn,LP]at h2;simp at h2
   ·rename_i e;rw[e1]at hc;rcases mem_append.1 hc with h3|h3
    ·exact h.few (.inr ⟨c,h3,h2⟩)
    ·exact e (mem_singleton.1 h3).symm
theorem XI.find (h:XI L top S E k j w ws ids H) (hl:L.length<=1024) (hWk:WR w fun s=>(colK L E top k).getD s false) {n:Nat} (hn:(firsts (colK L E top) k)[n]?=some (colK L E top k)):findMp (wAV w) (ent 0 ws)=some (I n):=by
 obtain⟨v,h1,h2⟩:=h.key n _ hn;have hv:v=w:=h2.uniq hWk fun j _=>rfl;subst hv;rw[Kn h1,Nat.zero_add];intro m hm;have hml:m<(firsts (colK L E top) k).length:=by rw[<- h.keys];exact(List.getElem?_eq_some_iff.1 hm).1
 obtain⟨c,hc⟩:∃ c,(firsts (colK L E top) k)[m]?=some c:=⟨_,getElem?_eq_getElem hml⟩;obtain⟨v',h3,h4⟩:=h.key m c hc;rw[hm]at h3;obtain rfl:=Option.some.inj h3;have hce:c=colK L E top k:=O9 (by rw[DG (mem_of_getElem? hc),HZ]) (by rw[DG (mem_of_getElem? hc)];exact hl) fun s hs=>h4.inj hWk hs;rw[hce]at hc;obtain⟨l1,q1⟩:=List.getElem?_eq_some_iff.1 hc;obtain⟨l2,q2⟩:=List.getElem?_eq_some_iff.1 hn;have hnd:=List.pairwise_iff_getElem.1 (Cr (col:=colK L E top) k);rcases Nat.lt_trichotomy m n with h5|h5|h5
 ·exact absurd (q1.trans q2.symm) (hnd m n l1 l2 h5)
 ·exact h5
 ·exact absurd (q2.trans q1.symm) (hnd n m l2 l1 h5)
theorem XI.none (h:XI L top S E k j w ws ids H) (hl:L.length<=1024) (hWk:WR w fun s=>(colK L E top k).getD s false) (hn:colK L E top k ∉ firsts (colK L E top) k):w ∉ ws:=by
 intro hw;obtain⟨m,hm⟩:=getElem?_of_mem hw;have hml:m<(firsts (colK L E top) k).length:=by rw[<- h.keys];exact(List.getElem?_eq_some_iff.1 hm).1
 obtain⟨c,hc⟩:∃ c,(firsts (colK L E top) k)[m]?=some c:=⟨_,getElem?_eq_getElem hml⟩;obtain⟨v',h3,h4⟩:=h.key m c hc;rw[hm]at h3;obtain rfl:=Option.some.inj h3;have hce:c=colK L E top k:=O9 (by rw[DG (mem_of_getElem? hc),HZ]) (by rw[DG (mem_of_getElem? hc)];exact hl) fun s hs=>h4.inj hWk hs;exact hn (by rw[<- hce];exact mem_of_getElem? hc)
end rounds
end
section
attribute [local go_sem] evBin AV.cells frzB length_append map_append
def meetL (L:List (List Nat)) (s:List Nat):List (List Nat):=if s=[]∨s∈L then L else L++[s]
def rowL (ins:List Ins) (l:List Nat) (reps:List Int) (L:List (List Nat)):List (List Nat):=reps.foldl (fun L x=>meetL L (nextL ins l x)) L
def StatesOk (N:Nat) (L:List (List Nat)):Prop:=∀ l∈L,(∀ n∈l,n<N)/\l.length<=N
theorem StatesOk.meet {ins:List Ins}{L:List (List Nat)} (h:StatesOk ins.length L) (ns:List Nat):StatesOk ins.length (meetL L (stateL ins ns)):=by
 unfold meetL;split
 ·exact h
 ·intro l hl;rcases mem_append.1 hl with h1|h1
  ·exact h l h1
  ·rw[mem_singleton.1 h1];exact D9 ins ns
theorem StatesOk.row {ins:List Ins} (l:List Nat):∀ {reps:List Int}{L:List (List Nat)},StatesOk ins.length L->StatesOk ins.length (rowL ins l reps L)
 | [],L,h=>h
 | x::reps,L,h=>StatesOk.row l (reps:=reps) (h.meet _)
section meet
end meet
end
end Go.Ev
