/- What functions of the program compute; no further conditions. -/
import Derived.Test.YtdklnlnbemogbaaGreatK19
set_option linter.unusedVariables false
set_option linter.unusedSimpArgs false
open Nat (le_refl lt_or_ge zero_le)
open List (getElem?_eq_none getElem?_of_mem map_take)
open Go.Proofs Go.RowKit Go.IntWalk
set_option maxHeartbeats 8000000
set_option maxRecDepth 100000
namespace Go.Ev
attribute [local go_sem] evAppend evBin AV.cells strOf An As bndO bnd evEq eqCells not_false_eq_true not_true_eq_false toList_some Array.size_empty List.length_append List.map_append tySzE List.head?_drop Nat.mul_one Ac Aj Aa Ad Ae AW
section
def KeepsLow (P:Nat->Prop) (H H':List MB):Prop:=H.length<=H'.length/\∀ i,P i->H'[i]?=H[i]?
theorem KeepsLow.refl (P:Nat->Prop) (H:List MB):KeepsLow P H H:=⟨le_refl _,fun _ _=>rfl⟩
theorem KeepsLow.trans {P:Nat->Prop}{H H' H'':List MB} (h:KeepsLow P H H') (h2:KeepsLow P H' H''):KeepsLow P H H'':=⟨Nat.le_trans h.1 h2.1,fun i hi=>(h2.2 i hi).trans (h.2 i hi)⟩
theorem Lay2.le_refl (a:Lay2):a.le a:=⟨fun _ _ h=>h,fun _ _ h=>h⟩
theorem Lay2.le_trans {a b c:Lay2} (h:a.le b) (h2:b.le c):a.le c:=⟨fun i x hx=>h2.1 i x (h.1 i x hx),fun i x hx=>h2.2 i x (h.2 i x hx)⟩
section
variable {ins:List Ins}{first:List Nat}{size:Nat}{P:Nat->Prop}{D C:Nat}{a:Lay2}{c:CS}{H:List MB}
theorem DI.st_at (h:DI ins first size P D C a c H) {t:Nat}{x:List Nat×Nat} (ht:a.st t=some x):t<H.length/\t≠D/\t≠C:=by
 obtain⟨l,f⟩:=x;obtain⟨b,m,h1,_⟩:=h.st t l f ht;refine⟨(zgb.1 h1).1,fun e=>?_,fun e=>?_⟩
 ·rw[e,h.d]at h1;simp at h1
 ·obtain⟨es,h2,_⟩:=h.cache;rw[e,h2]at h1;cases h1
theorem DI.nx_at (h:DI ins first size P D C a c H) {q:Nat}{x:List Nat} (hq:a.nx q=some x):q<H.length/\q≠D/\q≠C:=by
 obtain⟨es',h1,_⟩:=h.nx q x hq;refine⟨(zgb.1 h1).1,fun e=>?_,fun e=>?_⟩
 ·rw[e,h.d]at h1;cases h1
 ·obtain⟨es,h2,_⟩:=h.cache;rw[e,h2]at h1;simp at h1
theorem DI.dead (h:DI ins first size P D C a c H) (x:MB) (hx:x=.row 3 [stAV true [] .nilm 0] 0) :
  DI ins first size P D C ⟨fun i=>if i=H.length then some ([],0) else a.st i,a.nx⟩ c (H++[x])/\a.le ⟨fun i=>if i=H.length then some ([],0) else a.st i,a.nx⟩:=by
 have old:∀ i,i<H.length->(H++[x])[i]?=H[i]?:=fun i hi=>List.getElem?_append_left hi;have hD:=(zgb.1 h.d).1;obtain⟨es,hC,hes,hce⟩:=h.cache;have hCl:=(zgb.1 hC).1;have hne:∀ t y,a.st t=some y->t≠H.length:=fun t y ht=>by have:=(h.st_at ht).1;omega
 have hle:a.le ⟨fun i=>if i=H.length then some ([],0) else a.st i,a.nx⟩:=⟨fun i y hy=>by simp[hne i y hy,hy],fun _ _ h=>h⟩;refine⟨⟨by rw[old _ hD];exact h.d,⟨fun i hi=>by rw[List.length_append];have:=h.lo.1 i hi;omega,h.lo.2.1,fun i y hy=>?_,h.lo.2.2.2⟩,⟨es,by rw[old _ hCl];exact hC,hes,fun i l hi=>?_⟩,fun t l f ht=>?_,fun q l hq=>?_,h.small⟩,hle⟩
 ·simp only at hy;split at hy
  ·rename_i e;exact fun hp=>by have:=h.lo.1 i hp;omega
  ·exact h.lo.2.2.1 i y hy
 ·obtain⟨b1,b2,t,b3,b4⟩:=hce i l hi;exact⟨b1,b2,t,b3,hle.1 _ _ b4⟩
 ·simp only at ht;split at ht
  ·rename_i e;cases ht;subst e;exact⟨true,.nilm,by simp[hx],(fun n hn=>by cases hn),zero_le _,zero_le _,fun h=>absurd rfl h,fun h=>absurd rfl h⟩
  ·obtain⟨b,m,c1,c2,c3,c4,c5,c6⟩:=h.st t l f ht;exact⟨b,m,by rw[old _ (h.st_at ht).1];exact c1,c2,c3,c4,c5,c6⟩
 ·obtain⟨es',d1,d2⟩:=h.nx q l hq;refine⟨es',by rw[old _ (h.nx_at hq).1];exact d1,fun k v hm=>?_⟩;obtain⟨y,t,f,e1,e2,e3⟩:=d2 k v hm;exact⟨y,t,f,e1,e2,hle.1 _ _ e3⟩
abbrev layN (a:Lay2) (n:Nat) (l:List Nat) (f:Nat):Lay2:=⟨fun i=>if i=n+1 then some (l,f) else a.st i,fun i=>if i=n then some l else a.nx i⟩
theorem DI.made (h:DI ins first size P D C a c H) {l:List Nat} (hl:∀ n∈l,n<ins.length) (hll:l.length<=ins.length) (h0:l≠[]) (hN:ins.length<=8192) (c':CS) (es':List (AV×AV)) (hes:es'.length=c'.L.length)
  (hc:∀(i:Nat) (l':List Nat),c'.L[i]?=some l'->(l' = l/\es'[i]?=some (AV.str (keyS l),AV.rf (H.length+1) 1 0 0))∨(c'.emptied=c.emptied/\∃ es:List (AV×AV),H[C]?=some (.mp .str es)/\c.L[i]?=some l'/\es'[i]?=es[i]?))
  (he:c.emptied<=c'.emptied) (hin:l∈c'.L) (hold:c'.emptied=c.emptied->∀ x∈c.L,x∈c'.L) (hold2:c'.emptied=c.emptied∨c.emptied<c'.emptied)
  (hs:c'.made<=4000000000000/\c'.emptied<=c'.made/\c'.L.length<=size/\1<=size/\size<=1024) :
  DI ins first size P D C (layN a H.length l c'.emptied) c' (own2 H D C (.row 6 [dfaAV ins first size C c'] 0) (.mp .str es') [.mp (.int .i64) [],.row 3 [stAV false l (.mpr H.length) c'.emptied] 0])/\a.le (layN a H.length l c'.emptied):=by
 have hDl:=(zgb.1 h.d).1;obtain⟨es,hC,hes0,hce⟩:=h.cache;have hCl:=(zgb.1 hC).1;have hDC:D≠C:=fun e=>by rw[<- e,h.d]at hC;cases hC
 have hne:∀ t y,a.st t=some y->t≠H.length+1:=fun t y ht=>by have:=(h.st_at ht).1;omega
 have hne2:∀ t y,a.nx t=some y->t≠H.length:=fun t y ht=>by have:=(h.nx_at ht).1;omega
 have hle:a.le (layN a H.length l c'.emptied):=⟨fun i y hy=>by simp[layN,hne i y hy,hy],fun i y hy=>by simp[layN,hne2 i y hy,hy]⟩;have hlo:=h.lo;refine⟨⟨S5 hDl hCl hDC _ _ _,⟨fun i hi=>by rw[Qd];have:=hlo.1 i hi;omega,hlo.2.1,fun i y hy=>?_,fun i y hy=>?_⟩,⟨es',S6 hDl hCl hDC _ _ _,hes,fun i l' hi=>?_⟩,fun t l' f ht=>?_,fun q l' hq=>?_,hs⟩,hle⟩
 ·simp only[layN]at hy;split at hy
  ·exact fun hp=>by have:=hlo.1 i hp;omega
  ·exact hlo.2.2.1 i y hy
 ·simp only[layN]at hy;split at hy
  ·exact fun hp=>by have:=hlo.1 i hp;omega
  ·exact hlo.2.2.2 i y hy
 ·rcases hc i l' hi with ⟨rfl,e2⟩|⟨e1,es0,e2,e3,e4⟩
  ·exact⟨h0,fun n hn=>by have:=hl n hn;omega,_,e2,by simp[layN]⟩
  ·rw[hC]at e2;cases e2;obtain⟨b1,b2,t,b3,b4⟩:=hce i l' e3;exact⟨b1,b2,t,by rw[e4];exact b3,(hle.1 _ _ b4).trans (by rw[e1])⟩
 ·simp only[layN]at ht;split at ht
  ·rename_i e;simp only[Option.some.injEq,Prod.mk.injEq]at ht;obtain⟨rfl,rfl⟩:=ht;subst e;exact⟨false,.mpr H.length,by rw[Lr];rfl,hl,hll,le_refl _,fun _ _=>hin,fun _=>⟨rfl,_,rfl,by simp[layN]⟩⟩
  ·obtain⟨b,m,c1,c2,c3,c4,c5,c6⟩:=h.st t l' f ht;obtain⟨g1,g2,g3⟩:=h.st_at ht;refine⟨b,m,by rw[OL _ _ _ g2 g3 g1];exact c1,c2,c3,by omega,fun z1 z2=>?_,fun z1=>?_⟩
   ·rcases hold2 with e|e
    ·exact hold e l' (c5 z1 (by omega))
    ·omega
   ·obtain⟨z,q,k1,k2⟩:=c6 z1;exact⟨z,q,k1,hle.2 _ _ k2⟩
 ·simp only[layN]at hq;split at hq
  ·rename_i e;subst e;exact⟨[],by have:=Lr (H:=H) (D:=D) (C:=C) (.row 6 [dfaAV ins first size C c'] 0) (.mp .str es') [.mp (.int .i64) [],.row 3 [stAV false l (.mpr H.length) c'.emptied] 0] (k:=0);simpa using this,fun k v hm=>by cases hm⟩
  ·obtain⟨es2,d1,d2⟩:=h.nx q l' hq;obtain⟨g1,g2,g3⟩:=h.nx_at hq;refine⟨es2,by rw[OL _ _ _ g2 g3 g1];exact d1,fun k v hm=>?_⟩;obtain⟨y,t,f,e1,e2,e3⟩:=d2 k v hm;exact⟨y,t,f,e1,e2,hle.1 _ _ e3⟩
end
end
section
section
variable {ins:List Ins}{first:List Nat}{size:Nat}{P:Nat->Prop}{D C:Nat}{a:Lay2}{c:CS}{H:List MB}
end
end
section
theorem KT {P:Program}{pol:Pol}{f:Nat}{args l:List AV}{H H1:List MB} (hp:pol.pure f=true) (h:frzArgs pol f 0 args H=some (l,H1)) (ha:AV.plainL l=true) :
  call P pol f args H=call P pol f l H1:=by
 have hf:∀(l:List AV) (i:Nat),AV.plainL l=true->frzArgs pol f i l H1=some (l,H1):=by
  intro l
  induction l with
  | nil=>intro i _;rfl
  | cons x l ih=>
    intro i h;simp only[AV.plainL,Bool.and_eq_true]at h;simp only[frzArgs,AY H1 h.1,ih (i+1) h.2];split<;>simp_all
 rw[BL,BL];unfold evStep;simp only[hp,if_true,h,hf l 0 ha]
end
section
theorem Si (l:List Nat) (n:Nat) (hl:l.length<=4000000000) (H:List MB):call Pg pol1 106 [.sl false (l.map NV),NV n] H=some (.bool (decide (n∈l)),H):=by
 have hpl:=Qb l;refine AQ Tryz.func106 rfl rfl rfl rfl rfl rfl (fun _=>rfl) (by simp[AV.plain,AV.plainL,hpl]) (by simp[AV.plain]) ?_ H;simp +contextual (disch:=omega) only[Tryz.f106,Ou,go_sem,simprocAttr,OV];refine AS (M:=(Ms 106 2)) rfl l.length (fun i=>(⟨18,[(5,I i),(1,NV n),(0,.sl false (l.map NV))],[]⟩:St)) (fun i=>∀ k m,k<i->l[k]?=some m->m≠n) ?_ ?_ (fun k p h=>by omega) _ (by first|rfl|(refine AO rfl (by rfl) (by rfl) (by rfl) ?_ ?_<;>simp[AV.underL,AV.under,MB.under,AG,AJ,AF,AH,AK,AM,-map_take]))
 ·intro i hi hg;obtain⟨m,hm⟩:∃ m,l[i]?=some m:=⟨_,zga hi⟩;have hm':(l.map NV)[i]?=some (NV m):=by simp[hm]
  by_cases he:m=n
  ·subst he;have hd:decide (m∈l)=true:=decide_eq_true (zgc hm);rw[hd];simp +contextual (disch:=omega) only[Tryz.f106,Ou,go_sem,simprocAttr,OV,hm'];exact fzEq rfl rfl
  ·have hne:(m:Int)≠n:=by omega
   simp +contextual (disch:=omega) only[Tryz.f106,Ou,go_sem,simprocAttr,OV,hm'];refine⟨fun k q hk hq=>?_,(by first|rfl|(refine AO rfl (by rfl) (by rfl) (by rfl) ?_ ?_<;>simp[AV.underL,AV.under,MB.under,AG,AJ,AF,AH,AK,AM,-map_take]))⟩;rcases lt_or_ge k i with h|h
   ·exact hg k q h hq
   ·obtain rfl:k=i:=by omega
    rw[hm]at hq;obtain rfl:=Option.some.inj hq;exact he
 ·intro hg;have hd:decide (n∈l)=false:=decide_eq_false fun hn=>by
   obtain⟨k,hk,e⟩:=List.getElem_of_mem hn;exact hg k n hk (by rw[<- e];exact zga hk) rfl
  rw[hd];simp +contextual (disch:=omega) only[Tryz.f106,Ou,go_sem,simprocAttr,OV];exact fzEq rfl rfl
end
section
theorem OY (l:List (Int×Int)) (x:Int) (hl:l.length<=1000000) (H:List MB):call Pg pol1 175 [.sl false (l.map spanAV),I x] H=some (.bool (hasSpan l x),H):=by
 refine AQ Tryz.func175 rfl rfl rfl rfl rfl rfl (fun _=>rfl) (by simp[AV.plain,AV.plainL,AF,AH,AK,AM]) (by simp[AV.plain,AV.plainL,AF,AH,AK,AM]) ?_ H;simp +contextual (disch:=omega) only[Tryz.f175,Mg,go_sem,simprocAttr,Lt];refine AS (M:=(Ms 175 2)) rfl l.length (fun i=>(⟨28,[(5,I i),(1,I x),(0,.sl false (l.map spanAV))],[]⟩:St)) (fun i=>∀ k p,k<i->l[k]?=some p->¬ (p.1<=x/\x<=p.2)) ?_ ?_ (fun k p h=>by omega) _ (by first|rfl|(refine AO rfl (by rfl) (by rfl) (by rfl) ?_ ?_<;>simp[AV.underL,AV.under,MB.under,AG,AJ,AF,AH,AK,AM,-map_take]))
 ·intro i hi hg;obtain⟨p,hp⟩:∃ p,l[i]?=some p:=⟨_,zga hi⟩;by_cases hin:p.1<=x/\x<=p.2
  ·rw[Nf hp hin];simp +contextual (disch:=omega) only[Tryz.f175,Mg,go_sem,simprocAttr,Lt,hp,spanAV];exact fzEq rfl rfl
  ·have ext:∀ k q,k<i+1->l[k]?=some q->¬ (q.1<=x/\x<=q.2):=fun k q hk hq=>by
    rcases lt_or_ge k i with h|h
    ·exact hg k q h hq
    ·obtain rfl:k=i:=by omega
     rw[hp]at hq;obtain rfl:=Option.some.inj hq;exact hin
   by_cases h1:p.1<=x
   ·simp +contextual (disch:=omega) only[Tryz.f175,Mg,go_sem,simprocAttr,Lt,hp,spanAV];exact⟨ext,(by first|rfl|(refine AO rfl (by rfl) (by rfl) (by rfl) ?_ ?_<;>simp[AV.underL,AV.under,MB.under,AG,AJ,AF,AH,AK,AM,-map_take]))⟩
   ·simp +contextual (disch:=omega) only[Tryz.f175,Mg,go_sem,simprocAttr,Lt,hp,spanAV];exact⟨ext,(by first|rfl|(refine AO rfl (by rfl) (by rfl) (by rfl) ?_ ?_<;>simp[AV.underL,AV.under,MB.under,AG,AJ,AF,AH,AK,AM,-map_take]))⟩
 ·intro hg;rw[Nd hg];simp +contextual (disch:=omega) only[Tryz.f175,Mg,go_sem,simprocAttr,Lt];exact fzEq rfl rfl
theorem Sj (a b:List Int) (ha:a.length<=4000000000) (hb:b.length<=4000000000) (H:List MB):call Pg pol1 69 [.sl false (a.map I),.sl false (b.map I)] H=some (.bool (decide (a=b)),H):=by
 have hpa:=AF a;have hpb:=AF b;refine AQ Tryz.func69 rfl rfl rfl rfl rfl rfl (fun _=>rfl) (by simp[AV.plainL,AV.plain,hpa,hpb]) (by simp[AV.plain]) ?_ H;by_cases hl:a.length=b.length
 ·simp +contextual (disch:=omega) only[Tryz.f69,dd69,go_sem,simprocAttr,mu69];refine AS (M:=(Ms 69 4)) rfl a.length (fun i=>(⟨26,[(5,I i),(1,.sl false (b.map I)),(0,.sl false (a.map I))],[]⟩:St)) (fun i=>∀ k,k<i->a[k]?=b[k]?) ?_ ?_ (fun k h=>by omega) _ (by first|rfl|(refine AO rfl (by rfl) (by rfl) (by rfl) ?_ ?_<;>simp[AV.underL,AV.under,MB.under,AG,AJ,AF,AH,AK,AM,-map_take]))
  ·intro i hi hg;obtain⟨x,hx⟩:∃ x,a[i]?=some x:=⟨_,zga hi⟩;obtain⟨y,hy⟩:∃ y,b[i]?=some y:=⟨_,zga (by omega)⟩;have hx':(a.map I)[i]?=some (I x):=by simp[hx]
   have hy':(b.map I)[i]?=some (I y):=by simp[hy]
   by_cases he:x=y
   ·subst he;simp +contextual (disch:=omega) only[Tryz.f69,dd69,go_sem,simprocAttr,mu69,hx',hy'];refine⟨by unfold dOk;kernel_rfl,fun k hk=>?_,(by first|rfl|(refine AO rfl (by rfl) (by rfl) (by rfl) ?_ ?_<;>simp[AV.underL,AV.under,MB.under,AG,AJ,AF,AH,AK,AM,-map_take]))⟩;rcases Nat.lt_succ_iff_lt_or_eq.1 hk with h|rfl
    ·exact hg k h
    ·rw[hx,hy]
   ·have hd:decide (a=b)=false:=decide_eq_false fun e=>by rw[e,hy]at hx;exact he (Option.some.inj hx).symm
    rw[hd];simp +contextual (disch:=omega) only[Tryz.f69,dd69,go_sem,simprocAttr,mu69,hx',hy'];repeat' (first|intro _|apply And.intro|(unfold dOk;kernel_rfl)|exact St.beq_refl _|exact Ah|(show altO _ _ _ _=true;kernel_rfl)|(show (_||_)=true;kernel_rfl)|(show (_&&_)=true;kernel_rfl))
    all_goals exact fzEq rfl rfl
  ·intro hg;have hd:decide (a=b)=true:=decide_eq_true (List.ext_getElem? fun k=>by
    by_cases hk:k<a.length
    ·exact hg k hk
    ·rw[getElem?_eq_none (by omega),getElem?_eq_none (by omega)])
   rw[hd];simp +contextual (disch:=omega) only[Tryz.f69,dd69,go_sem,simprocAttr,mu69];exact fzEq rfl rfl
 ·have hd:decide (a=b)=false:=decide_eq_false fun e=>hl (by rw[e]);rw[hd];have hne:(a.length:Int)≠b.length:=by omega
  simp +contextual (disch:=omega) only[Tryz.f69,dd69,go_sem,simprocAttr,mu69];exact fzEq rfl rfl
theorem L4 (l:List Nat):l.map NV=(l.map (fun n:Nat=>(n:Int))).map I:=by simp
theorem RO {a b:List Nat}:a.map (fun n:Nat=>(n:Int))=b.map (fun n:Nat=>(n:Int))↔a=b:=
 List.map_inj_right (fun x y e=>by omega)
theorem UG (a b:List Nat) (ha:a.length<=4000000000) (hb:b.length<=4000000000) (H:List MB):call Pg pol1 69 [.sl false (a.map NV),.sl false (b.map NV)] H=some (.bool (decide (a=b)),H):=by
 have h:=Sj (a.map (fun n:Nat=>(n:Int))) (b.map (fun n:Nat=>(n:Int))) (by simpa using ha) (by simpa using hb) H;rw[L4 a,L4 b,h];congr 2;simp only[AV.bool.injEq,decide_eq_decide];exact RO
end
def WR (w:List Int) (b:Nat->Bool):Prop:=w.length=16/\∀ i,i<16->∃ x:Nat,w[i]?=some (x:Int)/\x<2 ^ 64/\∀ r,r<64->x.testBit r=b (64*i+r)
theorem WR.uniq {w w':List Int}{b b':Nat->Bool} (h:WR w b) (h':WR w' b') (hb:∀ j,j<1024->b j=b' j):w=w':=by
 refine List.ext_getElem? fun i=>?_;rcases lt_or_ge i 16 with hi|hi
 ·obtain⟨x,h1,h2,h3⟩:=h.2 i hi;obtain⟨y,h4,h5,h6⟩:=h'.2 i hi;have:x=y:=by
   refine Nat.eq_of_testBit_eq fun r=>?_;rcases lt_or_ge r 64 with hr|hr
   ·rw[h3 r hr,h6 r hr,hb _ (by omega)]
   ·rw[Nat.testBit_lt_two_pow (Nat.lt_of_lt_of_le h2 (Nat.pow_le_pow_right (by omega) hr)),Nat.testBit_lt_two_pow (Nat.lt_of_lt_of_le h5 (Nat.pow_le_pow_right (by omega) hr))]
  rw[h1,h4,this]
 ·rw[getElem?_eq_none (by rw[h.1];exact hi),getElem?_eq_none (by rw[h'.1];exact hi)]
theorem WR.inj {w:List Int}{b b':Nat->Bool} (h:WR w b) (h':WR w b') {j:Nat} (hj:j<1024):b j=b' j:=by
 obtain⟨x,h1,h2,h3⟩:=h.2 (j / 64) (by omega);obtain⟨y,h4,h5,h6⟩:=h'.2 (j / 64) (by omega);rw[h1]at h4;have:x=y:=by have:=Option.some.inj h4;omega
 subst this;have e:64*(j / 64)+j % 64=j:=by omega
 have h7:=h3 (j % 64) (by omega);have h8:=h6 (j % 64) (by omega);rw[e]at h7 h8;rw[<- h7,h8]
theorem WR.congr {w:List Int}{b b':Nat->Bool} (h:WR w b) (hb:∀ j,j<1024->b j=b' j):WR w b':=by
 refine⟨h.1,fun i hi=>?_⟩;obtain⟨x,h1,h2,h3⟩:=h.2 i hi;exact⟨x,h1,h2,fun r hr=>by rw[h3 r hr,hb _ (by omega)]⟩
theorem WR.zero:WR (List.replicate 16 0) fun _=>false:=by
 refine⟨rfl,fun i hi=>⟨0,?_,by decide,fun r _=>by simp⟩⟩;rw[List.getElem?_replicate,if_pos hi];rfl
def xorW (x:Int) (r:Nat):Int:=IntKind.u64.wrap ((BitVec.ofInt 64 x ^^^ BitVec.ofInt 64 (2 ^ r:Int)).toNat:Int)
theorem Rf {x r:Nat} (hx:x<2 ^ 64) (hr:r<64):xorW (x:Int) r=((x ^^^ 2 ^ r:Nat):Int):=by
 have h1:(2:Nat) ^ r<2 ^ 64:=Nat.pow_lt_pow_right (by omega) hr;have h2:x ^^^ 2 ^ r<2 ^ 64:=Nat.xor_lt_two_pow hx h1;have e1:(BitVec.ofInt 64 (x:Int)).toNat=x:=by
  rw[BitVec.ofInt_natCast,BitVec.toNat_ofNat,Nat.mod_eq_of_lt hx]
 have e2:(BitVec.ofInt 64 (2 ^ r:Int)).toNat=2 ^ r:=by
  have:(2 ^ r:Int)=((2 ^ r:Nat):Int):=by simp
  rw[this,BitVec.ofInt_natCast,BitVec.toNat_ofNat,Nat.mod_eq_of_lt h1]
 unfold xorW;rw[BitVec.toNat_xor,e1,e2];simp only[IntKind.wrap,IntKind.bits,IntKind.signed];simp;omega
theorem WR.tog {w:List Int}{b:Nat->Bool} (h:WR w b) {s:Nat} (hs:s<1024) {x:Int} (hx:w[s / 64]?=some x):WR (w.set (s / 64) (xorW x (s % 64))) fun j=>if j=s then !b j else b j:=by
 refine⟨by rw[List.length_set];exact h.1,fun i hi=>?_⟩;obtain⟨y,h1,h2,h3⟩:=h.2 i hi;by_cases e:s / 64=i
 ·subst e;rw[h1]at hx;obtain rfl:(y:Int)=x:=Option.some.inj hx;rw[List.getElem?_set_self (by rw[h.1];exact hi),Rf h2 (by omega)];refine⟨_,rfl,Nat.xor_lt_two_pow h2 (Nat.pow_lt_pow_right (by omega) (by omega)),fun r hr=>?_⟩;rw[Nat.testBit_xor,h3 r hr,Nat.testBit_two_pow];by_cases e2:s % 64=r
  ·have e3:64*(s / 64)+r=s:=by omega
   simp only[if_pos e3];simp[e2]
  ·simp only[if_neg (show ¬ 64*(s / 64)+r=s by omega)];simp[e2]
 ·rw[List.getElem?_set_ne e];refine⟨y,h1,h2,fun r hr=>?_⟩;simp only[if_neg (show ¬ 64*i+r=s by omega)];exact h3 r hr
def par (l:List (Int×Int)) (j:Nat):Bool:=l.countP (fun e=>decide (e.2=(j:Int))) % 2==1
theorem Qc (l:List (Int×Int)) (a:Int) (s:Nat):par (l++[(a,(s:Int))])=fun j=>if j=s then !par l j else par l j:=by
 funext j
 unfold par;rw[List.countP_append];by_cases h:j=s
 ·subst h;simp[List.countP_cons];rcases Nat.mod_two_eq_zero_or_one (l.countP fun e=>decide (e.2=(j:Int))) with h2|h2
  ·rw[h2];simp;omega
  ·rw[h2];simp;omega
 ·have:¬ ((s:Int)=(j:Int)):=by omega
  simp[List.countP_cons,this,h]
section scan
variable {L:List Spans}{top:Int}{S:List (Int×Int)}{E:List Int}
structure ScanOk (L:List Spans) (top:Int) (S:List (Int×Int)) (E:List Int):Prop where
 sets:∀ s∈L,SetV s
 top0:0<=top
 many:L.length<=1024
 perm:S.Perm (endsP top 0 L)
 sorted:S.Pairwise fun a b=>a.1<=b.1
 ends:EndsOk top E
 mem:∀ x,x∈E↔x=0∨∃ s∈L,∃ p∈s,(x=p.1∨x=p.2+1)/\x<=top
def From (S:List (Int×Int)) (j:Nat) (x:Int):Prop:=(∀ i e,i<j->S[i]?=some e->e.1<x)/\∀ i e,j<=i->S[i]?=some e->x<=e.1
def Past (S:List (Int×Int)) (j:Nat) (x:Int):Prop:=(∀ i e,i<j->S[i]?=some e->e.1<=x)/\∀ i e,j<=i->S[i]?=some e->x<e.1
theorem ScanOk.at (h:ScanOk L top S E) {j:Nat}{e:Int×Int} (he:S[j]?=some e):(∃ k:Nat,e.2=(k:Int)/\k<L.length)/\e.1∈E/\0<=e.1/\e.1<=top:=by
 have hm:=h.perm.mem_iff.1 (zgc he);obtain⟨⟨k,h1,_,h2⟩,h3⟩:=Ez hm;have hE:=(h.mem e.1).2 (.inr h3);exact⟨⟨k,h1,by omega⟩,hE,h.ends.le _ hE⟩
theorem ScanOk.has (h:ScanOk L top S E) {x:Int} (hx:x∈E) (h0:x≠0):∃(j:Nat) (e:Int×Int),S[j]?=some e/\e.1=x:=by
 rcases(h.mem x).1 hx with h1|h1
 ·exact absurd h1 h0
 ·obtain⟨e,he,h2⟩:=KH (i:=0) h1;obtain⟨j,hj⟩:=getElem?_of_mem (h.perm.mem_iff.2 he);exact⟨j,e,hj,h2⟩
theorem Past.par (h:ScanOk L top S E) {j:Nat}{x:Int} (hx:x<=top) (hp:Past S j x) (k:Nat):par (S.take j) k=(colA L x).getD k false:=by
 have h1:=Ir hx (L:=L) (i:=0) (j:=k) h.sets (zero_le _);rw[<- h.perm.countP_eq,Nat.sub_zero]at h1;have h2:S.countP (fun e=>decide (e.1<=x)&&decide (e.2=(k:Int)))=(S.take j).countP fun e=>decide (e.2=(k:Int)):=by
  conv=>lhs;rw[<- List.take_append_drop j S,List.countP_append]
  have e1:(S.drop j).countP (fun e=>decide (e.1<=x)&&decide (e.2=(k:Int)))=0:=by
   rw[List.countP_eq_zero];intro e he;obtain⟨i,hi⟩:=getElem?_of_mem he;rw[List.getElem?_drop]at hi;have:=hp.2 (j+i) e (by omega) hi;simp;intro _;omega
  rw[e1,Nat.add_zero];refine List.countP_congr fun e he=>?_;obtain⟨i,hi⟩:=getElem?_of_mem he;rw[List.getElem?_take]at hi;split at hi
  ·have:=hp.1 i e (by assumption) hi;simp[this]
  ·cases hi
 unfold Ev.par;rw[<- h2,h1];cases (colA L x).getD k false<;>rfl
theorem BD {E:List Int}{top x:Int}{k:Nat} (h:E[k]?=some x):lastP E top k=x:=by simp[lastP,h]
theorem By {E:List Int}{top:Int}{k:Nat} (h:E.length<=k):lastP E top k=top+1:=by simp[lastP,getElem?_eq_none h]
theorem EndsOk.lt (h:EndsOk top E) {i j:Nat}{x y:Int} (hi:E[i]?=some x) (hj:E[j]?=some y) (hij:i<j):x<y:=by
 obtain⟨h1,e1⟩:=zgb.1 hi;obtain⟨h2,e2⟩:=zgb.1 hj;have:=List.pairwise_iff_getElem.1 h.sorted i j h1 h2 hij;rw[e1,e2]at this;exact this
theorem EndsOk.first (h:EndsOk top E):E[0]?=some 0:=by
 obtain⟨j,hj⟩:=getElem?_of_mem h.zero;rcases Nat.eq_zero_or_pos j with rfl|h0
 ·exact hj
 ·have hlt:=(zgb.1 hj).1;obtain⟨x,hx⟩:∃ x,E[0]?=some x:=⟨_,zga (by omega)⟩;have h1:=h.lt hx hj h0;have h2:=h.le x (zgc hx);omega
theorem EndsOk.step (h:EndsOk top E) {k:Nat} (hk:k<E.length):lastP E top k<lastP E top (k+1)/\0<=lastP E top k/\lastP E top k<=top/\lastP E top (k+1)<=top+1:=by
 obtain⟨x,hx⟩:∃ x,E[k]?=some x:=⟨_,zga hk⟩;have hl:=h.le x (zgc hx);rw[BD hx];rcases lt_or_ge (k+1) E.length with h1|h1
 ·obtain⟨y,hy⟩:∃ y,E[k+1]?=some y:=⟨_,zga h1⟩;have hl2:=h.le y (zgc hy);rw[BD hy];exact⟨h.lt hx hy (by omega),hl.1,hl.2,by omega⟩
 ·rw[By h1];exact⟨by omega,hl.1,hl.2,by omega⟩
theorem EndsOk.mono (h:EndsOk top E) {i j:Nat} (hij:i<j) (hj:j<=E.length):lastP E top i<lastP E top j:=by
 obtain⟨x,hx⟩:∃ x,E[i]?=some x:=⟨_,zga (by omega)⟩;rw[BD hx];rcases lt_or_ge j E.length with h1|h1
 ·obtain⟨y,hy⟩:∃ y,E[j]?=some y:=⟨_,zga h1⟩;rw[BD hy];exact h.lt hx hy hij
 ·rw[By h1];have:=(h.le x (zgc hx)).2;omega
theorem Past.next (h:ScanOk L top S E) {j k:Nat} (hk:k<E.length) (hp:Past S j (lastP E top k)):lastP E top (k+1)=(match S[j]? with
  | some e=>e.1
  | none=>top+1)/\From S j (lastP E top (k+1)):=by
 obtain⟨x,hx⟩:∃ x,E[k]?=some x:=⟨_,zga hk⟩;have hl:=h.ends.le x (zgc hx);rw[BD hx]at hp;have hsort:∀(i i':Nat) (e e':Int×Int),i<=i'->S[i]?=some e->S[i']?=some e'->e.1<=e'.1:=fun i i' e e' hii h1 h2=>by
  rcases Nat.lt_or_eq_of_le hii with h3|rfl
  ·obtain⟨l1,q1⟩:=zgb.1 h1;obtain⟨l2,q2⟩:=zgb.1 h2;have:=List.pairwise_iff_getElem.1 h.sorted i i' l1 l2 h3;rw[q1,q2]at this;exact this
  ·rw[h1]at h2;rw[Option.some.inj h2];exact Int.le_refl _
 have later:∀(m:Nat) (y:Int),k<m->E[m]?=some y->∃(i:Nat) (e:Int×Int),j<=i/\S[i]?=some e/\e.1=y:=fun m y hm hy=>by
  have hlt:=h.ends.lt hx hy hm;obtain⟨i,e,hi,he⟩:=h.has (zgc hy) (by omega);refine⟨i,e,?_,hi,he⟩;rcases lt_or_ge i j with h1|h1
  ·have:=hp.1 i e h1 hi;omega
  ·exact h1
 cases hS:S[j]? with
 | none=>
   have hk1:E.length<=k+1:=by
    rcases lt_or_ge (k+1) E.length with h1|h1
    ·obtain⟨i,e,h2,h3,_⟩:=later (k+1) _ (by omega) (zga h1);have:=(zgb.1 h3).1;have:=List.getElem?_eq_none_iff.1 hS;omega
    ·exact h1
   rw[By hk1];refine⟨rfl,fun i e hi he=>?_,fun i e hi he=>?_⟩
   ·have:=hp.1 i e hi he;omega
   ·have h1:=(zgb.1 he).1;have h2:=List.getElem?_eq_none_iff.1 hS;omega
 | some e=>
   have hgt:=hp.2 j e (le_refl _) hS;obtain⟨m,hm⟩:=getElem?_of_mem (h.at hS).2.1;have hkm:k<m:=by
    rcases lt_or_ge k m with h1|h1
    ·exact h1
    ·rcases Nat.lt_or_eq_of_le h1 with h2|rfl
     ·have:=h.ends.lt hm hx h2;omega
     ·rw[hm]at hx;have:=Option.some.inj hx;omega
   have hmlt:=(zgb.1 hm).1;obtain⟨y,hy⟩:∃ y,E[k+1]?=some y:=⟨_,zga (by omega)⟩;obtain⟨i,e',h1,h2,h3⟩:=later (k+1) y (by omega) hy;have h4:=hsort j i e e' h1 hS h2;have h5:y<=e.1:=by
    rcases Nat.lt_or_eq_of_le (show k+1<=m by omega) with h6|rfl
    ·exact Int.le_of_lt (h.ends.lt hy hm h6)
    ·rw[hy]at hm;rw[Option.some.inj hm];exact Int.le_refl _
   have h6:y=e.1:=by omega
   rw[BD hy,h6];refine⟨rfl,fun i' e2 hi he=>?_,fun i' e2 hi he=>hsort j i' e e2 hi hS he⟩;have:=hp.1 i' e2 hi he;omega
theorem From.zero (h:ScanOk L top S E):From S 0 0:=⟨fun i e hi=>by omega,fun i e _ he=>(h.at he).2.2.1⟩
def Mid (S:List (Int×Int)) (j:Nat) (x:Int):Prop:=(∀ i e,i<j->S[i]?=some e->e.1<=x)/\∀ i e,j<=i->S[i]?=some e->x<=e.1
theorem From.mid {j:Nat}{x:Int} (h:From S j x):Mid S j x:=⟨fun i e hi he=>Int.le_of_lt (h.1 i e hi he),h.2⟩
theorem Mid.step {j:Nat}{x:Int} (h:Mid S j x) {e:Int×Int} (he:S[j]?=some e) (hx:e.1=x):Mid S (j+1) x:=by
 refine⟨fun i e' hi h1=>?_,fun i e' hi h1=>h.2 i e' (by omega) h1⟩;rcases Nat.lt_succ_iff_lt_or_eq.1 hi with h2|rfl
 ·exact h.1 i e' h2 h1
 ·rw[he]at h1;rw[<- Option.some.inj h1];omega
theorem Mid.past (hs:S.Pairwise fun a b=>a.1<=b.1) {j:Nat}{x:Int} (h:Mid S j x) (hn:∀ e,S[j]?=some e->e.1≠x):Past S j x:=by
 refine⟨h.1,fun i e hi he=>?_⟩;have hlt:=(zgb.1 he).1;obtain⟨e0,h0⟩:∃ e0,S[j]?=some e0:=⟨_,zga (by omega)⟩;have h1:=h.2 j e0 (le_refl _) h0;have h2:=hn e0 h0;have h3:e0.1<=e.1:=by
  rcases Nat.lt_or_eq_of_le hi with h4|rfl
  ·obtain⟨l1,q1⟩:=zgb.1 h0;have:=List.pairwise_iff_getElem.1 hs j i l1 hlt h4;rw[q1,(zgb.1 he).2]at this;exact this
  ·rw[h0]at he;rw[Option.some.inj he];exact Int.le_refl _
 omega
end scan
end Go.Ev
