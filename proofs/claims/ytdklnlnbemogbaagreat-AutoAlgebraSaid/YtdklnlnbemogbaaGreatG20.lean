/- What functions of the program compute; no further conditions. -/
import Derived.Test.YtdklnlnbemogbaaGreatG19
set_option linter.unusedVariables false
set_option linter.unusedSimpArgs false
open List (append_assoc append_nil getElem?_append_left getElem?_eq_getElem getElem?_eq_none getElem?_of_mem getElem?_set_ne getElem?_set_self length_append length_cons length_map map_append map_cons map_map map_take mem_map mem_of_getElem? take_add_one take_length)
open Nat (le_refl lt_or_ge zero_le)
open Go.Proofs Go.RowKit Go.IntWalk
set_option maxHeartbeats 8000000
set_option maxRecDepth 100000
namespace Go.Ev
attribute [local go_sem] evBin strOf Ah Ao bndO bnd evEq eqCells not_false_eq_true not_true_eq_false toList_some Array.size_empty tySzE List.head?_drop Nat.mul_one AY Ae AU AZ Aa AS
section
attribute [local go_sem] evAppend AV.cells length_append map_append
def KeepsLow (P:Nat->Prop) (H H':List MB):Prop:=H.length<=H'.length/\∀ i,P i->H'[i]?=H[i]?
theorem KeepsLow.refl (P:Nat->Prop) (H:List MB):KeepsLow P H H:=⟨le_refl _,fun _ _=>rfl⟩
theorem KeepsLow.trans {P:Nat->Prop}{H H' H'':List MB} (h:KeepsLow P H H') (h2:KeepsLow P H' H''):KeepsLow P H H'':=⟨Nat.le_trans h.1 h2.1,fun i hi=>(h2.2 i hi).trans (h.2 i hi)⟩
theorem Lay2.le_refl (a:Lay2):a.le a:=⟨fun _ _ h=>h,fun _ _ h=>h⟩
theorem Lay2.le_trans {a b c:Lay2} (h:a.le b) (h2:b.le c):a.le c:=⟨fun i x hx=>h2.1 i x (h.1 i x hx),fun i x hx=>h2.2 i x (h.2 i x hx)⟩
section
variable {ins:List Ins}{first:List Nat}{size:Nat}{P:Nat->Prop}{D C:Nat}{a:Lay2}{c:CS}{H:List MB}
theorem DI.st_at (h:DI ins first size P D C a c H) {t:Nat}{x:List Nat×Nat} (ht:a.st t=some x):t<H.length/\t≠D/\t≠C:=by
 obtain⟨l,f⟩:=x;obtain⟨b,m,h1,_⟩:=h.st t l f ht;refine⟨(List.getElem?_eq_some_iff.1 h1).1,fun e=>?_,fun e=>?_⟩
 ·rw[e,h.d]at h1;simp at h1
 ·obtain⟨es,h2,_⟩:=h.cache;rw[e,h2]at h1;cases h1
theorem DI.nx_at (h:DI ins first size P D C a c H) {q:Nat}{x:List Nat} (hq:a.nx q=some x):q<H.length/\q≠D/\q≠C:=by
 obtain⟨es',h1,_⟩:=h.nx q x hq;refine⟨(List.getElem?_eq_some_iff.1 h1).1,fun e=>?_,fun e=>?_⟩
 ·rw[e,h.d]at h1;cases h1
 ·obtain⟨es,h2,_⟩:=h.cache;rw[e,h2]at h1;simp at h1
theorem DI.dead (h:DI ins first size P D C a c H) (x:MB) (hx:x=.row 3 [stAV true [] .nilm 0] 0) :
  DI ins first size P D C ⟨fun i=>if i=H.length then some ([],0) else a.st i,a.nx⟩ c (H++[x])/\a.le ⟨fun i=>if i=H.length then some ([],0) else a.st i,a.nx⟩:=by
 have old:∀ i,i<H.length->(H++[x])[i]?=H[i]?:=fun i hi=>getElem?_append_left hi;have hD:=(List.getElem?_eq_some_iff.1 h.d).1;obtain⟨es,hC,hes,hce⟩:=h.cache;have hCl:=(List.getElem?_eq_some_iff.1 hC).1;have hne:∀ t y,a.st t=some y->t≠H.length:=fun t y ht=>by have:=(h.st_at ht).1;omega
 have hle:a.le ⟨fun i=>if i=H.length then some ([],0) else a.st i,a.nx⟩:=⟨fun i y hy=>by simp[hne i y hy,hy],fun _ _ h=>h⟩;refine⟨⟨by rw[old _ hD];exact h.d,⟨fun i hi=>by rw[length_append];have:=h.lo.1 i hi;omega,h.lo.2.1,fun i y hy=>?_,h.lo.2.2.2⟩,⟨es,by rw[old _ hCl];exact hC,hes,fun i l hi=>?_⟩,fun t l f ht=>?_,fun q l hq=>?_,h.small⟩,hle⟩
 ·simp only at hy;split at hy
  ·rename_i e;exact fun hp=>by have:=h.lo.1 i hp;omega
  ·exact h.lo.2.2.1 i y hy
 ·obtain⟨b1,b2,t,b3,b4⟩:=hce i l hi;exact⟨b1,b2,t,b3,hle.1 _ _ b4⟩
 ·simp only at ht;split at ht
  ·rename_i e;cases ht;subst e;exact⟨true,.nilm,by simp[hx],(fun n hn=>by cases hn),zero_le _,zero_le _,fun h=>absurd rfl h,fun h=>absurd rfl h⟩
  ·obtain⟨b,m,c1,c2,c3,c4,c5,c6⟩:=h.st t l f ht;exact⟨b,m,by rw[old _ (h.st_at ht).1];exact c1,c2,c3,c4,c5,c6⟩
 ·obtain⟨es',d1,d2⟩:=h.nx q l hq;refine⟨es',by rw[old _ (h.nx_at hq).1];exact d1,fun k v hm=>?_⟩;obtain⟨y,t,f,e1,e2,e3⟩:=d2 k v hm;exact⟨y,t,f,e1,e2,hle.1 _ _ e3⟩
abbrev layN (a:Lay2) (n:Nat) (l:List Nat) (f:Nat):Lay2:=⟨fun i=>if i=n+1 then some (l,f) else a.st i,fun i=>if i=n then some l else a.nx i⟩
theorem DI.made (h:DI ins first size P D C a c H) {l:List Nat} (hl:∀ n∈l,n<ins.length) (hll:l.length<=ins.length) (h0:l≠[]) (hN:ins.length<=8192) (c':CS) (es':List (AV×AV)) (hes:es'.length=c'.L.length)
  (hc:∀(i:Nat) (l':List Nat),c'.L[i]?=some l'->(l' = l/\es'[i]?=some (AV.str (keyS l),AV.rf (H.length+1) 1 0 0))∨(c'.emptied=c.emptied/\∃ es:List (AV×AV),H[C]?=some (.mp .str es)/\c.L[i]?=some l'/\es'[i]?=es[i]?))
  (he:c.emptied<=c'.emptied) (hin:l∈c'.L) (hold:c'.emptied=c.emptied->∀ x∈c.L,x∈c'.L) (hold2:c'.emptied=c.emptied∨c.emptied<c'.emptied)
  (hs:c'.made<=4000000000000/\c'.emptied<=c'.made/\c'.L.length<=size/\1<=size/\size<=1024) :
  DI ins first size P D C (layN a H.length l c'.emptied) c' (own2 H D C (.row 6 [dfaAV ins first size C c'] 0) (.mp .str es') [.mp (.int .i64) [],.row 3 [stAV false l (.mpr H.length) c'.emptied] 0])/\a.le (layN a H.length l c'.emptied):=by
 have hDl:=(List.getElem?_eq_some_iff.1 h.d).1;obtain⟨es,hC,hes0,hce⟩:=h.cache;have hCl:=(List.getElem?_eq_some_iff.1 hC).1;have hDC:D≠C:=fun e=>by rw[<- e,h.d]at hC;cases hC
 have hne:∀ t y,a.st t=some y->t≠H.length+1:=fun t y ht=>by have:=(h.st_at ht).1;omega
 have hne2:∀ t y,a.nx t=some y->t≠H.length:=fun t y ht=>by have:=(h.nx_at ht).1;omega
 have hle:a.le (layN a H.length l c'.emptied):=⟨fun i y hy=>by simp[layN,hne i y hy,hy],fun i y hy=>by simp[layN,hne2 i y hy,hy]⟩;have hlo:=h.lo;refine⟨⟨Pq hDl hCl hDC _ _ _,⟨fun i hi=>by rw[N3];have:=hlo.1 i hi;omega,hlo.2.1,fun i y hy=>?_,fun i y hy=>?_⟩,⟨es',Pr hDl hCl hDC _ _ _,hes,fun i l' hi=>?_⟩,fun t l' f ht=>?_,fun q l' hq=>?_,hs⟩,hle⟩
 ·simp only[layN]at hy;split at hy
  ·exact fun hp=>by have:=hlo.1 i hp;omega
  ·exact hlo.2.2.1 i y hy
 ·simp only[layN]at hy;split at hy
  ·exact fun hp=>by have:=hlo.1 i hp;omega
  ·exact hlo.2.2.2 i y hy
 ·rcases hc i l' hi with ⟨rfl,e2⟩|⟨e1,es0,e2,e3,e4⟩
  ·exact⟨h0,fun n hn=>by have:=hl n hn;omega,_,e2,by simp[layN]⟩
  ·rw[hC]at e2;cases e2;obtain⟨b1,b2,t,b3,b4⟩:=hce i l' e3;exact⟨b1,b2,t,by rw[e4];exact b3,(hle.1 _ _ b4).trans (by rw[e1])⟩
 ·simp only[layN]at ht;split at ht
  ·rename_i e;simp only[Option.some.injEq,Prod.mk.injEq]at ht;obtain⟨rfl,rfl⟩:=ht;subst e;exact⟨false,.mpr H.length,by rw[J4];rfl,hl,hll,le_refl _,fun _ _=>hin,fun _=>⟨rfl,_,rfl,by simp[layN]⟩⟩
  ·obtain⟨b,m,c1,c2,c3,c4,c5,c6⟩:=h.st t l' f ht;obtain⟨g1,g2,g3⟩:=h.st_at ht;refine⟨b,m,by rw[MG _ _ _ g2 g3 g1];exact c1,c2,c3,by omega,fun z1 z2=>?_,fun z1=>?_⟩
   ·rcases hold2 with e|e
    ·exact hold e l' (c5 z1 (by omega))
    ·omega
   ·obtain⟨z,q,k1,k2⟩:=c6 z1;exact⟨z,q,k1,hle.2 _ _ k2⟩
 ·simp only[layN]at hq;split at hq
  ·rename_i e;subst e;exact⟨[],by have:=J4 (H:=H) (D:=D) (C:=C) (.row 6 [dfaAV ins first size C c'] 0) (.mp .str es') [.mp (.int .i64) [],.row 3 [stAV false l (.mpr H.length) c'.emptied] 0] (k:=0);simpa using this,fun k v hm=>by cases hm⟩
  ·obtain⟨es2,d1,d2⟩:=h.nx q l' hq;obtain⟨g1,g2,g3⟩:=h.nx_at hq;refine⟨es2,by rw[MG _ _ _ g2 g3 g1];exact d1,fun k v hm=>?_⟩;obtain⟨y,t,f,e1,e2,e3⟩:=d2 k v hm;exact⟨y,t,f,e1,e2,hle.1 _ _ e3⟩
end
end
section
attribute [local go_sem] evAppend AV.cells length_append map_append
section
variable {ins:List Ins}{first:List Nat}{size:Nat}{P:Nat->Prop}{D C:Nat}{a:Lay2}{c:CS}{H:List MB}
end
end
def WR (w:List Int) (b:Nat->Bool):Prop:=w.length=16/\∀ i,i<16->∃ x:Nat,w[i]?=some (x:Int)/\x<2 ^ 64/\∀ r,r<64->x.testBit r=b (64*i+r)
theorem WR.uniq {w w':List Int}{b b':Nat->Bool} (h:WR w b) (h':WR w' b') (hb:∀ j,j<1024->b j=b' j):w=w':=by
 refine List.ext_getElem? fun i=>?_;rcases lt_or_ge i 16 with hi|hi
 ·obtain⟨x,h1,h2,h3⟩:=h.2 i hi;obtain⟨y,h4,h5,h6⟩:=h'.2 i hi;have:x=y:=by
   refine Nat.eq_of_testBit_eq fun r=>?_;rcases lt_or_ge r 64 with hr|hr
   ·rw[h3 r hr,h6 r hr,hb _ (by omega)]
   ·rw[Nat.testBit_lt_two_pow (Nat.lt_of_lt_of_le h2 (Nat.pow_le_pow_right (by omega) hr)),Nat.testBit_lt_two_pow (Nat.lt_of_lt_of_le h5 (Nat.pow_le_pow_right (by omega) hr))]
  rw[h1,h4,this]
 ·rw[getElem?_eq_none (by rw[h.1];exact hi),getElem?_eq_none (by rw[h'.1];exact hi)]
theorem WR.inj {w:List Int}{b b':Nat->Bool} (h:WR w b) (h':WR w b') {j:Nat} (hj:j<1024):b j=b' j:=by
 obtain⟨x,h1,h2,h3⟩:=h.2 (j / 64) (by omega);obtain⟨y,h4,h5,h6⟩:=h'.2 (j / 64) (by omega);rw[h1]at h4;have:x=y:=by have:=Option.some.inj h4;omega
 subst this;have e:64*(j / 64)+j % 64=j:=by omega
 have h7:=h3 (j % 64) (by omega);have h8:=h6 (j % 64) (by omega);rw[e]at h7 h8;rw[<- h7,h8]
theorem WR.congr {w:List Int}{b b':Nat->Bool} (h:WR w b) (hb:∀ j,j<1024->b j=b' j):WR w b':=by
 refine⟨h.1,fun i hi=>?_⟩;obtain⟨x,h1,h2,h3⟩:=h.2 i hi;exact⟨x,h1,h2,fun r hr=>by rw[h3 r hr,hb _ (by omega)]⟩
theorem WR.zero:WR (List.replicate 16 0) fun _=>false:=by
 refine⟨rfl,fun i hi=>⟨0,?_,by decide,fun r _=>by simp⟩⟩;rw[List.getElem?_replicate,if_pos hi];rfl
def xorW (x:Int) (r:Nat):Int:=IntKind.u64.wrap ((BitVec.ofInt 64 x ^^^ BitVec.ofInt 64 (2 ^ r:Int)).toNat:Int)
theorem Oh {x r:Nat} (hx:x<2 ^ 64) (hr:r<64):xorW (x:Int) r=((x ^^^ 2 ^ r:Nat):Int):=by
 have h1:(2:Nat) ^ r<2 ^ 64:=Nat.pow_lt_pow_right (by omega) hr;have h2:x ^^^ 2 ^ r<2 ^ 64:=Nat.xor_lt_two_pow hx h1;have e1:(BitVec.ofInt 64 (x:Int)).toNat=x:=by
  rw[BitVec.ofInt_natCast,BitVec.toNat_ofNat,Nat.mod_eq_of_lt hx]
 have e2:(BitVec.ofInt 64 (2 ^ r:Int)).toNat=2 ^ r:=by
  have:(2 ^ r:Int)=((2 ^ r:Nat):Int):=by simp
  rw[this,BitVec.ofInt_natCast,BitVec.toNat_ofNat,Nat.mod_eq_of_lt h1]
 unfold xorW;rw[BitVec.toNat_xor,e1,e2];simp only[IntKind.wrap,IntKind.bits,IntKind.signed];simp;omega
theorem WR.tog {w:List Int}{b:Nat->Bool} (h:WR w b) {s:Nat} (hs:s<1024) {x:Int} (hx:w[s / 64]?=some x):WR (w.set (s / 64) (xorW x (s % 64))) fun j=>if j=s then !b j else b j:=by
 refine⟨by rw[List.length_set];exact h.1,fun i hi=>?_⟩;obtain⟨y,h1,h2,h3⟩:=h.2 i hi;by_cases e:s / 64=i
 ·subst e;rw[h1]at hx;obtain rfl:(y:Int)=x:=Option.some.inj hx;rw[getElem?_set_self (by rw[h.1];exact hi),Oh h2 (by omega)];refine⟨_,rfl,Nat.xor_lt_two_pow h2 (Nat.pow_lt_pow_right (by omega) (by omega)),fun r hr=>?_⟩;rw[Nat.testBit_xor,h3 r hr,Nat.testBit_two_pow];by_cases e2:s % 64=r
  ·have e3:64*(s / 64)+r=s:=by omega
   simp only[if_pos e3];simp[e2]
  ·simp only[if_neg (show ¬ 64*(s / 64)+r=s by omega)];simp[e2]
 ·rw[getElem?_set_ne e];refine⟨y,h1,h2,fun r hr=>?_⟩;simp only[if_neg (show ¬ 64*i+r=s by omega)];exact h3 r hr
def par (l:List (Int×Int)) (j:Nat):Bool:=l.countP (fun e=>decide (e.2=(j:Int))) % 2==1
theorem N1 (l:List (Int×Int)) (a:Int) (s:Nat):par (l++[(a,(s:Int))])=fun j=>if j=s then !par l j else par l j:=by
 funext j
 unfold par;rw[List.countP_append];by_cases h:j=s
 ·subst h;simp[List.countP_cons];rcases Nat.mod_two_eq_zero_or_one (l.countP fun e=>decide (e.2=(j:Int))) with h2|h2
  ·rw[h2];simp;omega
  ·rw[h2];simp;omega
 ·have:¬ ((s:Int)=(j:Int)):=by omega
  simp[List.countP_cons,this,h]
section scan
variable {L:List Spans}{top:Int}{S:List (Int×Int)}{E:List Int}
structure ScanOk (L:List Spans) (top:Int) (S:List (Int×Int)) (E:List Int):Prop where
 sets:∀ s∈L,SetV s
 top0:0<=top
 many:L.length<=1024
 perm:S.Perm (endsP top 0 L)
 sorted:S.Pairwise fun a b=>a.1<=b.1
 ends:EndsOk top E
 mem:∀ x,x∈E↔x=0∨∃ s∈L,∃ p∈s,(x=p.1∨x=p.2+1)/\x<=top
def From (S:List (Int×Int)) (j:Nat) (x:Int):Prop:=(∀ i e,i<j->S[i]?=some e->e.1<x)/\∀ i e,j<=i->S[i]?=some e->x<=e.1
def Past (S:List (Int×Int)) (j:Nat) (x:Int):Prop:=(∀ i e,i<j->S[i]?=some e->e.1<=x)/\∀ i e,j<=i->S[i]?=some e->x<e.1
theorem ScanOk.at (h:ScanOk L top S E) {j:Nat}{e:Int×Int} (he:S[j]?=some e):(∃ k:Nat,e.2=(k:Int)/\k<L.length)/\e.1∈E/\0<=e.1/\e.1<=top:=by
 have hm:=h.perm.mem_iff.1 (mem_of_getElem? he);obtain⟨⟨k,h1,_,h2⟩,h3⟩:=D7 hm;have hE:=(h.mem e.1).2 (.inr h3);exact⟨⟨k,h1,by omega⟩,hE,h.ends.le _ hE⟩
theorem ScanOk.has (h:ScanOk L top S E) {x:Int} (hx:x∈E) (h0:x≠0):∃(j:Nat) (e:Int×Int),S[j]?=some e/\e.1=x:=by
 rcases(h.mem x).1 hx with h1|h1
 ·exact absurd h1 h0
 ·obtain⟨e,he,h2⟩:=Ic (i:=0) h1;obtain⟨j,hj⟩:=getElem?_of_mem (h.perm.mem_iff.2 he);exact⟨j,e,hj,h2⟩
theorem Past.par (h:ScanOk L top S E) {j:Nat}{x:Int} (hx:x<=top) (hp:Past S j x) (k:Nat):par (S.take j) k=(colA L x).getD k false:=by
 have h1:=HB hx (L:=L) (i:=0) (j:=k) h.sets (zero_le _);rw[<- h.perm.countP_eq,Nat.sub_zero]at h1;have h2:S.countP (fun e=>decide (e.1<=x)&&decide (e.2=(k:Int)))=(S.take j).countP fun e=>decide (e.2=(k:Int)):=by
  conv=>lhs;rw[<- List.take_append_drop j S,List.countP_append]
  have e1:(S.drop j).countP (fun e=>decide (e.1<=x)&&decide (e.2=(k:Int)))=0:=by
   rw[List.countP_eq_zero];intro e he;obtain⟨i,hi⟩:=getElem?_of_mem he;rw[List.getElem?_drop]at hi;have:=hp.2 (j+i) e (by omega) hi;simp;intro _;omega
  rw[e1,Nat.add_zero];refine List.countP_congr fun e he=>?_;obtain⟨i,hi⟩:=getElem?_of_mem he;rw[List.getElem?_take]at hi;split at hi
  ·have:=hp.1 i e (by assumption) hi;simp[this]
  ·cases hi
 unfold Ev.par;rw[<- h2,h1];cases (colA L x).getD k false<;>rfl
theorem BZ {E:List Int}{top x:Int}{k:Nat} (h:E[k]?=some x):lastP E top k=x:=by simp[lastP,h]
theorem CA {E:List Int}{top:Int}{k:Nat} (h:E.length<=k):lastP E top k=top+1:=by simp[lastP,getElem?_eq_none h]
theorem EndsOk.lt (h:EndsOk top E) {i j:Nat}{x y:Int} (hi:E[i]?=some x) (hj:E[j]?=some y) (hij:i<j):x<y:=by
 obtain⟨h1,e1⟩:=List.getElem?_eq_some_iff.1 hi;obtain⟨h2,e2⟩:=List.getElem?_eq_some_iff.1 hj;have:=List.pairwise_iff_getElem.1 h.sorted i j h1 h2 hij;rw[e1,e2]at this;exact this
theorem EndsOk.first (h:EndsOk top E):E[0]?=some 0:=by
 obtain⟨j,hj⟩:=getElem?_of_mem h.zero;rcases Nat.eq_zero_or_pos j with rfl|h0
 ·exact hj
 ·have hlt:=(List.getElem?_eq_some_iff.1 hj).1;obtain⟨x,hx⟩:∃ x,E[0]?=some x:=⟨_,getElem?_eq_getElem (by omega)⟩;have h1:=h.lt hx hj h0;have h2:=h.le x (mem_of_getElem? hx);omega
theorem EndsOk.step (h:EndsOk top E) {k:Nat} (hk:k<E.length):lastP E top k<lastP E top (k+1)/\0<=lastP E top k/\lastP E top k<=top/\lastP E top (k+1)<=top+1:=by
 obtain⟨x,hx⟩:∃ x,E[k]?=some x:=⟨_,getElem?_eq_getElem hk⟩;have hl:=h.le x (mem_of_getElem? hx);rw[BZ hx];rcases lt_or_ge (k+1) E.length with h1|h1
 ·obtain⟨y,hy⟩:∃ y,E[k+1]?=some y:=⟨_,getElem?_eq_getElem h1⟩;have hl2:=h.le y (mem_of_getElem? hy);rw[BZ hy];exact⟨h.lt hx hy (by omega),hl.1,hl.2,by omega⟩
 ·rw[CA h1];exact⟨by omega,hl.1,hl.2,by omega⟩
theorem EndsOk.mono (h:EndsOk top E) {i j:Nat} (hij:i<j) (hj:j<=E.length):lastP E top i<lastP E top j:=by
 obtain⟨x,hx⟩:∃ x,E[i]?=some x:=⟨_,getElem?_eq_getElem (by omega)⟩;rw[BZ hx];rcases lt_or_ge j E.length with h1|h1
 ·obtain⟨y,hy⟩:∃ y,E[j]?=some y:=⟨_,getElem?_eq_getElem h1⟩;rw[BZ hy];exact h.lt hx hy hij
 ·rw[CA h1];have:=(h.le x (mem_of_getElem? hx)).2;omega
theorem Past.next (h:ScanOk L top S E) {j k:Nat} (hk:k<E.length) (hp:Past S j (lastP E top k)):lastP E top (k+1)=(match S[j]? with
  | some e=>e.1
  | none=>top+1)/\From S j (lastP E top (k+1)):=by
 obtain⟨x,hx⟩:∃ x,E[k]?=some x:=⟨_,getElem?_eq_getElem hk⟩;have hl:=h.ends.le x (mem_of_getElem? hx);rw[BZ hx]at hp;have hsort:∀(i i':Nat) (e e':Int×Int),i<=i'->S[i]?=some e->S[i']?=some e'->e.1<=e'.1:=fun i i' e e' hii h1 h2=>by
  rcases Nat.lt_or_eq_of_le hii with h3|rfl
  ·obtain⟨l1,q1⟩:=List.getElem?_eq_some_iff.1 h1;obtain⟨l2,q2⟩:=List.getElem?_eq_some_iff.1 h2;have:=List.pairwise_iff_getElem.1 h.sorted i i' l1 l2 h3;rw[q1,q2]at this;exact this
  ·rw[h1]at h2;rw[Option.some.inj h2];exact Int.le_refl _
 have later:∀(m:Nat) (y:Int),k<m->E[m]?=some y->∃(i:Nat) (e:Int×Int),j<=i/\S[i]?=some e/\e.1=y:=fun m y hm hy=>by
  have hlt:=h.ends.lt hx hy hm;obtain⟨i,e,hi,he⟩:=h.has (mem_of_getElem? hy) (by omega);refine⟨i,e,?_,hi,he⟩;rcases lt_or_ge i j with h1|h1
  ·have:=hp.1 i e h1 hi;omega
  ·exact h1
 cases hS:S[j]? with
 | none=>
   have hk1:E.length<=k+1:=by
    rcases lt_or_ge (k+1) E.length with h1|h1
    ·obtain⟨i,e,h2,h3,_⟩:=later (k+1) _ (by omega) (getElem?_eq_getElem h1);have:=(List.getElem?_eq_some_iff.1 h3).1;have:=List.getElem?_eq_none_iff.1 hS;omega
    ·exact h1
   rw[CA hk1];refine⟨rfl,fun i e hi he=>?_,fun i e hi he=>?_⟩
   ·have:=hp.1 i e hi he;omega
   ·have h1:=(List.getElem?_eq_some_iff.1 he).1;have h2:=List.getElem?_eq_none_iff.1 hS;omega
 | some e=>
   have hgt:=hp.2 j e (le_refl _) hS;obtain⟨m,hm⟩:=getElem?_of_mem (h.at hS).2.1;have hkm:k<m:=by
    rcases lt_or_ge k m with h1|h1
    ·exact h1
    ·rcases Nat.lt_or_eq_of_le h1 with h2|rfl
     ·have:=h.ends.lt hm hx h2;omega
     ·rw[hm]at hx;have:=Option.some.inj hx;omega
   have hmlt:=(List.getElem?_eq_some_iff.1 hm).1;obtain⟨y,hy⟩:∃ y,E[k+1]?=some y:=⟨_,getElem?_eq_getElem (by omega)⟩;obtain⟨i,e',h1,h2,h3⟩:=later (k+1) y (by omega) hy;have h4:=hsort j i e e' h1 hS h2;have h5:y<=e.1:=by
    rcases Nat.lt_or_eq_of_le (show k+1<=m by omega) with h6|rfl
    ·exact Int.le_of_lt (h.ends.lt hy hm h6)
    ·rw[hy]at hm;rw[Option.some.inj hm];exact Int.le_refl _
   have h6:y=e.1:=by omega
   rw[BZ hy,h6];refine⟨rfl,fun i' e2 hi he=>?_,fun i' e2 hi he=>hsort j i' e e2 hi hS he⟩;have:=hp.1 i' e2 hi he;omega
theorem From.zero (h:ScanOk L top S E):From S 0 0:=⟨fun i e hi=>by omega,fun i e _ he=>(h.at he).2.2.1⟩
def Mid (S:List (Int×Int)) (j:Nat) (x:Int):Prop:=(∀ i e,i<j->S[i]?=some e->e.1<=x)/\∀ i e,j<=i->S[i]?=some e->x<=e.1
theorem From.mid {j:Nat}{x:Int} (h:From S j x):Mid S j x:=⟨fun i e hi he=>Int.le_of_lt (h.1 i e hi he),h.2⟩
theorem Mid.step {j:Nat}{x:Int} (h:Mid S j x) {e:Int×Int} (he:S[j]?=some e) (hx:e.1=x):Mid S (j+1) x:=by
 refine⟨fun i e' hi h1=>?_,fun i e' hi h1=>h.2 i e' (by omega) h1⟩;rcases Nat.lt_succ_iff_lt_or_eq.1 hi with h2|rfl
 ·exact h.1 i e' h2 h1
 ·rw[he]at h1;rw[<- Option.some.inj h1];omega
theorem Mid.past (hs:S.Pairwise fun a b=>a.1<=b.1) {j:Nat}{x:Int} (h:Mid S j x) (hn:∀ e,S[j]?=some e->e.1≠x):Past S j x:=by
 refine⟨h.1,fun i e hi he=>?_⟩;have hlt:=(List.getElem?_eq_some_iff.1 he).1;obtain⟨e0,h0⟩:∃ e0,S[j]?=some e0:=⟨_,getElem?_eq_getElem (by omega)⟩;have h1:=h.2 j e0 (le_refl _) h0;have h2:=hn e0 h0;have h3:e0.1<=e.1:=by
  rcases Nat.lt_or_eq_of_le hi with h4|rfl
  ·obtain⟨l1,q1⟩:=List.getElem?_eq_some_iff.1 h0;have:=List.pairwise_iff_getElem.1 hs j i l1 hlt h4;rw[q1,(List.getElem?_eq_some_iff.1 he).2]at this;exact this
  ·rw[h0]at he;rw[Option.some.inj he];exact Int.le_refl _
 omega
end scan
end Go.Ev
namespace Go.Ev
attribute [local go_sem] evBin strOf Ah Ao bndO bnd evEq eqCells not_false_eq_true not_true_eq_false toList_some Array.size_empty tySzE List.head?_drop Nat.mul_one AY Ae AU AZ Aa AS
section
attribute [local go_sem] length_append map_append
abbrev setAV (s:Spans):AV:=.sl false (s.map spanAV)
theorem Aw (L:List Spans):AV.plainL (L.map setAV)=true:=by
 induction L with
 | nil=>rfl
 | cons a l ih=>simp[AV.plainL,AV.plain,AH,ih]
theorem Lk {top:Int}{L:List Spans}{i:Nat}{s:Spans} (h:L[i]?=some s):endsR (L.take (i+1)) top=putS top (endsR (L.take i) top) s:=by
 rw[take_add_one,h];simp[endsR]
theorem NK {top:Int} (h0:0<=top):∀ {L:List Spans},(∀ s∈L,SetV s)->(∀ s∈L,s.length<=64)->(endsR L top).length<=1+128*L.length:=by
 intro L hs hl;have key:∀ i,i<=L.length->(endsR (L.take i) top).length<=1+128*i:=by
  intro i
  induction i with
  | zero=>intro _;simp[endsR]
  | succ i ih=>
    intro hi;obtain⟨s,hsi⟩:∃ s,L[i]?=some s:=⟨_,getElem?_eq_getElem (by omega)⟩;have hm:=mem_of_getElem? hsi;rw[Lk hsi];have h1:=(Ix (s:=s) (Dj (L:=L.take i) h0 fun t ht=>hs t (List.mem_of_mem_take ht)) (fun p hp=>⟨((hs s hm).good p hp).1,((hs s hm).good p hp).2.1⟩)).2.1;have h2:=hl s hm;have h3:=ih (by omega);omega
 have:=key L.length (le_refl _);rw[take_length]at this;exact this
theorem Oa {H:List MB}{i n z:Nat}{rs:Spans}{p:Int×Int}{t:Bool} (hi:getRow H i=some (2,rs.map spanAV,z)) (hz:z<=n) (hn:rs.length=n) (hr:n+1<=4000000000) :
  evAppend Pg H 23 23 (.ms i 2 n 0 n) (.sl t [.agg [I p.1,I p.2]])=some (.ms i 2 (n+1) 0 (n+1),H.set i (.row 2 ((rs++[p]).map spanAV) z)):=by
 have hs:srcElems Pg H 33 (.sl t [.agg [I p.1,I p.2]])=some [.agg [I p.1,I p.2]]:=rfl;rw[Al (e:=33) (by kernel_rfl) (by kernel_rfl) (k:=2) (by kernel_rfl) (by_:=16) (by kernel_rfl) (ze:=.agg [I 0,I 0]) (by kernel_rfl) rfl (by omega) hs (by simp[AV.cells,AV.ok]) hi (by rw[length_map];exact hn) hz (AS (by simp;omega) (by omega))];rw[map_append];rfl
def splitR:Option (List Spans)->AV
 | none=>.tup [.sl false [],I 4]
 | some cls=>.tup [.sl false (cls.map setAV),I 0]
end
section
attribute [local go_sem] AV.cells
theorem sf68 {H:List MB}{id n:Nat}{O:Spans}{p:Int×Int} (hr:H[id]?=some (.row 2 (O.map spanAV) 0)) (hn:O.length=n) (h0:0<n) (hl:n<=1000000) (hO:∀ q∈O,q.2<=1114111) (hp:0<=p.1/\p.1<=p.2/\p.2<=1114111) (hq:∀ q∈O,0<=q.2) :
  call Pg pol1 90 [.ms id 2 n 0 n,.agg [I p.1,I p.2]] H=some (.ms id 2 (addI O p).length 0 (addI O p).length,H.set id (.row 2 ((addI O p).map spanAV) 0)++[.row 2 [spanAV p] 0]):=by
 have hlt:=(List.getElem?_eq_some_iff.1 hr).1;have fr:frzArgs pol1 90 0 [.ms id 2 n 0 n,.agg [I p.1,I p.2]] H=some ([.ms id 2 n 0 n,.agg [I p.1,I p.2]],H):=Bk _ _ _ rfl;refine CE (pol:=pol1) Tryz.func90 rfl rfl rfl rfl fr ?_;have rp:∀ H1 r H,retPol pol1 90 H1 r H=some (r,H):=fun H1 r H=>rfl;rcases List.eq_nil_or_concat O with rfl|⟨O',q,rfl⟩
 ·simp at hn;omega
 ·rw[List.concat_eq_append]at *;have hgq:=hO q (by simp);have hgq0:=hq q (by simp);obtain rfl:n=O'.length+1:=by simpa using hn.symm
  have hg1:∀ x:MB,(H++[x])[id]?=some (.row 2 ((O'++[q]).map spanAV) 0):=fun x=>by rw[getElem?_append_left hlt];exact hr
  have hs1:∀ x y:MB,(H++[x]).set id y=H.set id y++[x]:=fun x y=>List.set_append_left _ _ hlt;have hgl:=fun x:MB=>FN H x;rw[EB];have hget:((O'++[q]).map spanAV)[O'.length]?=some (spanAV q):=by simp
  have hlen:((O'++[q]).map spanAV).length=O'.length+1:=by simp
  by_cases hm:p.1<=q.2+1
  ·rw[if_pos hm];have hmx:(if p.2 > q.2 then p.2 else q.2)=max q.2 p.2:=by split<;>omega
   have hst:((O'++[q]).map spanAV).set O'.length (.agg [I q.1,I (max q.2 p.2)])=(O'++[(q.1,max q.2 p.2)]).map spanAV:=by simp[List.set_append]
   have hlen2:(O'++[(q.1,max q.2 p.2)]).length=O'.length+1:=by simp
   generalize hE:(O'++[q]).map spanAV=E at *;simp +contextual (disch:=omega) only[Tryz.f90,dd90,go_sem,simprocAttr,evAppend,length_append,map_append,mu90,↓AE,↓AD,↓AC,↓AA,hg1,hs1,hgl,hget,hlen,evMax,hmx];repeat' (first|intro _|apply And.intro|(unfold dOk;kernel_rfl)|exact St.beq_refl _|exact Aq|(show altO _ _ _ _=true;kernel_rfl)|(show (_||_)=true;kernel_rfl)|(show (_&&_)=true;kernel_rfl))
   rw[hst,rp];simp
  ·rw[if_neg hm];have a1:=fun(x:MB) (t:Bool)=>Oa (H:=H++[x]) (i:=id) (p:=p) (t:=t) (by unfold getRow;rw[hg1]) (zero_le _) (show (O'++[q]).length=O'.length+1 by simp) (by omega);simp only[hs1]at a1;have hlen2:(O'++[q]++[p]).length=O'.length+1+1:=by simp
   generalize hE:(O'++[q]).map spanAV=E at *;simp +contextual (disch:=omega) only[Tryz.f90,dd90,go_sem,simprocAttr,length_append,map_append,mu90,↓AE,↓AD,↓AC,↓AA,hg1,hs1,hgl,hget,hlen,a1];repeat' (first|intro _|apply And.intro|(unfold dOk;kernel_rfl)|exact St.beq_refl _|exact Aq|(show altO _ _ _ _=true;kernel_rfl)|(show (_||_)=true;kernel_rfl)|(show (_&&_)=true;kernel_rfl))
   rw[rp]
theorem Qc (H:List MB) (p:Int×Int) :
  call Pg pol1 90 [.sl true [],.agg [I p.1,I p.2]] H=some (.ms (H.length+1) 2 1 0 1,H++[.row 2 [spanAV p] 0]++[.row 2 [spanAV p] 0]):=by
 have fr:frzArgs pol1 90 0 [.sl true [],.agg [I p.1,I p.2]] H=some ([.sl true [],.agg [I p.1,I p.2]],H):=Bk _ _ _ rfl;refine CE (pol:=pol1) Tryz.func90 rfl rfl rfl rfl fr ?_;have rp:∀ H1 r H,retPol pol1 90 H1 r H=some (r,H):=fun H1 r H=>rfl;have hgl:=fun x:MB=>FN H x;simp +contextual (disch:=omega) only[Tryz.f90,dd90,go_sem,simprocAttr,evAppend,length_append,map_append,mu90,↓AE,↓AD,↓AC,↓AA,hgl];repeat' (first|intro _|apply And.intro|(unfold dOk;kernel_rfl)|exact St.beq_refl _|exact Aq|(show altO _ _ _ _=true;kernel_rfl)|(show (_||_)=true;kernel_rfl)|(show (_&&_)=true;kernel_rfl))
 rw[rp]
theorem Oc {H:List MB}{i n z:Nat}{rs:List (Int×Int)}{p:Int×Int}{t:Bool} (hi:getRow H i=some (2,rs.map el2,z)) (hz:z<=n) (hn:rs.length=n) (hr:n+1<=4000000000) :
  evAppend Pg H 141 141 (.ms i 2 n 0 n) (.sl t [.agg [I p.1,I p.2]])=some (.ms i 2 (n+1) 0 (n+1),H.set i (.row 2 ((rs++[p]).map el2) z)):=by
 have hs:srcElems Pg H 147 (.sl t [.agg [I p.1,I p.2]])=some [.agg [I p.1,I p.2]]:=rfl;rw[Al (e:=147) (by kernel_rfl) (by kernel_rfl) (k:=2) (by kernel_rfl) (by_:=16) (by kernel_rfl) (ze:=.agg [I 0,I 0]) (by kernel_rfl) rfl (by omega) hs (by simp[AV.cells,AV.ok]) hi (by rw[length_map];exact hn) hz (AS (by simp;omega) (by omega))];rw[map_append];rfl
theorem BV (l:List (Int×Int)):AV.plainL (l.map el2)=true:=by
 induction l with
 | nil=>rfl
 | cons a l ih=>simp[AV.plainL,ih];rfl
theorem G5 (top:Int) (s:Spans):∀(L:List Spans) (i:Nat),endsP top i (L++[s])=endsP top i L++endS top (i+L.length) s
 | [],i=>by simp[endsP]
 | t::L,i=>by simp[endsP,G5 top s L (i+1),Nat.add_comm,Nat.add_left_comm]
theorem Ll {top:Int}{L:List Spans}{i:Nat}{s:Spans} (h:L[i]?=some s):endsP top 0 (L.take (i+1))=endsP top 0 (L.take i)++endS top i s:=by
 have hlt:=(List.getElem?_eq_some_iff.1 h).1;rw[take_add_one,h,Option.toList_some,G5,Nat.zero_add,List.length_take_of_le (Nat.le_of_lt hlt)]
theorem NL {top:Int}{i k:Nat}{s:Spans}{p:Int×Int} (h:s[k]?=some p):endS top i (s.take (k+1))=endS top i (s.take k)++((if p.1<=top then [(p.1,(i:Int))] else [])++(if p.2+1<=top then [(p.2+1,(i:Int))] else [])):=by
 rw[take_add_one,h];simp[endS]
theorem G3 {top:Int}{L:List Spans} (htp:top<=1114111) (hs:∀ s∈L,SetV s):∀ x∈endsP top 0 L,Small x:=fun x hx=>by
 obtain⟨_,s,hs',p,hp,h1,h2⟩:=D7 hx;have:=(hs s hs').good p hp;unfold Small;omega
theorem sf67 (L:List Spans) (top:Int) (h0:0<=top) (htp:top<=1114111) (hs:∀ s∈L,SetV s) (hl:L.length<=8192) (hsl:∀ s∈L,s.length<=64) (H:List MB) :
  call Pg pol1 89 [.sl false (L.map setAV),I top] H=some (.sl false ((sortE (endsP top 0 L)).map el2),H):=by
 have hpl:=Aw L;refine AQ Tryz.func89 rfl rfl rfl rfl rfl rfl (fun _=>rfl) (by simp[AV.plain,AV.plainL,hpl]) (by simp[AV.plain,BV]) ?_ H;simp +contextual (disch:=omega) only[Tryz.f89,dd89,go_sem,simprocAttr,evAppend,length_append,map_append,mu89,↓AE,↓AD,↓AC,↓AA];refine AR (M:=(mskOf (pol1.mask 89) (pol1.gc 89) (pol1.acts 89) 0 3)) rfl L.length (fun i=>(⟨52,[(12,I i),(11,I L.length),(10,.sl false (L.map setAV)),(5,.ms 0 2 (endsP top 0 (L.take i)).length 0 (endsP top 0 (L.take i)).length),(1,I top)],[.row 2 ((endsP top 0 (L.take i)).map el2) 0]⟩:St)) (fun i=>True) ?_ ?_ trivial _ (by first|rfl|(refine AN rfl (by rfl) (by rfl) (by rfl) ?_ ?_<;>simp[AV.underL,AV.under,MB.under,AG,AI,AF,AH,AK,AL,-map_take,Aw,BV]))
 ·intro i hi _;obtain⟨s,hsi⟩:∃ s,L[i]?=some s:=⟨_,getElem?_eq_getElem hi⟩;have hsi':(L.map setAV)[i]?=some (setAV s):=by simp[hsi]
  have hm:=mem_of_getElem? hsi;have hv:=hs s hm;have hsl1:=hsl s hm;have hst:=Ll (top:=top) hsi;have hln:=D8 (top:=top) (L:=L.take i) (i:=0) (fun s hs=>hsl s (List.mem_of_mem_take hs));have l1:=List.length_take_le i L;generalize endsP top 0 (L.take i)=l at *;simp +contextual (disch:=omega) only[Tryz.f89,dd89,go_sem,simprocAttr,evAppend,length_append,map_append,mu89,↓AE,↓AD,↓AC,↓AA,hsi'];refine AR (M:=(mskOf (pol1.mask 89) (pol1.gc 89) (pol1.acts 89) 0 6)) rfl s.length (fun k=>(⟨52,[(19,I k),(18,I s.length),(17,.sl false (s.map spanAV)),(12,I i),(11,I L.length),(10,.sl false (L.map setAV)),(6,I i),(5,.ms 0 2 (l++endS top i (s.take k)).length 0 (l++endS top i (s.take k)).length),(1,I top)],[.row 2 ((l++endS top i (s.take k)).map el2) 0]⟩:St)) (fun i=>True) ?_ ?_ trivial _ ?_
  ·intro k hk _;obtain⟨p,hp⟩:∃ p,s[k]?=some p:=⟨_,getElem?_eq_getElem hk⟩;have hp':(s.map spanAV)[k]?=some (spanAV p):=by simp[hp]
   have hg:=hv.good p (mem_of_getElem? hp);have hst2:=NL (top:=top) (i:=i) hp;have hln2:=Kb top i (s.take k);have l3:=List.length_take_le k s;have hw:IntKind.i64.wrap (p.2+1)=p.2+1:=by rw[i64_in];omega
   have hlen3:(l++endS top i (s.take k)).length<=4000000:=by rw[length_append];omega
   have hst3:l++endS top i (s.take (k+1))=(l++endS top i (s.take k))++((if p.1<=top then [(p.1,(i:Int))] else [])++(if p.2+1<=top then [(p.2+1,(i:Int))] else [])):=by rw[hst2,append_assoc]
   generalize l++endS top i (s.take (k+1))=l2 at *;generalize l++endS top i (s.take k)=l1 at *;have a1:=fun(x:MB) (t:Bool)=>Oc (H:=[MB.row 2 (l1.map el2) 0,x]) (i:=0) (p:=(p.1,(i:Int))) (t:=t) rfl (zero_le _) rfl (by omega);have a2:=fun(x:MB) (t:Bool)=>Oc (H:=[MB.row 2 (l1.map el2) 0,x]) (i:=0) (p:=(p.2+1,(i:Int))) (t:=t) rfl (zero_le _) rfl (by omega);have a3:=fun(x:MB) (t:Bool)=>Oc (H:=[MB.row 2 ((l1++[(p.1,(i:Int))]).map el2) 0,x]) (i:=0) (n:=l1.length+1) (p:=(p.2+1,(i:Int))) (t:=t) rfl (zero_le _) (by simp) (by omega);simp only[List.set_cons_zero]at a1 a2 a3;by_cases h1:p.1<=top
   ·by_cases h2:p.2+1<=top
    ·rw[if_pos h1,if_pos h2]at hst3;have e1:l2=l1++[(p.1,(i:Int))]++[(p.2+1,(i:Int))]:=by rw[hst3];simp
     have e2:l2.length=l1.length+1+1:=by rw[e1];simp
     rw[<- e1]at a3;rw[e2];simp +contextual (disch:=omega) only[Tryz.f89,dd89,go_sem,simprocAttr,mu89,↓AE,↓AD,↓AC,↓AA,hp',hw,a1,a3];exact(by first|rfl|(refine AN rfl (by rfl) (by rfl) (by rfl) ?_ ?_<;>simp[AV.underL,AV.under,MB.under,AG,AI,AF,AH,AK,AL,-map_take,Aw,BV]))
    ·rw[if_pos h1,if_neg h2,append_nil]at hst3;have e2:l2.length=l1.length+1:=by rw[hst3];simp
     rw[<- hst3]at a1;rw[e2];simp +contextual (disch:=omega) only[Tryz.f89,dd89,go_sem,simprocAttr,mu89,↓AE,↓AD,↓AC,↓AA,hp',hw,a1];exact(by first|rfl|(refine AN rfl (by rfl) (by rfl) (by rfl) ?_ ?_<;>simp[AV.underL,AV.under,MB.under,AG,AI,AF,AH,AK,AL,-map_take,Aw,BV]))
   ·rw[if_neg h1,if_neg (by omega),append_nil,append_nil]at hst3;have h2:¬ p.2+1<=top:=by omega
    rw[hst3];simp +contextual (disch:=omega) only[Tryz.f89,dd89,go_sem,simprocAttr,mu89,↓AE,↓AD,↓AC,↓AA,hp',hw];exact(by first|rfl|(refine AN rfl (by rfl) (by rfl) (by rfl) ?_ ?_<;>simp[AV.underL,AV.under,MB.under,AG,AI,AF,AH,AK,AL,-map_take,Aw,BV]))
  ·intro _;rw[take_length,<- hst];simp +contextual (disch:=omega) only[Tryz.f89,dd89,go_sem,simprocAttr,mu89,↓AE,↓AD,↓AC,↓AA];exact(by first|rfl|(refine AN rfl (by rfl) (by rfl) (by rfl) ?_ ?_<;>simp[AV.underL,AV.under,MB.under,AG,AI,AF,AH,AK,AL,-map_take,Aw,BV]))
  ·rw[List.take_zero,show endS top i []=[] from rfl,append_nil];exact(by first|rfl|(refine AN rfl (by rfl) (by rfl) (by rfl) ?_ ?_<;>simp[AV.underL,AV.under,MB.under,AG,AI,AF,AH,AK,AL,-map_take,Aw,BV]))
 ·intro _;rw[take_length];have hln:=D8 (top:=top) (L:=L) (i:=0) hsl;have hsm:=G3 htp hs;have hse:=C1 hsm;generalize endsP top 0 L=l at *;obtain⟨H',h1,h2⟩:=LB hsm (n:=l.length) rfl (by omega) (H:=[.row 2 (l.map el2) 0]) (id:=0) rfl;have h102:call Pg pol1 137 [.ms 0 2 l.length 0 l.length,.clo 138 []] [.row 2 (l.map el2) 0]=some (.tup [],H'):=by
   rw[Bb];unfold evStep;rw[if_neg (show ¬ pol1.pure 137=true by decide)];exact h1
  simp +contextual (disch:=omega) only[Tryz.f89,dd89,go_sem,simprocAttr,mu89,↓AE,↓AD,↓AC,↓AA,h102];exact⟨_,As h2 (by rw[length_map];exact hse) (BV _)⟩
end
section
attribute [local go_sem] AV.cells length_append map_append
theorem QK (p:Int×Int) (hg:goodS p) (H:List MB):call Pg pol1 136 [.agg [I p.1,I p.2]] H=some (.bool true,H):=by
 obtain⟨h1,h2,h3⟩:=hg;refine AQ Tryz.func136 rfl rfl rfl rfl rfl rfl (fun _=>rfl) (by simp[AV.plain,AV.plainL]) (by simp[AV.plain]) ?_ H;simp +contextual (disch:=omega) only[Tryz.f136,Pj,go_sem,simprocAttr,evAppend,Pc,↓AE,↓AD,↓AC,↓AA,h1,h2,h3];exact fzEq rfl rfl
theorem f168 (O:List (Int×Int)) (hl:O.length<=1000000) (H:List MB):call Pg pol1 168 [.sl false (O.map spanAV)] H=some (if 64<O.length then .tup [.sl false [],I 4] else .tup [.sl false (O.map spanAV),I 0],H):=by
 have hpl:=AH O;by_cases c:64<O.length
 ·rw[if_pos c];refine AQ Tryz.func168 rfl rfl rfl rfl rfl rfl (fun _=>rfl) (by simp[AV.plain,AV.plainL,hpl]) (by simp[AV.plain,AV.plainL]) ?_ H;simp +contextual (disch:=omega) only[Tryz.f168,Pi,go_sem,simprocAttr,evAppend,Pb,↓AE,↓AD,↓AC,↓AA];exact⟨_,rfl⟩
 ·rw[if_neg c];refine AQ Tryz.func168 rfl rfl rfl rfl rfl rfl (fun _=>rfl) (by simp[AV.plain,AV.plainL,hpl]) (by simp[AV.plain,AV.plainL,hpl]) ?_ H;simp +contextual (disch:=omega) only[Tryz.f168,Pi,go_sem,simprocAttr,evAppend,Pb,↓AE,↓AD,↓AC,↓AA];exact fzEq (by simp[AV.plain,AV.plainL,hpl]) rfl
theorem Qw (b:MB) (O:List (Int×Int)) (m:Nat) (hm:O.length=m) (hl:m<=1000000) :
  call Pg pol1 168 [.ms 1 2 m 0 m] [b,.row 2 (O.map spanAV) 0]=some (if 64<O.length then .tup [.sl false [],I 4] else .tup [.sl false (O.map spanAV),I 0],[b,.row 2 (O.map spanAV) m]):=by
 have hz:=As (id:=1) (k:=2) (tot:=m) (z:=0) (H:=[b,.row 2 (O.map spanAV) 0]) (els:=O.map spanAV) rfl (by rw[length_map];exact hm) (AH O);have hm2:mark [b,.row 2 (O.map spanAV) 0] 1 m=[b,.row 2 (O.map spanAV) m]:=by simp[mark,getRow]
 rw[hm2]at hz;have hby:pol1.byref 168 0=false:=rfl;rw[A3 (P:=Pg) (pol:=pol1) (f:=168) (l:=[.sl false (O.map spanAV)]) (H1:=[b,.row 2 (O.map spanAV) m]) rfl (by simp only[frzArgs,hby,Bool.false_eq_true,if_false,hz]) (by simp[AV.plainL,AV.plain,AH])];exact f168 O (by omega) _
theorem f90e {H:List MB}{id:Nat}{p:Int×Int} (hr:H[id]?=some (.row 2 [] 0)) :
  call Pg pol1 90 [.ms id 2 0 0 0,.agg [I p.1,I p.2]] H=some (.ms id 2 1 0 1,H.set id (.row 2 [spanAV p] 0)++[.row 2 [spanAV p] 0]):=by
 have hlt:=(List.getElem?_eq_some_iff.1 hr).1;have fr:frzArgs pol1 90 0 [.ms id 2 0 0 0,.agg [I p.1,I p.2]] H=some ([.ms id 2 0 0 0,.agg [I p.1,I p.2]],H):=Bk _ _ _ rfl;refine CE (pol:=pol1) Tryz.func90 rfl rfl rfl rfl fr ?_;have rp:∀ H1 r H,retPol pol1 90 H1 r H=some (r,H):=fun H1 r H=>rfl;have hg1:∀ x:MB,(H++[x])[id]?=some (.row 2 [] 0):=fun x=>by rw[getElem?_append_left hlt];exact hr
 have hs1:∀ x y:MB,(H++[x]).set id y=H.set id y++[x]:=fun x y=>List.set_append_left _ _ hlt;have hgl:=fun x:MB=>FN H x;have a1:=fun(x:MB) (t:Bool)=>Oa (H:=H++[x]) (i:=id) (n:=0) (rs:=[]) (p:=p) (t:=t) (by unfold getRow;rw[hg1];rfl) (zero_le _) rfl (by omega);simp only[hs1]at a1;simp +contextual (disch:=omega) only[Tryz.f90,dd90,go_sem,simprocAttr,mu90,↓AE,↓AD,↓AC,↓AA,hg1,hs1,hgl,a1];repeat' (first|intro _|apply And.intro|(unfold dOk;kernel_rfl)|exact St.beq_refl _|exact Aq|(show altO _ _ _ _=true;kernel_rfl)|(show (_||_)=true;kernel_rfl)|(show (_&&_)=true;kernel_rfl))
 rw[rp]
theorem Mo {g:Nat}{xs:List (Int×Int)} (h:∀ x∈xs,Small x) {n:Nat} (hn:xs.length=n) (h0:0<n) (hl:n<=4000000000) {H:List MB}{id:Nat} (hr:getRow H id=some (2,xs.map el2,0)) :
  sort2Ext Sml g srtE [.ms id 2 n 0 n,.clo g []] H=some (.tup [],H.set id (.row 2 ((sortE xs).map el2) 0)):=by
 subst hn;have hu:=Sml.unL_map xs (smlL xs) (FJ h);have hlen:(smlL xs).length=xs.length:=by have:=congrArg List.length (En h);simpa using this
 simp only[sort2Ext];rw[if_neg (by rintro⟨h,_⟩;omega)];simp only[hr,hu];rw[if_pos ⟨trivial,hlen.symm,hlen.symm,by omega,by omega⟩];unfold sortE;rw[map_map];rfl
theorem c156 (l:List (Int×Int)) (h0:0<l.length) (hl:l.length<=1000000):call Pg pol1 156 [.sl false (l.map spanAV)] []=some (.ms 0 2 l.length 0 l.length,[.row 2 (l.map spanAV) 0]):=by
 cases l with
 | nil=>simp at h0
 | cons x l=>
   rw[Bb];unfold evStep;have ha:(((x::l).map spanAV).all fun y=>decide (y.cells.length=2)&&y.cells.all AV.ok)=true:=by
    rw[List.all_eq_true];intro y hy;obtain⟨i,_,rfl⟩:=mem_map.1 hy;rfl
   have hx:cloneExt 2 16 [.sl false ((x::l).map spanAV)] []=some (.ms 0 2 (x::l).length 0 (x::l).length,[.row 2 ((x::l).map spanAV) 0]):=by
    simp only[cloneExt,elemsOf];rw[if_pos ⟨ha,AS (by rw[length_map];omega) (by omega),AH _⟩];simp
   rw[if_neg (show ¬ pol1.pure 156=true by decide)];exact hx
theorem f115 (s:List (Int×Int)) (hg:∀ p∈s,goodS p) (h0:0<s.length) (hl:s.length<=100000) (H:List MB) :
  call Pg pol1 115 [.sl false (s.map spanAV)] H=some (if 64<(normL s).length then .tup [.sl false [],I 4] else .tup [.sl false ((normL s).map spanAV),I 0],H):=by
 have hsm:=Gr hg;have hperm:=C0 hsm;have hsorted:=Cz s;have hok:=KP hsorted (fun p hp=>hg p (hperm.mem_iff.1 hp));have hSl:(sortE s).length=s.length:=hperm.length_eq;have hSg:∀ p∈sortE s,goodS p:=fun p hp=>hg p (hperm.mem_iff.1 hp);have h166:∀(n:Nat),s.length=n->call Pg pol1 166 [.ms 0 2 n 0 n,.clo 167 []] [.row 2 (s.map spanAV) 0]=some (.tup [],[.row 2 ((sortE s).map spanAV) 0]):=fun n hn=>by
  rw[Bb];unfold evStep;rw[if_neg (show ¬ pol1.pure 166=true by decide)];exact Mo (g:=167) hsm hn (by omega) (by omega) (H:=[.row 2 (s.map el2) 0]) (id:=0) rfl
 have h156:=c156 s h0 (by omega);have hrp:AV.plain (if 64<(normL s).length then .tup [.sl false [],I 4] else .tup [.sl false ((normL s).map spanAV),I 0])=true:=by split<;>simp[AV.plain,AV.plainL,AH]
 refine AQ Tryz.func115 rfl rfl rfl rfl rfl rfl (fun _=>rfl) (by simp[AV.plain,AV.plainL,AH]) hrp ?_ H;have h166n:=h166 s.length rfl;simp +contextual (disch:=omega) only[Tryz.f115,Ie,go_sem,simprocAttr,evAppend,II,↓AE,↓AD,↓AC,↓AA];refine AR (M:=(mskOf (pol1.mask 115) (pol1.gc 115) (pol1.acts 115) 0 2)) rfl s.length (fun i=>(⟨38,[(12,I i),(11,I s.length),(10,.sl false (s.map spanAV)),(0,.sl false (s.map spanAV))],[]⟩:St)) (fun i=>True) ?_ ?_ trivial _ (by first|rfl|(refine AN rfl (by rfl) (by rfl) (by rfl) ?_ ?_<;>simp[AV.underL,AV.under,MB.under,AG,AI,AF,AH,AK,AL,-map_take]))
 ·intro i hi _;obtain⟨p,hp⟩:∃ p,s[i]?=some p:=⟨_,getElem?_eq_getElem hi⟩;have hp':(s.map spanAV)[i]?=some (spanAV p):=by simp[hp]
  have h136:=QK p (hg p (mem_of_getElem? hp));simp +contextual (disch:=omega) only[Tryz.f115,Ie,go_sem,simprocAttr,evAppend,II,↓AE,↓AD,↓AC,↓AA,hp',h136,spanAV];exact(by first|rfl|(refine AN rfl (by rfl) (by rfl) (by rfl) ?_ ?_<;>simp[AV.underL,AV.under,MB.under,AG,AI,AF,AH,AK,AL,-map_take]))
 ·intro _;unfold normL;generalize sortE s=S at *;simp +contextual (disch:=omega) only[Tryz.f115,Ie,go_sem,simprocAttr,evAppend,II,↓AE,↓AD,↓AC,↓AA,h156,h166n];refine AR (M:=(mskOf (pol1.mask 115) (pol1.gc 115) (pol1.acts 115) 0 11)) rfl s.length (fun i=>(⟨38,[(26,I i),(25,I s.length),(24,.ms 0 2 s.length 0 s.length),(7,.ms 1 2 (foldI (S.take i)).length 0 (foldI (S.take i)).length)],[.row 2 (S.map spanAV) 0,.row 2 ((foldI (S.take i)).map spanAV) 0]⟩:St)) (fun i=>True) ?_ ?_ trivial _ ?_
  ·intro i hi _;obtain⟨p,hp⟩:∃ p,S[i]?=some p:=⟨_,getElem?_eq_getElem (by omega)⟩;have hp':(S.map spanAV)[i]?=some (spanAV p):=by simp[hp]
   have hgp:=hSg p (mem_of_getElem? hp);have hoi:=hok i (by omega);have hol:=hoi.len;rw[List.length_take]at hol;rw[Lc hp];have hO:=hoi.good;generalize foldI (S.take i)=O at *;obtain⟨g1,g2,g3⟩:=hgp;have h90:∀ b c:MB,call Pg pol1 90 [.ms 1 2 O.length 0 O.length,.agg [I p.1,I p.2]] [b,.row 2 (O.map spanAV) 0,c]=some (.ms 1 2 (addI O p).length 0 (addI O p).length,[b,.row 2 ((addI O p).map spanAV) 0,c,.row 2 [spanAV p] 0]):=fun b c=>by
    rcases Nat.eq_zero_or_pos O.length with h|h
    ·have:O=[]:=List.length_eq_zero_iff.1 h;subst this;exact f90e (H:=[b,.row 2 [] 0,c]) rfl
    ·exact sf68 (H:=[b,.row 2 (O.map spanAV) 0,c]) rfl rfl h (by omega) (fun q hq=>(hO q hq).2.2) ⟨g1,g2,g3⟩ (fun q hq=>by have:=hO q hq;unfold goodS at this;omega)
   generalize addI O p=O2 at *;simp +contextual (disch:=omega) only[Tryz.f115,Ie,go_sem,simprocAttr,evAppend,II,↓AE,↓AD,↓AC,↓AA,hp',h90,hSl,spanAV];exact(by first|rfl|(refine AN rfl (by rfl) (by rfl) (by rfl) ?_ ?_<;>simp[AV.underL,AV.under,MB.under,AG,AI,AF,AH,AK,AL,-map_take]))
  ·intro _;rw[List.take_of_length_le (by omega)];have hoi:=(hok S.length (le_refl _)).len;rw[take_length]at hoi;have h168:=fun b=>Qw b (foldI S) _ rfl (by omega);by_cases c:64<(foldI S).length
   ·rw[if_pos c]at h168 |-;simp +contextual (disch:=omega) only[Tryz.f115,Ie,go_sem,simprocAttr,evAppend,II,↓AE,↓AD,↓AC,↓AA,h168];exact fzEq rfl rfl
   ·rw[if_neg c]at h168 |-;simp +contextual (disch:=omega) only[Tryz.f115,Ie,go_sem,simprocAttr,evAppend,II,↓AE,↓AD,↓AC,↓AA,h168];exact fzEq (by simp[AV.plain,AV.plainL,AH]) rfl
  ·exact(by first|rfl|(refine AN rfl (by rfl) (by rfl) (by rfl) ?_ ?_<;>simp[AV.underL,AV.under,MB.under,AG,AI,AF,AH,AK,AL,-map_take]))
end
section
attribute [local go_sem] AV.cells length_append
theorem Ob {H:List MB}{i n z:Nat}{rs:List Int}{x:Int}{t:Bool} (hi:getRow H i=some (1,rs.map I,z)) (hz:z<=n) (hn:rs.length=n) (hr:n+1<=4000000000) :
  evAppend Pg H 22 22 (.ms i 1 n 0 n) (.sl t [I x])=some (.ms i 1 (n+1) 0 (n+1),H.set i (.row 1 ((rs++[x]).map I) z)):=by
 have hs:srcElems Pg H 3 (.sl t [I x])=some [I x]:=rfl;rw[Al (e:=3) (by kernel_rfl) (by kernel_rfl) (k:=1) (by kernel_rfl) (by_:=8) (by kernel_rfl) (ze:=I 0) (by kernel_rfl) rfl (by omega) hs (by simp[AV.cells,AV.ok]) hi (by rw[length_map];exact hn) hz (AS (by simp;omega) (by omega))];rw[map_append];rfl
theorem Mf {H:List MB}{i n z:Nat}{rs:List Bool}{x:Bool}{t:Bool} (hi:getRow H i=some (1,rs.map AV.bool,z)) (hz:z<=n) (hn:rs.length=n) (hr:n+1<=4000000000) :
  evAppend Pg H 40 40 (.ms i 1 n 0 n) (.sl t [.bool x])=some (.ms i 1 (n+1) 0 (n+1),H.set i (.row 1 ((rs++[x]).map AV.bool) z)):=by
 have hs:srcElems Pg H 4 (.sl t [.bool x])=some [.bool x]:=rfl;rw[Al (e:=4) (by kernel_rfl) (by kernel_rfl) (k:=1) (by kernel_rfl) (by_:=1) (by kernel_rfl) (ze:=.bool false) (by kernel_rfl) rfl (by omega) hs (by simp[AV.cells,AV.ok]) hi (by rw[length_map];exact hn) hz (AS (by simp;omega) (by omega))];rw[map_append];rfl
theorem Mc {H:List MB}{i n z:Nat}{rs:List AV}{x:AV}{t:Bool} (hi:getRow H i=some (1,rs,z)) (hz:z<=n) (hn:rs.length=n) (hr:n+1<=4000000000) (hx:x.cells=[x]) (ho:x.ok=true) :
  evAppend Pg H 39 39 (.ms i 1 n 0 n) (.sl t [x])=some (.ms i 1 (n+1) 0 (n+1),H.set i (.row 1 (rs++[x]) z)):=by
 have hs:srcElems Pg H 22 (.sl t [x])=some [x]:=rfl;rw[Al (e:=22) (by kernel_rfl) (by kernel_rfl) (k:=1) (by kernel_rfl) (by_:=24) (by kernel_rfl) (ze:=.sl true []) (by kernel_rfl) rfl (by omega) hs (by simp[hx,ho]) hi hn hz (AS (by simp;omega) (by omega))];rfl
theorem De {jump:List AV->List MB->Option (List AV×List MB)}{x y:AV}{H H':List MB} (hx:fzA jump x H=some (y,H')):∀(R:List AV),AV.plainL R=true->fzL jump (R++[x]) H=some (R++[y],H')
 | [],_=>by simp only[List.nil_append,fzL,hx]
 | a::R,h=>by
   simp only[AV.plainL,Bool.and_eq_true]at h;simp only[List.cons_append,fzL,D3 jump a H h.1,De hx R h.2]
theorem E6 {a b c a' b' c':AV}{H H1 H2 H3:List MB} (h1:fz a H=some (a',H1)) (h2:fz b H1=some (b',H2)) (h3:fz c H2=some (c',H3)):fz (.agg [a,b,c]) H=some (.agg [a',b',c'],H3):=by
 unfold fz at *;simp only[fzA,fzL,h1,h2,h3]
def someCls (k top:Int):Cls:=if k=0 then [[(0,96),(99,top)],[(97,97)],[(98,98)]] else [[(0,96),(99+k,top)],[(97,97)],[(98,98)],[(99,98+k)]]
def someN (l:List Int):Nat:=(1+pickI l 1 8).toNat
def someRow (l:List Int) (n:Nat) (m i:Nat):List Int:=(List.range m).map fun(c:Nat)=>pickI l (2+5*(i:Int)+(c:Int)) n
def someAc (l:List Int) (i:Nat):Bool:=pickI l (6+5*(i:Int)) 3==0
def someA (l:List Int) (top:Int):AutoL:=
 ⟨someCls (pickI l 0 3) top,(List.range (someN l)).map fun i=>someRow l (someN l) (someCls (pickI l 0 3) top).length i,(List.range (someN l)).map fun i=>someAc l i⟩
def splitArg (k:Int):AV:=.sl true [.sl true [.agg [I 97,I 98]],.sl true [.agg [I 98,.int .i64 (98+k)]]]
theorem s62 (k top:Int) (hk:k=0∨k=1∨k=2) (ht:top=255∨top=1114111) (H:List MB) :
  call Pg pol1 62 [splitArg k,.int .i64 top] H=some (.tup [.sl false ((someCls k top).map setAV9),I 0],H):=by
 rcases hk with rfl|rfl|rfl<;>rcases ht with rfl|rfl
 ·exact A1 (n:=60) 24 62 _ _ _ (by kernel_rfl)
 ·exact A1 (n:=60) 24 62 _ _ _ (by kernel_rfl)
 ·exact A1 (n:=60) 24 62 _ _ _ (by kernel_rfl)
 ·exact A1 (n:=60) 24 62 _ _ _ (by kernel_rfl)
 ·exact A1 (n:=60) 24 62 _ _ _ (by kernel_rfl)
 ·exact A1 (n:=60) 24 62 _ _ _ (by kernel_rfl)
theorem f23 (a:AutoL) (H:List MB):call Pg pol1 23 [autoAV a] H=some (autoAV a,H):=by
 have hpl:=Ac a;obtain⟨cl,nx,ac⟩:=a;refine AQ Tryz.func23 rfl rfl rfl rfl rfl rfl (fun _=>rfl) (by simp only[AV.plainL,hpl];rfl) hpl ?_ H;simp +contextual (disch:=omega) only[Tryz.f23,dd23,go_sem,simprocAttr,evAppend,map_append,mu23,↓AE,↓AD,↓AC,↓AA];exact fzEq hpl rfl
theorem f20 (l:List Int) (hl:∀ x∈l,In64 x) (r:Bool) (H:List MB):call Pg pol1 20 [.sl false (l.map I),.bool r] H=some (autoAV (someA l (if r then 1114111 else 255)),H):=by
 have hp3:=f57 l 0 3 hl (by omega);have hp8:=f57 l 1 8 hl (by omega);have b3:=C7 (l:=l) (i:=0) (m:=3) (by omega);have b8:=C7 (l:=l) (i:=1) (m:=8) (by omega);have ha:=fun(i:Nat)=>f57 l (6+5*(i:Int)) 3 hl (by omega);have hs:=s62 (pickI l 0 3) (if r then 1114111 else 255) (by omega) (by cases r<;>simp);have hm4:(someCls (pickI l 0 3) (if r then 1114111 else 255)).length<=4:=by unfold someCls;split<;>simp
 have hpa:=Ac (someA l (if r then 1114111 else 255));have hpi:=AF l;unfold someA at hpa |-;have hpc:=AM (someCls (pickI l 0 3) (if r then 1114111 else 255));have hN:((someN l:Nat):Int)=1+pickI l 1 8:=by unfold someN;omega
 have hN8:someN l<=8:=by omega
 have hn0:((someN l:Nat):Int)≠0:=by omega
 have hr:=fun(i c:Nat)=>f57 l (2+5*(i:Int)+(c:Int)) (someN l) hl hn0;unfold splitArg at hs;have w1:IntKind.i64.wrap (1+pickI l 1 8)=(someN l:Int):=by rw[i64_in]<;>omega
 have w2:IntKind.i64.wrap (98+pickI l 0 3)=98+pickI l 0 3:=by rw[i64_in];omega
 generalize pickI l 0 3=k3 at *;refine AQ Tryz.func20 rfl rfl rfl rfl rfl rfl (fun _=>rfl) (by simp[AV.plain,AV.plainL,hpi]) hpa ?_ H;generalize hC:someCls k3 (if r then 1114111 else 255)=C at *;generalize hnn:someN l=n at *;cases r
 all_goals
  simp only[Bool.false_eq_true,if_false,if_true]at hs;simp +contextual (disch:=omega) only[Tryz.f20,dd20,go_sem,simprocAttr,map_append,mu20,↓AE,↓AD,↓AC,↓AA,hp3,hp8,hs,w1,w2];refine AR (M:=(mskOf (pol1.mask 20) (pol1.gc 20) (pol1.acts 20) 0 8)) rfl n (fun i=>(⟨72,[(10,I i),(9,I n),(8,.rf 1 1 0 0),(6,.sl false (C.map setAV9)),(4,.rf 0 1 0 0),(0,.sl false (l.map I))],[.row 3 [.agg [.sl true [],.sl true [],.sl true []]] 0,.row 3 [.agg [.sl false (C.map setAV9),.ms 2 1 i 0 i,.ms 3 1 i 0 i]] 0,.row 1 ((List.range i).map fun i=>rowAV (someRow l n C.length i)) 0,.row 1 (((List.range i).map fun i=>someAc l i).map AV.bool) 0]⟩:St)) (fun i=>True) ?_ ?_ trivial _ ?_
  ·intro i hi _;have hR1:AV.plainL ((List.range i).map (fun i=>rowAV (someRow l n C.length i)))=true:=by
    rw[C6];intro x hx;obtain⟨j,_,rfl⟩:=mem_map.1 hx;simp[AV.plain,AF]
   have hR2:=AJ ((List.range i).map fun i=>someAc l i);have hrow0:∀ c,(someRow l n c i).length=c:=fun c=>by simp[someRow]
   simp +contextual (disch:=omega) only[Tryz.f20,dd20,go_sem,simprocAttr,map_append,mu20,↓AE,↓AD,↓AC,↓AA];refine AR (M:=(mskOf (pol1.mask 20) (pol1.gc 20) (pol1.acts 20) 0 12)) rfl C.length (fun c=>(⟨72,[(12,I c),(11,.ms 4 1 c 0 c),(10,I i),(9,I n),(8,.rf 1 1 0 0),(6,.sl false (C.map setAV9)),(4,.rf 0 1 0 0),(0,.sl false (l.map I))],[.row 3 [.agg [.sl true [],.sl true [],.sl true []]] 0,.row 3 [.agg [.sl false (C.map setAV9),.ms 2 1 i 0 i,.ms 3 1 i 0 i]] 0,.row 1 ((List.range i).map fun i=>rowAV (someRow l n C.length i)) 0,.row 1 (((List.range i).map fun i=>someAc l i).map AV.bool) 0,.row 1 ((someRow l n c i).map I) 0]⟩:St)) (fun i=>True) ?_ ?_ trivial _ ?_
   ·intro c hc _;have hs1:someRow l n (c+1) i=someRow l n c i++[pickI l (2+5*(i:Int)+(c:Int)) n]:=by simp[someRow,List.range_succ]
    have hrc:=hr i c;generalize pickI l (2+5*(i:Int)+(c:Int)) n=z at *;have v1:IntKind.i64.wrap (5*(i:Int))=5*(i:Int):=by rw[i64_in]<;>omega
    have v2:IntKind.i64.wrap (2+5*(i:Int))=2+5*(i:Int):=by rw[i64_in]<;>omega
    have v3:IntKind.i64.wrap (2+5*(i:Int)+(c:Int))=2+5*(i:Int)+(c:Int):=by rw[i64_in]<;>omega
    rw[hs1];generalize (List.range i).map (fun i=>rowAV (someRow l n C.length i))=R1 at *;generalize ((List.range i).map fun i=>someAc l i).map AV.bool=R2 at *;have hl1:=hrow0 c;generalize someRow l n c i=rw1 at *;have a1:=fun(b0 b1 b2 b3:MB) (t:Bool)=>Ob (H:=[b0,b1,b2,b3,.row 1 (rw1.map I) 0]) (i:=4) (n:=c) (x:=z) (t:=t) rfl (zero_le _) hl1 (by omega);simp only[Nt]at a1;simp +contextual (disch:=omega) only[Tryz.f20,dd20,go_sem,simprocAttr,mu20,↓AE,↓AD,↓AC,↓AA,v1,v2,v3,hrc,a1];generalize rw1++[z]=rw2;exact(by first|rfl|(refine AN rfl (by rfl) (by rfl) (by rfl) ?_ ?_<;>simp[AV.underL,AV.under,MB.under,AG,AI,AF,AH,AK,AL,-map_take,AF,AM,hR1,hR2]))
   ·intro _;have hl1:=hrow0 C.length;have hs2:(List.range (i+1)).map (fun i=>rowAV (someRow l n C.length i))=(List.range i).map (fun i=>rowAV (someRow l n C.length i))++[rowAV (someRow l n C.length i)]:=by simp[List.range_succ]
    have hs3:(List.range (i+1)).map (fun i=>someAc l i)=(List.range i).map (fun i=>someAc l i)++[someAc l i]:=by simp[List.range_succ]
    have hl2:((List.range i).map (fun i=>rowAV (someRow l n C.length i))).length=i:=by simp
    have hl3:((List.range i).map (fun i=>someAc l i)).length=i:=by simp
    have hac:=ha i;have hac2:someAc l i=(pickI l (6+5*(i:Int)) 3==0):=rfl;rw[hs2,hs3,hac2];generalize pickI l (6+5*(i:Int)) 3=z at *;generalize someRow l n C.length i=rw1 at *;generalize (List.range i).map (fun i=>rowAV (someRow l n C.length i))=R1 at *;generalize (List.range i).map (fun i=>someAc l i)=R2 at *;have v1:IntKind.i64.wrap (5*(i:Int))=5*(i:Int):=by rw[i64_in]<;>omega
    have v2:IntKind.i64.wrap (6+5*(i:Int))=6+5*(i:Int):=by rw[i64_in]<;>omega
    have a1:=fun(b0 b1 b3 b4:MB) (t:Bool)=>Mc (H:=[b0,b1,.row 1 R1 0,b3,b4]) (i:=2) (n:=i) (x:=.ms 4 1 C.length 0 C.length) (t:=t) rfl (zero_le _) hl2 (by omega) rfl rfl;simp only[PY]at a1;have hz:fzs (R1++[.ms 4 1 C.length 0 C.length]) [.row 3 [.agg [.sl true [],.sl true [],.sl true []]] 0,.row 3 [.agg [.sl false (C.map setAV9),.ms 2 1 (i+1) 0 (i+1),.ms 3 1 i 0 i]] 0,.row 1 (R1++[.ms 4 1 C.length 0 C.length]) 0,.row 1 (R2.map AV.bool) 0,.row 1 (rw1.map I) 0]=some (R1++[rowAV rw1],[.row 3 [.agg [.sl true [],.sl true [],.sl true []]] 0,.row 3 [.agg [.sl false (C.map setAV9),.ms 2 1 (i+1) 0 (i+1),.ms 3 1 i 0 i]] 0,.row 1 (R1++[.ms 4 1 C.length 0 C.length]) 0,.row 1 (R2.map AV.bool) 0,.row 1 (rw1.map I) C.length]):=by
     refine De ?_ R1 hR1;have:=As (id:=4) (k:=1) (z:=0) (tot:=C.length) (H:=[.row 3 [.agg [.sl true [],.sl true [],.sl true []]] 0,.row 3 [.agg [.sl false (C.map setAV9),.ms 2 1 (i+1) 0 (i+1),.ms 3 1 i 0 i]] 0,.row 1 (R1++[.ms 4 1 C.length 0 C.length]) 0,.row 1 (R2.map AV.bool) 0,.row 1 (rw1.map I) 0]) rfl (by simp[hl1]) (AF rw1);unfold fz at this;rw[this];simp[mark,getRow]
    have hbq:=AV.beqL_refl (R1++[.ms 4 1 C.length 0 C.length]);have a2:=fun(b0 b1 b2 b4:MB) (t:Bool)=>Mf (H:=[b0,b1,b2,.row 1 (R2.map AV.bool) 0,b4]) (i:=3) (n:=i) (x:=(z==0)) (t:=t) rfl (zero_le _) hl3 (by omega);simp only[PX]at a2;simp +contextual (disch:=omega) only[Tryz.f20,dd20,go_sem,simprocAttr,mu20,↓AE,↓AD,↓AC,↓AA,a1,hz,hbq,hac,v1,v2,a2];repeat' (first|intro _|apply And.intro|(unfold dOk;kernel_rfl)|exact St.beq_refl _|exact Aq|(show altO _ _ _ _=true;kernel_rfl)|(show (_||_)=true;kernel_rfl)|(show (_&&_)=true;kernel_rfl))
    generalize R2++[z==0]=R3;have hR4:AV.plainL (R1++[rowAV rw1])=true:=by
     rw[C6]at hR1 |-;intro x hx;rcases List.mem_append.1 hx with h|h
     ·exact hR1 x h
     ·simp at h;subst h;simp[AV.plain,AF]
    generalize R1++[rowAV rw1]=R4 at *;exact(by first|rfl|(refine AN rfl (by rfl) (by rfl) (by rfl) ?_ ?_<;>simp[AV.underL,AV.under,MB.under,AG,AI,AF,AH,AK,AL,-map_take,AF,AM,hR4,AJ]))
   ·rw[show someRow l n 0 i=[] from rfl];generalize (List.range i).map (fun i=>rowAV (someRow l n C.length i))=R1 at *;generalize ((List.range i).map fun i=>someAc l i).map AV.bool=R2 at *;exact(by first|rfl|(refine AN rfl (by rfl) (by rfl) (by rfl) ?_ ?_<;>simp[AV.underL,AV.under,MB.under,AG,AI,AF,AH,AK,AL,-map_take,AF,AM,hR1,hR2]))
  ·intro _;have hRn:AV.plainL ((List.range n).map (fun i=>rowAV (someRow l n C.length i)))=true:=by
    rw[C6];intro x hx;obtain⟨j,_,rfl⟩:=mem_map.1 hx;simp[AV.plain,AF]
   have hBn:=AJ ((List.range n).map fun i=>someAc l i);simp +contextual (disch:=omega) only[Tryz.f20,dd20,go_sem,simprocAttr,map_append,mu20,↓AE,↓AD,↓AC,↓AA];rw[show (List.range n).map (fun i=>rowAV (someRow l n C.length i))=((List.range n).map fun i=>someRow l n C.length i).map rowAV by rw[map_map];rfl]at hRn |-;refine⟨_,E6 (Ap _ (by simp[AV.plain,AM])) (As (z:=0) rfl (by simp) hRn) (As (z:=0) rfl (by simp) hBn)⟩
  ·exact(by first|rfl|(refine AN rfl (by rfl) (by rfl) (by rfl) ?_ ?_<;>simp[AV.underL,AV.under,MB.under,AG,AI,AF,AH,AK,AL,-map_take,AF,AM]))
end
end Go.Ev
namespace Go.Ev
theorem IK {H:List MB}{id n i k z:Nat}{els:List AV} (h:getRow H i=some (k,els,z)):∃ z',getRow (mark H id n) i=some (k,els,z'):=by
 unfold mark;cases hr:getRow H id with
 | none=>exact⟨z,h⟩
 | some x=>
   obtain⟨k',els',z'⟩:=x;simp only;by_cases e:id=i
   ·subst e;rw[h]at hr;cases hr;unfold getRow at h |-;have hlt:id<H.length:=by
     rcases lt_or_ge id H.length with h1|h1
     ·exact h1
     ·rw[getElem?_eq_none h1]at h;cases h
    rw[getElem?_set_self hlt];exact⟨_,rfl⟩
   ·unfold getRow at h |-;rw[getElem?_set_ne e];exact⟨z,h⟩
def Cel (H:List MB) (k:Nat) (x:AV) (e:List AV):Prop:=AV.plainL e=true/\((∃ t,x=.sl t e)∨∃ id z,x=.ms id k e.length 0 e.length/\getRow H id=some (k,e,z))
theorem Cel.mark {H:List MB}{k:Nat}{x:AV}{e:List AV} (h:Cel H k x e) (id n:Nat):Cel (mark H id n) k x e:=by
 obtain⟨h1,h2⟩:=h;refine⟨h1,?_⟩;rcases h2 with h2|⟨i,z,a,b⟩
 ·exact .inl h2
 ·obtain⟨z',c⟩:=IK (id:=id) (n:=n) b;exact .inr ⟨i,z',a,c⟩
theorem Cel.fz {H:List MB}{k:Nat}{x:AV}{e:List AV} (h:Cel H k x e) (n:Nat):∃ H',fzA (fzJ (n+1)) x H=some (.sl false e,H')/\(H' = H∨∃ id m,H' = Go.Ev.mark H id m):=by
 obtain⟨h1,h2⟩:=h;rcases h2 with ⟨t,rfl⟩|⟨i,z,rfl,b⟩
 ·refine⟨H,?_,.inl rfl⟩;simp only[fzA,BA _ e H h1]
 ·exact⟨_,JD b rfl h1,.inr ⟨_,_,rfl⟩⟩
inductive Marks:List MB->List MB->Prop where
 | refl (H):Marks H H
 | step {H H'} (id n:Nat):Marks H H'->Marks H (mark H' id n)
theorem Marks.trans {A B C:List MB} (h:Marks A B) (g:Marks B C):Marks A C:=by
 induction g with
 | refl=>exact h
 | step id n _ ih=>exact .step id n ih
theorem Marks.cel {H H':List MB} (m:Marks H H') {k:Nat}{x:AV}{e:List AV} (h:Cel H k x e):Cel H' k x e:=by
 induction m with
 | refl=>exact h
 | step id n _ ih=>exact ih.mark id n
theorem Marks.row {H H':List MB} (m:Marks H H') {i k z:Nat}{els:List AV} (h:getRow H i=some (k,els,z)):∃ z',getRow H' i=some (k,els,z'):=by
 induction m with
 | refl=>exact⟨z,h⟩
 | step id n _ ih=>obtain⟨z',h'⟩:=ih;exact IK h'
theorem MU (n k:Nat):∀(xs:List AV) (es:List (List AV)) (H:List MB),xs.length=es.length->(∀(i:Nat) (x:AV) (e:List AV),xs[i]?=some x->es[i]?=some e->Cel H k x e) ->
  ∃ H',fzL (fzJ (n+1)) xs H=some (es.map (AV.sl false),H')/\Marks H H'
 | [],[],H,_,_=>⟨H,rfl,.refl H⟩
 | [],_::_,_,h,_=>by simp at h
 | _::_,[],_,h,_=>by simp at h
 | x::xs,e::es,H,hl,h=>by
   obtain⟨H1,h1,h2⟩:=(h 0 x e rfl rfl).fz n;have hm:Marks H H1:=by
    rcases h2 with rfl|⟨id,m,rfl⟩
    ·exact .refl _
    ·exact .step id m (.refl _)
   obtain⟨H2,h3,h4⟩:=MU n k xs es H1 (by simpa using hl) (fun i x e a b=>hm.cel (h (i+1) x e (by simpa using a) (by simpa using b)));refine⟨H2,?_,hm.trans h4⟩;simp only[fzL,h1,h3,map_cons]
def CelS (H:List MB) (k:Nat) (x:AV) (es:List (List AV)):Prop:=
 (es=[]/\∃ t,x=.sl t [])∨∃ id z xs,x=.ms id 1 xs.length 0 xs.length/\getRow H id=some (1,xs,z)/\xs.length=es.length/\∀(i:Nat) (x:AV) (e:List AV),xs[i]?=some x->es[i]?=some e->Cel H k x e
theorem CelS.fz {H0 H:List MB}{k:Nat}{x:AV}{es:List (List AV)} (h:CelS H0 k x es) (hm:Marks H0 H) (n:Nat):∃ H',fzA (fzJ (n+2)) x H=some (.sl false (es.map (AV.sl false)),H')/\Marks H0 H':=by
 rcases h with ⟨rfl,t,rfl⟩|⟨id,z,xs,rfl,h1,h2,h3⟩
 ·exact⟨H,rfl,hm⟩
 ·obtain⟨z',h4⟩:=hm.row h1;have hm2:Marks H0 (mark H id (0+xs.length)):=.step _ _ hm;obtain⟨H',h5,h6⟩:=MU n k xs es (mark H id (0+xs.length)) h2 (fun i x e a b=>hm2.cel (h3 i x e a b));refine⟨H',?_,hm2.trans h6⟩;refine JE (n:=n+1) (off:=0) (len:=xs.length) h4 rfl (by omega) ?_;rw[List.drop_zero,take_length];exact h5
def cellsL (k:Nat):Nat->List Nat->List AV
 | _,[]=>[]
 | b,n::ns=>.ms b k n 0 n::cellsL k (b+1) ns
theorem Fv (k:Nat):∀(b:Nat) (ns:List Nat) (n:Nat),cellsL k b (ns++[n])=cellsL k b ns++[.ms (b+ns.length) k n 0 n]
 | b,[],n=>rfl
 | b,m::ns,n=>by rw[List.cons_append,cellsL,Fv k (b+1) ns n,cellsL,length_cons,show b+1+ns.length=b+(ns.length+1) by omega];rfl
theorem BH (k:Nat):∀(b:Nat) (ns:List Nat),(cellsL k b ns).length=ns.length
 | _,[]=>rfl
 | b,m::ns=>by rw[cellsL,length_cons,BH k (b+1) ns,length_cons]
theorem Ef (k:Nat):∀(b:Nat) (ns:List Nat) (i n:Nat),ns[i]?=some n->(cellsL k b ns)[i]?=some (.ms (b+i) k n 0 n)
 | _,[],i,n,h=>by simp at h
 | b,m::ns,0,n,h=>by simp at h;subst h;rfl
 | b,m::ns,i+1,n,h=>by
   rw[cellsL,List.getElem?_cons_succ,Ef k (b+1) ns i n (by simpa using h),show b+1+i=b+(i+1) by omega]
def rowsC (L:Cls):List MB:=L.map fun s=>.row 2 (s.map spanAV) 0
abbrev E3:AV:=.agg [.sl true [],.sl true [],.sl true []]
theorem P8 {H:List MB}{i n z:Nat}{rs:List AV}{x:AV}{t:Bool} (hi:getRow H i=some (1,rs,z)) (hz:z<=n) (hn:rs.length=n) (hr:n+1<=4000000000) (hx:x.cells=[x]) (ho:x.ok=true) :
  evAppend Pg H 38 38 (.ms i 1 n 0 n) (.sl t [x])=some (.ms i 1 (n+1) 0 (n+1),H.set i (.row 1 (rs++[x]) z)):=by
 have hs:srcElems Pg H 23 (.sl t [x])=some [x]:=rfl;rw[Al (e:=23) (by kernel_rfl) (by kernel_rfl) (k:=1) (by kernel_rfl) (by_:=24) (by kernel_rfl) (ze:=.sl true []) (by kernel_rfl) rfl (by omega) hs (by simp[hx,ho]) hi hn hz (AS (by simp;omega) (by omega))];rfl
theorem Ku (s:List (Int×Int)):(s.map spanAV).all (fun y=>decide (y.cells.length=2)&&y.cells.all AV.ok)=true:=by
 simp[AV.cells,AV.ok]
def CelT (T:List MB) (k:Nat) (x:AV) (e:List AV):Prop:=AV.plainL e=true/\((∃ t,x=.sl t e)∨∃ id,x=.ms (6+id) k e.length 0 e.length/\T[id]?=some (.row k e 0))
theorem CelT.cel {T:List MB}{k:Nat}{x:AV}{e:List AV} (h:CelT T k x e) (x0 x1 x2 x3 x4 x5:MB):Cel (x0::x1::x2::x3::x4::x5::T) k x e:=by
 obtain⟨h1,h2⟩:=h;refine⟨h1,?_⟩;rcases h2 with h2|⟨id,a,b⟩
 ·exact .inl h2
 ·refine .inr ⟨6+id,0,a,?_⟩;unfold getRow;rw[show 6+id=id+1+1+1+1+1+1 by omega];simp only[List.getElem?_cons_succ,b]
structure CellsT (T:List MB) (k:Nat) (xs:List AV) (es:List (List AV)):Prop where
 len:xs.length=es.length
 cel:∀(i:Nat) (x:AV) (e:List AV),xs[i]?=some x->es[i]?=some e->CelT T k x e
theorem CellsT.snoc {T:List MB}{k:Nat}{xs:List AV}{es:List (List AV)} (h:CellsT T k xs es) {x:AV}{e:List AV} (hx:CelT T k x e):CellsT T k (xs++[x]) (es++[e]):=by
 have hl:=h.len;refine⟨by simp[hl],fun i y f h1 h2=>?_⟩;rcases Nat.lt_trichotomy i xs.length with g|g|g
 ·rw[getElem?_append_left g]at h1;rw[getElem?_append_left (by omega)]at h2;exact h.cel i y f h1 h2
 ·subst g;rw[List.getElem?_append_right (by omega)]at h1 h2;rw[hl]at h1 h2;simp at h1 h2;subst h1;subst h2;exact hx
 ·rw[getElem?_eq_none (by simp;omega)]at h1;cases h1
theorem CellsT.set {T:List MB}{k:Nat}{xs:List AV}{es:List (List AV)} (h:CellsT T k xs es) {x:AV}{e:List AV} (hx:CelT T k x e) (j:Nat):CellsT T k (xs.set j x) (es.set j e):=by
 have hl:=h.len;refine⟨by simp[hl],fun i y f h1 h2=>?_⟩;by_cases g:j=i
 ·subst g;have hj:=(List.getElem?_eq_some_iff.1 h1).1;rw[List.length_set]at hj;rw[getElem?_set_self hj]at h1;rw[getElem?_set_self (by omega)]at h2;cases h1;cases h2;exact hx
 ·rw[getElem?_set_ne g]at h1 h2;exact h.cel i y f h1 h2
theorem CellsT.rep {T:List MB}{k:Nat}{xs:List AV}{es:List (List AV)} (h:CellsT T k xs es) {x:AV}{e:List AV} (hx:CelT T k x e):∀ j,CellsT T k (xs++List.replicate j x) (es++List.replicate j e)
 | 0=>by simpa using h
 | j+1=>by
   have:=(CellsT.rep h hx j).snoc hx;rw[append_assoc,append_assoc,<- List.replicate_succ',<- List.replicate_succ']at this;exact this
theorem set_self {α:Type}{l:List α}{j:Nat}{x:α} (h:l[j]?=some x):l.set j x=l:=by
 apply List.ext_getElem?;intro i;by_cases e:j=i
 ·subst e;rw[getElem?_set_self (List.getElem?_eq_some_iff.1 h).1,h]
 ·rw[getElem?_set_ne e]
theorem HH (k:Nat):∀(b:Nat) (ns:List Nat) (j n:Nat),cellsL k b (ns.set j n)=(cellsL k b ns).set j (.ms (b+j) k n 0 n)
 | _,[],j,n=>by simp[cellsL]
 | b,m::ns,0,n=>rfl
 | b,m::ns,j+1,n=>by
   rw[List.set_cons_succ,cellsL,cellsL,HH k (b+1) ns j n,List.set_cons_succ,show b+1+j=b+(j+1) by omega]
structure SmallA (a:AutoL):Prop where
 cl:a.cl.length<=1000
 set:∀ s∈a.cl,s.length<=64
 nx:a.nx.length<=1000
 ac:a.ac.length<=1000
 row:∀ r∈a.nx,r.length<=1000
theorem Jj:∀ {cl:Cls},(∀ s∈cl,s.length<=64)->(cl.map List.length).sum<=64*cl.length
 | [],_=>by simp
 | s::cl,h=>by
   have h1:=h s (by simp);have h2:=Jj (cl:=cl) (fun t ht=>h t (by simp[ht]));rw[map_cons,List.sum_cons,length_cons];omega
theorem OZ {a:AutoL} (h1:a.cl.length<=1100) (h2:∀ s∈a.cl,s.length<=64) (h3:a.nx.length<=1100) (h4:a.ac.length<=2100) (h5:∀ r∈a.nx,r.length<=1001):AutoB a:=
 ⟨by omega,by have:=Jj h2;omega,by omega,by omega,fun r hr=>by have:=h5 r hr;omega⟩
theorem SmallA.b {a:AutoL} (h:SmallA a):AutoB a:=OZ (by have:=h.cl;omega) h.set (by have:=h.nx;omega) (by have:=h.ac;omega) (fun r hr=>by have:=h.row r hr;omega)
end Go.Ev
